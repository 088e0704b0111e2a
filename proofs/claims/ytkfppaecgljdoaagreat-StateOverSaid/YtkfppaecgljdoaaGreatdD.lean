/- Lemmas, laid one behind the other by squeeze2.py. -/
import Derived.Test.YtkfppaecgljdoaaGreatdC
set_option linter.unusedSimpArgs false
set_option linter.unusedVariables false
set_option linter.unusedSectionVars false
set_option linter.defProp false
section
namespace Go.Proofs.Tryz
open Go.Cs
open Go.RowKit (Below)
abbrev V3:=Int×Int×ByteArray
abbrev Pl:=Option (ByteArray×V3)
def CHDM0:=(aI (aI (aI @underlying3 @underlying4) (aI @underlying9 @underlying5)) (aI (aI @underlying38 @underlying0) (aI @be4 @bn4)))
def plCells:Pl→List Value
 |none=>[.string ⟨#[]⟩,.int .i64 0,.int .i64 0,.string ⟨#[]⟩,.bool false]
 |some (x,k,n,y)=>[.string x,.int .i64 k,.int .i64 n,.string y,.bool true]
def plsCells(P:List Pl):List Value:=P.flatMap plCells
theorem plCells_len(p:Pl):(plCells p).length=5:=by
 cases p with
 |none=>rfl
 |some q=>obtain⟨x,k,n,y⟩:=q;rfl
theorem plsCells_len(P:List Pl):(plsCells P).length=P.length*5:=by
 induction P with
 |nil=>rfl
 |cons p P ih =>
  show (plCells p++plsCells P).length=_
  rw[List.length_append,plCells_len,ih,List.length_cons];omega
theorem plsCells_app(P:List Pl)(p:Pl):plsCells (P ++ [p])=plsCells P++plCells p:=by
 unfold plsCells;simp
theorem plsCells_get:∀ (P:List Pl) (i j:Nat) (p:Pl),P[i]?=some p→j<5→(plsCells P)[i*5+j]?=(plCells p)[j]?:=by
 intro P
 induction P with
 |nil=>intro i j p h;simp at h
 |cons q P ih =>
  intro i j p h hj
  show (plCells q++plsCells P)[i*5+j]?=_
  cases i with
  |zero =>
   simp only[List.getElem?_cons_zero,Option.some.injEq]at h
   subst h
   rw[Nat.zero_mul,Nat.zero_add,List.getElem?_append_left (by rw[plCells_len];exact hj)]
  |succ i =>
   rw[List.getElem?_append_right (by rw[plCells_len];omega),plCells_len,show (i+1)*5+j - 5=i*5+j from oM]
   exact ih i j p (by simpa using h) hj
def KV(es:List MapEntry)(kv:List (ByteArray×Nat)):Prop:=
 es.length=kv.length∧∀ (i:Nat) (e:MapEntry) (x:ByteArray) (j:Nat),es[i]?=some e→kv[i]?=some (x,j)→e.key = .string x∧e.val = .int .i64 (j:Int)
theorem KV.nil:KV [] []:=⟨rfl,fun i e x j h=>by simp at h⟩
def kvIdx:List (ByteArray×Nat)→ByteArray→Option (Nat×Nat)
 | [],_=>none
 |(y,j)::r,x=>if y=x then some (0,j) else (kvIdx r x).map fun p=>(p.1+1,p.2)
theorem KV.tail{e:MapEntry}{es:List MapEntry}{y:ByteArray}{j:Nat}{kv:List (ByteArray×Nat)}(h:KV (e::es) ((y,j)::kv)):e.key = .string y∧e.val = .int .i64 (j:Int)∧KV es kv:=by
 obtain⟨h1,h2⟩:=h
 obtain⟨h3,h4⟩:=h2 0 e y j rfl rfl
 exact⟨h3,h4,by simpa using h1,fun i e' x j' a b=>h2 (i+1) e' x j' (by simpa using a) (by simpa using b)⟩
theorem findKV:∀ (es:List MapEntry) (kv:List (ByteArray×Nat)) (x:ByteArray) (i:Nat),KV es kv→Instr.findNow .string (.string x) es i=some ((kvIdx kv x).map fun p=>(i+p.1,.int .i64 (p.2:Int))):=by
 intro es
 induction es with
 |nil =>
  intro kv x i h
  have:kv=[]:=by have:=h.1;simp at this;exact List.eq_nil_of_length_eq_zero this.symm
  subst this
  rfl
 |cons e es ih =>
  intro kv x i h
  cases kv with
  |nil=>have:=h.1;simp at this
  |cons p kv =>
   obtain⟨y,j⟩:=p
   obtain⟨h1,h2,h3⟩:=h.tail
   simp only[Instr.findNow,Instr.sameNow,h1,kvIdx]
   by_cases e1:y=x
   ·subst e1
    have:(y == y)=true:=ba_beq_iff.2 rfl
    rw[this]
    simp[h2]
   ·have:(x == y)=false:=by rw[Bool.eq_false_iff];intro h;exact e1 (ba_beq_iff.1 h).symm
    rw[this]
    simp only[if_neg e1,ih kv x (i+1) h3]
    cases kvIdx kv x with
    |none=>rfl
    |some p=>simp;omega
theorem cfind_kv{es:List MapEntry}{kv:List (ByteArray×Nat)}(h:KV es kv)(x:ByteArray):cfind Tryz.prog 9 (.string x) es=some ((kvIdx kv x).map fun p=>(p.1,.int .i64 (p.2:Int))):=by
 unfold cfind
 rw[if_pos (show plain 6 (Value.string x)=true from rfl),underlying9]
 simp only[findKV es kv x 0 h,Nat.zero_add]
theorem kvIdx_some:∀ {kv:List (ByteArray×Nat)}{x:ByteArray}{i j:Nat},kvIdx kv x=some (i,j)→kv[i]?=some (x,j):=by
 intro kv
 induction kv with
 |nil=>intro x i j h;cases h
 |cons p kv ih =>
  intro x i j h
  obtain⟨y,j0⟩:=p
  unfold kvIdx at h
  split at h
  ·rename_i e;cases h;simp[e]
  ·obtain⟨q,hq,e⟩:=Option.map_eq_some_iff.1 h
   obtain⟨i',j'⟩:=q
   cases e
   simpa using ih hq
theorem kvIdx_none:∀ {kv:List (ByteArray×Nat)}{x:ByteArray},kvIdx kv x=none→∀ j,(x,j) ∉ kv:=by
 intro kv
 induction kv with
 |nil=>intro x _ j h;cases h
 |cons p kv ih =>
  intro x h j hm
  obtain⟨y,j0⟩:=p
  unfold kvIdx at h
  split at h
  ·cases h
  ·rename_i hne
   have h1:=Option.map_eq_none_iff.1 h
   rcases List.mem_cons.1 hm with e|hm
   ·cases e;exact hne rfl
   ·exact ih h1 j hm
theorem KV.app{es:List MapEntry}{kv:List (ByteArray×Nat)}(h:KV es kv){x:ByteArray}{j b:Nat}:KV (es ++ [{ key := .string x,val := .int .i64 (j:Int),born:=b }]) (kv ++ [(x,j)]):=by
 refine⟨by simp[h.1],fun i e y k h1 h2=>?_⟩
 by_cases hi:i<es.length
 ·rw[List.getElem?_append_left hi]at h1
  rw[List.getElem?_append_left (by rw[← h.1];exact hi)]at h2
  exact h.2 i e y k h1 h2
 ·rw[List.getElem?_append_right oM]at h1
  rw[List.getElem?_append_right (by rw[← h.1];omega),← h.1]at h2
  by_cases h0:i - es.length=0
  ·rw[h0]at h1 h2
   simp at h1 h2
   subst h1
   exact⟨by rw[h2.1],by rw[h2.2]⟩
  ·rw[List.getElem?_eq_none (by simp;omega)]at h1;cases h1
theorem KV.erase{es:List MapEntry}{kv:List (ByteArray×Nat)}(h:KV es kv)(i:Nat):KV (es.eraseIdx i) (kv.eraseIdx i):=by
 refine⟨by rw[List.length_eraseIdx,List.length_eraseIdx,h.1],fun k e x j h1 h2=>?_⟩
 rw[List.getElem?_eraseIdx]at h1 h2
 split at h1
 ·rename_i hk;rw[if_pos hk]at h2;exact h.2 k e x j h1 h2
 ·rename_i hk;rw[if_neg hk]at h2;exact h.2 (k+1) e x j h1 h2
theorem KV.set{es:List MapEntry}{kv:List (ByteArray×Nat)}(h:KV es kv){i:Nat}{x:ByteArray}{j0:Nat}(hi:kv[i]?=some (x,j0))(j:Nat) :
  KV (es.modify i fun e=>{ e with key := .string x,val := .int .i64 (j:Int) }) (kv.set i (x,j)):=by
 refine⟨by rw[List.length_modify,List.length_set,h.1],fun k e y m h1 h2=>?_⟩
 rw[List.getElem?_modify]at h1
 rw[List.getElem?_set]at h2
 by_cases e1:i=k
 ·subst e1
  have hlt:=(List.getElem?_eq_some_iff.1 hi).1
  simp only[if_true,hlt]at h1 h2
  cases h2
  obtain⟨e0,_,rfl⟩:=Option.map_eq_some_iff.1 h1
  exact⟨rfl,rfl⟩
 ·simp only[e1,if_false]at h1 h2
  exact h.2 k e y m (by simpa using h1) h2
structure KP(kv:List (ByteArray×Nat))(P:List Pl):Prop where
 nodup:(kv.map (·.1)).Nodup
 mem:∀ x j,(x,j)∈kv↔∃ v,P[j]?=some (some (x,v))
def props(P:List Pl):List (ByteArray×V3):=P.filterMap id
theorem KP.nil:KP [] []:=⟨List.nodup_nil,fun x j=>by simp⟩
theorem KP.one{kv:List (ByteArray×Nat)}{P:List Pl}(h:KP kv P){x:ByteArray}{j k:Nat}(h1:(x,j)∈kv)(h2:(x,k)∈kv):j=k:=by
 have key:∀ (l:List (ByteArray×Nat)),(l.map (·.1)).Nodup→(x,j)∈l→(x,k)∈l→j=k:=by
  intro l
  induction l with
  |nil=>intro _ h;cases h
  |cons p l ih =>
   intro hn a b
   simp only[List.map_cons,List.nodup_cons]at hn
   rcases List.mem_cons.1 a with ea|a<;>rcases List.mem_cons.1 b with eb|b
   ·rw[← ea]at eb;cases eb;rfl
   ·exact absurd (List.mem_map_of_mem b) (by rw[← ea]at hn;exact hn.1)
   ·exact absurd (List.mem_map_of_mem a) (by rw[← eb]at hn;exact hn.1)
   ·exact ih hn.2 a b
 exact key kv h.nodup h1 h2
theorem KP.idx{kv:List (ByteArray×Nat)}{P:List Pl}(h:KP kv P){x:ByteArray}{i j:Nat}(hi:kvIdx kv x=some (i,j)):∃ v,P[j]?=some (some (x,v)):=
 (h.mem x j).1 (List.mem_of_getElem? (kvIdx_some hi))
theorem KP.no{kv:List (ByteArray×Nat)}{P:List Pl}(h:KP kv P){x:ByteArray}(hi:kvIdx kv x=none)(j:Nat)(v:V3):P[j]?≠some (some (x,v)):=
 fun e=>kvIdx_none hi j ((h.mem x j).2 ⟨v,e⟩)
theorem KP.app{kv:List (ByteArray×Nat)}{P:List Pl}(h:KP kv P){x:ByteArray}(hx:kvIdx kv x=none)(v:V3):KP (kv ++ [(x,P.length)]) (P ++ [some (x,v)]):=by
 refine⟨?_,fun y j=>?_⟩
 ·rw[List.map_append,List.nodup_append]
  refine⟨h.nodup,by simp,fun a ha b hb e=>?_⟩
  simp at hb
  subst hb;subst e
  obtain⟨⟨y,j⟩,hm,e⟩:=List.mem_map.1 ha
  simp only at e
  subst e
  exact kvIdx_none hx j hm
 ·rw[List.mem_append,h.mem]
  constructor
  ·rintro (⟨v',hv⟩|hm)
   ·exact⟨v',by rw[List.getElem?_append_left (List.getElem?_eq_some_iff.1 hv).1];exact hv⟩
   ·simp at hm
    obtain⟨rfl,rfl⟩:=hm
    exact⟨v,by simp⟩
  ·rintro⟨v',hv⟩
   by_cases hj:j<P.length
   ·rw[List.getElem?_append_left hj]at hv;exact .inl ⟨v',hv⟩
   ·rw[List.getElem?_append_right oM]at hv
    by_cases h0:j - P.length=0
    ·rw[h0]at hv
     simp at hv
     right
     simp[hv.1,show j=P.length by omega]
    ·rw[List.getElem?_eq_none (by simp;omega)]at hv;cases hv
theorem KP.put{kv:List (ByteArray×Nat)}{P:List Pl}(h:KP kv P){x:ByteArray}{i j:Nat}(hi:kvIdx kv x=some (i,j))(v:V3):KP kv (P.set j (some (x,v))):=by
 refine⟨h.nodup,fun y k=>?_⟩
 obtain⟨v0,h0⟩:=h.idx hi
 have hlt:=(List.getElem?_eq_some_iff.1 h0).1
 rw[h.mem,List.getElem?_set]
 by_cases e:j=k
 ·subst e
  simp only[if_true,hlt]
  constructor
  ·rintro⟨v',hv⟩
   rw[h0]at hv
   simp at hv
   exact⟨v,by rw[hv.1]⟩
  ·rintro⟨v',hv⟩
   simp at hv
   exact⟨v0,by rw[← hv.1];exact h0⟩
 ·simp only[e,if_false]
theorem KP.del{kv:List (ByteArray×Nat)}{P:List Pl}(h:KP kv P){x:ByteArray}{i j:Nat}(hi:kvIdx kv x=some (i,j)):KP (kv.eraseIdx i) (P.set j none):=by
 obtain⟨v0,h0⟩:=h.idx hi
 have hlt:=(List.getElem?_eq_some_iff.1 h0).1
 have hat:=kvIdx_some hi
 have hmem:∀ y k,(y,k)∈kv.eraseIdx i↔(y,k)∈kv∧y≠x:=by
  intro y k
  rw[List.mem_eraseIdx_iff_getElem?]
  constructor
  ·rintro⟨m,hm,hk⟩
   refine⟨List.mem_of_getElem? hk,fun e=>?_⟩
   subst e
   have hlt1:=(List.getElem?_eq_some_iff.1 hk).1
   have hlt2:=(List.getElem?_eq_some_iff.1 hat).1
   have hnd:=h.nodup
   have e1:(kv.map (·.1))[m]'(by simpa using hlt1)=(kv.map (·.1))[i]'(by simpa using hlt2):=by
    simp only[List.getElem_map]
    rw[(List.getElem?_eq_some_iff.1 hk).2,(List.getElem?_eq_some_iff.1 hat).2]
   exact hm ((List.getElem_inj hnd).1 e1)
  ·rintro⟨hk,hne⟩
   obtain⟨m,hm⟩:=List.getElem?_of_mem hk
   exact⟨m,fun e=>by subst e;rw[hat]at hm;cases hm;exact hne rfl,hm⟩
 refine⟨?_,fun y k=>?_⟩
 ·exact (List.Sublist.map _ (List.eraseIdx_sublist kv i)).nodup h.nodup
 ·rw[hmem,h.mem,List.getElem?_set]
  constructor
  ·rintro⟨⟨v',hv⟩,hne⟩
   refine⟨v',?_⟩
   rw[if_neg]
   ·exact hv
   ·intro e
    subst e
    rw[h0]at hv
    simp at hv
    exact hne hv.1.symm
  ·rintro⟨v',hv⟩
   split at hv
   ·simp at hv
   ·rename_i hne
    refine⟨⟨v',hv⟩,fun e=>?_⟩
    subst e
    exact hne (h.one (List.mem_of_getElem? hat) ((h.mem _ _).2 ⟨v',hv⟩))
end Go.Proofs.Tryz
namespace Go.Proofs.Tryz
open Go.Cs
open Go.RowKit (Below)
set_option maxRecDepth 100000
attribute [local irreducible] QC WLoop WScope
section
variable {M:Type}[Mem M]{w0:World}{s:St M}{R:Value→St M→Prop}
def SlU(e:TypeId)(sz:Nat)(s:St M)(sl:Value)(cs:List Value)(n:Nat):Prop:=
 (n=0∧cs=[]∧sl = .slice none 0 0)∨(∃ b junk,sl = .slice (some ⟨b,0,none⟩) n UNK∧s.at' b=some (.cells (cs++junk) e true)∧cs.length=n*sz)
theorem SlU.same{e:TypeId}{sz:Nat}{s s':St M}{sl:Value}{cs:List Value}{n:Nat}(h:SlU e sz s sl cs n)(hs:∀ q m c,sl = .slice (some q) m c→s'.at' q.block=s.at' q.block):SlU e sz s' sl cs n:=by
 rcases h with h|⟨b,c,h1,h2,h4⟩
 ·exact .inl h
 ·exact .inr ⟨b,c,h1,by rw[hs _ _ _ h1];exact h2,h4⟩
structure DictAt(lo:Nat)(s:St M)(p:Nat)(L:List (ByteArray×V3))(N:Nat)(O:Nat→Prop):Prop where
 own:∀ b,O b→lo≤b∧b<s.next
 pin:O p
 bl:∃ P m sl es clock kv,props P=L∧P.length≤N∧s.at' p=some (.cells [.map (some m),sl] 264 true)∧s.at' m=some (.map es clock)∧KV es kv∧KP kv P∧O m∧m≠p ∧
  SlU 292 5 s sl (plsCells P) P.length∧(∀ q n c,sl = .slice (some q) n c→O q.block∧q.block≠p∧q.block≠m)
theorem DictAt.same{lo:Nat}{s s':St M}{p:Nat}{L:List (ByteArray×V3)}{N:Nat}{O:Nat→Prop}(h:DictAt lo s p L N O)(hn:s.next≤s'.next)(hs:∀ b,O b→s'.at' b=s.at' b):DictAt lo s' p L N O:=by
 obtain⟨h1,h2,P,m,sl,es,clock,kv,h3,hN,h4,h5,h6,h7,h8,h9,h10,h11⟩:=h
 exact⟨fun b hb=>⟨(h1 b hb).1,by have:=(h1 b hb).2;omega⟩,h2,P,m,sl,es,clock,kv,h3,hN,by rw[hs _ h2];exact h4,by rw[hs _ h8];exact h5,h6,h7,h8,h9,h10.same fun q n c e=>hs _ (h11 q n c e).1,h11⟩
def getP:List (ByteArray×V3)→ByteArray→Option V3
 | [],_=>none
 |(y,v)::L,x=>if y=x then some v else getP L x
def vOf(v:V3):Value:=vA v.1 v.2.1 v.2.2
def gotV(o:Option V3):Value:=match o with
 |some v => .tuple #[vOf v,.bool true]
 |none => .tuple #[vA 0 0 ⟨#[]⟩,.bool false]
theorem ddead_spec{p:Nat}{m:Nat}{sl:Value}(h0:s.at' p=some (.cells [.map (some m),sl] 264 true))(h:R (.bool false) s):QC Tryz.prog w0 228 #[.pointer (some ⟨p,0,none⟩)] s R:=by
 refine wfun2 hmix ok228 func228 rfl ntmps228 results228 (by simp) ?_
 simp only[↓Zd,Zp,simprocAttr,cld2,underlying238,h0,nf177,nf238,fa264x0,ag238]
 exact h
theorem dnew_spec(h:∀ s' p,DictAt s.next s' p [] 0 (fun b=>s.next≤b∧b<s'.next)→s.le s'→R (.pointer (some ⟨p,0,none⟩)) s'):QC Tryz.prog w0 134 #[] s R:=by
 refine wfun2 hmix ok134 func134 rfl ntmps134 results134 (by simp) ?_
 have hb:∀ m:Nat,cbuild Tryz.prog 264 #[(0,.map (some m))]=some (.agg #[.map (some m),.slice none 0 0]):=fun m=>by kernel_rfl
 simp only[↓Zd,Zp,Zs,simprocAttr,hb,is264]
 refine h _ _ ⟨fun b hb=>hb,by simp,[],s.next,.slice none 0 0,[],0,[],rfl,Nat.le_refl _,by simp,by simp,.nil,.nil,⟨oM,by simp only[nN];omega⟩,by simp,.inl ⟨rfl,rfl,rfl⟩,fun q n c e=>by cases e⟩ oL
theorem get_props{kv:List (ByteArray×Nat)}{P:List Pl}(h:KP kv P)(x:ByteArray):getP (props P) x=match kvIdx kv x with
  |some (_,j)=>(match P[j]? with|some (some (_,v))=>some v|_=>none)
  |none=>none:=by
 have key:∀ (P:List Pl),(∀ (j k:Nat) (v w:V3),P[j]?=some (some (x,v))→P[k]?=some (some (x,w))→j=k)→(∀ v:V3,getP (props P) x=some v↔∃ j:Nat,P[j]?=some (some (x,v))):=by
  intro P
  induction P with
  |nil=>intro _ v;simp[props,getP]
  |cons p P ih =>
   intro hu v
   have ih:=ih (fun j k v w a b=>by have:=hu (j+1) (k+1) v w (by simpa using a) (by simpa using b);omega) v
   cases p with
   |none =>
    show getP (props P) x=some v↔_
    rw[ih]
    constructor
    ·rintro⟨j,hj⟩;exact⟨j+1,by simpa using hj⟩
    ·rintro⟨j,hj⟩
     cases j with
     |zero=>simp at hj
     |succ j=>exact⟨j,by simpa using hj⟩
   |some q =>
    obtain⟨y,u⟩:=q
    show getP ((y,u)::props P) x=some v↔_
    simp only[getP]
    by_cases e:y=x
    ·subst e
     rw[if_pos rfl]
     constructor
     ·intro e;cases e;exact⟨0,rfl⟩
     ·rintro⟨j,hj⟩
      have:=hu 0 j u v rfl hj
      subst this
      simp at hj
      rw[hj]
    ·rw[if_neg e,ih]
     constructor
     ·rintro⟨j,hj⟩;exact⟨j+1,by simpa using hj⟩
     ·rintro⟨j,hj⟩
      cases j with
      |zero=>simp at hj;exact absurd hj.1 e
      |succ j=>exact⟨j,by simpa using hj⟩
 have hu:∀ (j k:Nat) (v w:V3),P[j]?=some (some (x,v))→P[k]?=some (some (x,w))→j=k:=fun j k v w a b=>h.one ((h.mem x j).2 ⟨v,a⟩) ((h.mem x k).2 ⟨w,b⟩)
 cases hi:kvIdx kv x with
 |none =>
  simp only
  cases hg:getP (props P) x with
  |none=>rfl
  |some v =>
   obtain⟨j,hj⟩:=(key P hu v).1 hg
   exact absurd hj (h.no hi j v)
 |some ij =>
  obtain⟨i,j⟩:=ij
  obtain⟨v,hv⟩:=h.idx hi
  simp only[hv]
  exact (key P hu v).2 ⟨j,hv⟩
theorem bVal:cbuild Tryz.prog 31 #[]=some (.agg #[.int .i64 0,.int .i64 0,.string (ByteArray.mk #[])]):=oK
theorem zc5:∀ (P:List Pl) (j:Nat) (x:ByteArray) (k n:Int) (y:ByteArray) (junk:List Value),P[j]?=some (some (x,k,n,y))→j*5+4≤(plsCells P++junk).length∧List.take 3 (List.drop (j*5+1) (plsCells P++junk))=[.int .i64 k,.int .i64 n,.string y]:=by
 intro P j x k n y junk h
 have hlt:=(List.getElem?_eq_some_iff.1 h).1
 have hl:=plsCells_len P
 refine⟨by rw[List.length_append];omega,?_⟩
 have g:∀ i:Nat,i<5→(plsCells P++junk)[j*5+i]?=[Value.string x,.int .i64 k,.int .i64 n,.string y,.bool true][i]?:=by
  intro i hi
  rw[List.getElem?_append_left oM,plsCells_get P j i _ h hi]
  rfl
 apply List.ext_getElem?
 intro i
 rw[List.getElem?_take]
 by_cases hi:i<3
 ·rw[if_pos hi,List.getElem?_drop,show j*5+1+i=j*5+(i+1) from oM,g (i+1) oM]
  have:i=0∨i=1∨i=2:=oM
  rcases this with rfl|rfl|rfl<;>rfl
 ·rw[if_neg hi,List.getElem?_eq_none (by simp;omega)]
set_option maxHeartbeats 4000000 in
theorem dget_spec{lo p:Nat}{L:List (ByteArray×V3)}{N:Nat}{x:ByteArray}{O:Nat→Prop}(hD:DictAt lo s p L N O)(h:∀ s',s.le s'→R (gotV (getP L x)) s'):QC Tryz.prog w0 269 #[.pointer (some ⟨p,0,none⟩),.string x] s R:=by
 refine wfun2 hmix ok269 func269 rfl ntmps269 results269 (by simp) ?_
 obtain⟨h1,h2,P,m,sl,es,clock,kv,h3,hN,h4,h5,h6,h7,h8,h9,h10,h11⟩:=hD
 have hp:=(h1 p h2).2
 have hm:=(h1 m h8).2
 have hpn:¬ p=s.next:=oM
 have hmn:¬ m=s.next:=oM
 simp only[↓Zd,Zp,Zs,simprocAttr,ze31,co228]
 refine ddead_spec (m:=m) (sl:=sl) (by rw[aN,if_neg hpn];exact h4) ?_
 subst h3
 have hcf:=cfind_kv h6 x
 rw[get_props h7]at h
 cases hi:kvIdx kv x with
 |none =>
  rw[hi]at h hcf
  simp only[↓Zd,Zp,Zs,simprocAttr,underlying4,ag31,ce31,underlying238,underlying265,h4,h5,hpn,hmn,hcf,bVal,sz31,ze3,fa264x0,ag238]
  exact h _ oL
 |some ij =>
  obtain⟨i,j⟩:=ij
  obtain⟨⟨k,n,y⟩,hv⟩:=h7.idx hi
  rw[hi]at h hcf
  simp only[hv]at h
  have hlt:=(List.getElem?_eq_some_iff.1 hv).1
  rcases h10 with ⟨e0,_⟩|⟨b,junk,rfl,hb,hl⟩
  ·omega
  have hbn:¬ b=s.next:=by have:=(h1 b (h11 _ _ _ rfl).1).2;omega
  have hlt':(j:Int)<(P.length:Int):=oM
  have hge:(0:Int)≤(j:Int):=oM
  obtain⟨hle,htk⟩:=zc5 P j x k n y junk hv
  simp only[↓Zd,Zp,Zs,simprocAttr,underlying4,underlying31,ag31,ce31,underlying238,underlying265,underlying262,h4,h5,hpn,hmn,hcf,sz31,ze3,fa264x0,fa264x1,fa292x1,ag238,ag262,sz292,hlt',hge,hb,hbn,hle,htk]
  exact h _ oL
end
end Go.Proofs.Tryz
namespace Go.Proofs.Tryz
open Go.Cs
open Go.RowKit (Below)
set_option maxRecDepth 100000
attribute [local irreducible] QC WLoop WScope
def setP:List (ByteArray×V3)→ByteArray→V3→List (ByteArray×V3)
 | [],x,v=>[(x,v)]
 |(y,w)::L,x,v=>if y=x then (x,v)::L else (y,w)::setP L x v
theorem setP_none:∀ (L:List (ByteArray×V3)) (x:ByteArray) (v:V3),getP L x=none→setP L x v=L ++ [(x,v)]:=by
 intro L
 induction L with
 |nil=>intro x v _;rfl
 |cons p L ih =>
  intro x v h
  obtain⟨y,w⟩:=p
  simp only[getP]at h
  simp only[setP]
  split at h
  ·cases h
  ·rename_i e;rw[if_neg e,ih x v h];rfl
theorem props_set:∀ (P:List Pl) (j:Nat) (x:ByteArray) (v w:V3),P[j]?=some (some (x,w))→(∀ (k:Nat) (u:V3),P[k]?=some (some (x,u))→k=j)→props (P.set j (some (x,v)))=setP (props P) x v:=by
 intro P
 induction P with
 |nil=>intro j x v w h;simp at h
 |cons p P ih =>
  intro j x v w h hu
  cases j with
  |zero =>
   simp at h
   subst h
   show (x,v)::props P=setP ((x,w)::props P) x v
   simp[setP]
  |succ j =>
   have ih:=ih j x v w (by simpa using h) (fun k u hk=>by have:=hu (k+1) u (by simpa using hk);omega)
   cases p with
   |none=>exact ih
   |some q =>
    obtain⟨y,u⟩:=q
    have hne:¬ y=x:=fun e=>by subst e;have:=hu 0 u rfl;omega
    show (y,u)::props (P.set j (some (x,v)))=setP ((y,u)::props P) x v
    simp only[setP,if_neg hne,ih]
theorem props_app(P:List Pl)(x:ByteArray)(v:V3):props (P ++ [some (x,v)])=props P ++ [(x,v)]:=by
 unfold props;simp
theorem set_pls:∀ (P:List Pl) (j:Nat) (x:ByteArray) (w:V3) (k n:Int) (y:ByteArray) (junk:List Value),P[j]?=some (some (x,w)) →
  setCells (plsCells P++junk) (j*5+1) [.int .i64 k,.int .i64 n,.string y]=plsCells (P.set j (some (x,k,n,y)))++junk:=by
 intro P j x w k n y junk h
 simp only[setCells_cons,setCells_nil]
 apply List.ext_getElem?
 intro i
 have hlt:=(List.getElem?_eq_some_iff.1 h).1
 have hl:=plsCells_len P
 have hl2:=plsCells_len (P.set j (some (x,k,n,y)))
 rw[List.length_set]at hl2
 by_cases hi:i<P.length*5
 ·rw[List.getElem?_append_left oM]
  obtain⟨q,r,rfl,hr⟩:∃ q r,i=q*5+r∧r<5:=⟨i / 5,i % 5,oM,Nat.mod_lt _ oM⟩
  have hq:q<P.length:=oM
  have hP:P[q]?=some P[q]:=by simp[hq]
  have base:(plsCells P++junk)[q*5+r]?=(plCells P[q])[r]?:=by rw[List.getElem?_append_left oM];exact plsCells_get P q r _ hP hr
  by_cases e:q=j
  ·subst e
   rw[hP]at h
   simp at h
   rw[plsCells_get _ q r (some (x,k,n,y)) (by simp[hq]) hr]
   rw[h]at base
   have:r=0∨r=1∨r=2∨r=3∨r=4:=oM
   have hlen:q*5+4<(plsCells P++junk).length:=by rw[List.length_append];omega
   rcases this with rfl|rfl|rfl|rfl|rfl
   ·rw[List.getElem?_set_ne oM,List.getElem?_set_ne oM,List.getElem?_set_ne oM,base];rfl
   ·rw[List.getElem?_set_ne oM,List.getElem?_set_ne oM,List.getElem?_set_self oM];rfl
   ·rw[List.getElem?_set_ne oM,show q*5+2=q*5+1+1 from rfl,List.getElem?_set_self (by rw[List.length_set];omega)];rfl
   ·rw[show q*5+3=q*5+1+1+1 from rfl,List.getElem?_set_self (by rw[List.length_set,List.length_set];omega)];rfl
   ·rw[List.getElem?_set_ne oM,List.getElem?_set_ne oM,List.getElem?_set_ne oM,base];rfl
  ·rw[plsCells_get _ q r P[q] (by rw[List.getElem?_set,if_neg (Ne.symm e)];exact hP) hr,← base]
   rw[List.getElem?_set_ne oM,List.getElem?_set_ne oM,List.getElem?_set_ne oM]
 ·rw[List.getElem?_append_right oM,hl2]
  rw[List.getElem?_set_ne oM,List.getElem?_set_ne oM,List.getElem?_set_ne oM,List.getElem?_append_right oM,hl]
section
variable {M:Type}[Mem M]{w0:World}{s:St M}{R:Value→St M→Prop}
theorem app_rowU{P:Program}{s:St M}{e t1 t2:TypeId}{ie:TypeInfo}{z sl v:Value}{old new:List Value}{n k:Nat}(hie:P.info? e=some ie)(hz:czero P e=some z)(hzs:z.cells.size=ie.size)(hb:0<ie.bytes)
  (happ:capp P #[t1,t2] #[sl,v] s=capp3 P e ie sl s (cmore ie.size v s))(hk:k≠0)(hlen:(n+k)*ie.bytes≤140737488355328)(hok:new.all qC=true)(hv:cmore ie.size v s=some (k,new))(hsl:SlU e ie.size s sl old n) :
  ∃ s',capp P #[t1,t2] #[sl,v] s=some (.slice (some ⟨s.next,0,none⟩) (n+k) UNK,s')∧s'.next=s.next+1∧s'.at' s.next=some (.cells (old++new) e true) ∧
   (∀ b,b≠s.next→(∀ q m c,sl = .slice (some q) m c→b≠q.block)→s'.at' b=s.at' b):=by
 rw[happ,hv]
 unfold capp3
 simp only[hok,Bool.true_eq_false,if_false]
 rcases hsl with ⟨rfl,rfl,rfl⟩|⟨b,junk,rfl,hb',hl⟩
 ·simp only[hk,if_false]
  unfold cgrow
  rw[hz]
  simp only[hzs]
  rw[if_pos ⟨trivial,hb,by simpa using hlen⟩]
  exact⟨s.new (.cells new e true),by simp,by simp,by simp,fun c hc _=>by rw[aN,if_neg hc]⟩
 ·have hcut:cut (old++junk) 0 (n*ie.size)=some old:=by
   unfold cut
   rw[if_pos (by rw[List.length_append];omega),List.drop_zero,← hl,List.take_left']
   rfl
  simp only[if_true,hk,if_false,hb']
  unfold capp4
  simp only[hcut,Nat.zero_mod,and_self,if_true]
  unfold cgrow
  rw[hz]
  simp only[hzs]
  rw[if_pos ⟨trivial,hb,hlen⟩]
  refine⟨(s.kill b).new (.cells (old++new) e true),by simp,by simp,by simp,fun c hc hq=>?_⟩
  rw[aN,St.next_kill,if_neg hc,St.at_kill,if_neg (hq _ _ _ rfl)]
theorem bPlace(x:ByteArray)(k n:Int)(y:ByteArray):cbuild Tryz.prog 292 #[(0,.string x),(1,.agg #[.int .i64 k,.int .i64 n,.string y]),(2,.bool true)]=some (.agg #[.string x,.int .i64 k,.int .i64 n,.string y,.bool true]):=oK
theorem rowPlace(x:ByteArray)(k n:Int)(y:ByteArray):crow Tryz.prog 262 1 #[(0,.agg #[.string x,.int .i64 k,.int .i64 n,.string y,.bool true])]=some (.cells [.string x,.int .i64 k,.int .i64 n,.string y,.bool true] 292 true):=oK
theorem infoPlace:∃ ie,Tryz.prog.info? 292=some ie∧ie.size=5∧0<ie.bytes∧ie.bytes≤100:=by
 obtain⟨ie,h⟩:=Option.isSome_iff_exists.1 is292
 have h1:=ce292
 have h2:decide (0<Tryz.prog.bytesOf 292∧Tryz.prog.bytesOf 292≤100)=true:=oK
 rw[cellsOf_info h]at h1
 simp only[Program.bytesOf,h,decide_eq_true_eq]at h2
 exact⟨ie,h,h1,h2.1,h2.2⟩
theorem app_place{s:St M}{sl:Value}{P:List Pl}{x:ByteArray}{k n:Int}{y:ByteArray}(hlen:P.length≤1000000)(hsl:SlU 292 5 s sl (plsCells P) P.length)(hfr:∀ q m c,sl = .slice (some q) m c→q.block<s.next) :
  ∃ s',capp Tryz.prog #[262,262] #[sl,.slice (some ⟨s.next,0,none⟩) 1 1] (s.new (.cells [.string x,.int .i64 k,.int .i64 n,.string y,.bool true] 292 true))=some (.slice (some ⟨s.next+1,0,none⟩) (P.length+1) UNK,s')∧s'.next=s.next+2 ∧
   s'.at' (s.next+1)=some (.cells (plsCells (P ++ [some (x,k,n,y)])) 292 true)∧(∀ b,b<s.next→(∀ q n c,sl = .slice (some q) n c→b≠q.block)→s'.at' b=s.at' b):=by
 obtain⟨ie,hie,h1,h2,h3⟩:=infoPlace
 have hcapp:capp Tryz.prog #[262,262] #[sl,.slice (some ⟨s.next,0,none⟩) 1 1] (s.new (.cells [.string x,.int .i64 k,.int .i64 n,.string y,.bool true] 292 true))=capp3 Tryz.prog 292 ie sl (s.new (.cells [.string x,.int .i64 k,.int .i64 n,.string y,.bool true] 292 true)) (cmore ie.size (.slice (some ⟨s.next,0,none⟩) 1 1) (s.new (.cells [.string x,.int .i64 k,.int .i64 n,.string y,.bool true] 292 true))):=
  app_eq underlying262 underlying262 hie
 have hv:cmore ie.size (.slice (some ⟨s.next,0,none⟩) 1 1) (s.new (.cells [.string x,.int .i64 k,.int .i64 n,.string y,.bool true] 292 true))=some (1,[.string x,.int .i64 k,.int .i64 n,.string y,.bool true]):=by
  simp only[more_at,aN,if_true,more2,h1];rfl
 obtain⟨s',h3,h4,h5,h6⟩:=app_rowU (n:=P.length) (k:=1) hie ze292 (by rw[h1];rfl) h2 hcapp oM (by
  have:(P.length+1)*ie.bytes≤1000001*100:=Nat.mul_le_mul oM h3
  omega) rfl hv (by rw[h1];exact hsl.same fun q m c e=>by rw[aN,if_neg (by have:=hfr q m c e;omega)])
 refine⟨s',by simpa using h3,by simp at h4;omega,by rw[plsCells_app];exact h5,fun b hb hq=>?_⟩
 rw[h6 b (by simp;omega) hq,aN,if_neg oM]
set_option maxHeartbeats 8000000 in
theorem dset_spec{lo p:Nat}{L:List (ByteArray×V3)}{N:Nat}{x:ByteArray}{k n:Int}{y:ByteArray}{O:Nat→Prop}(hD:DictAt lo s p L N O)(hlo:lo≤s.next)(hN:N≤1000000)
  (h:∀ s' O',DictAt lo s' p (setP L x (k,n,y)) (N+1) O'→s.next≤s'.next→(∀ b,b<s.next→¬ O b→s'.at' b=s.at' b)→(∀ b,O' b→O b∨s.next≤b)→R (.bool (getP L x).isNone) s') :
  QC Tryz.prog w0 166 #[.pointer (some ⟨p,0,none⟩),.string x,vA k n y] s R:=by
 refine wfun2 hmix ok166 func166 rfl ntmps166 results166 (by simp) ?_
 obtain⟨h1,h2,P,m,sl,es,clock,kv,h3,hPN,h4,h5,h6,h7,h8,h9,h10,h11⟩:=hD
 have hp:=(h1 p h2).2
 have hm:=(h1 m h8).2
 have hpn:¬ p=s.next:=oM
 have hmn:¬ m=s.next:=oM
 simp only[↓Zd,Zp,Zs,simprocAttr,vA,is31,co228]
 refine ddead_spec (m:=m) (sl:=sl) (by rw[aN,if_neg hpn];exact h4) ?_
 subst h3
 have hcf:=cfind_kv h6 x
 have hg:=get_props h7 x
 cases hi:kvIdx kv x with
 |some ij =>
  obtain⟨i,j⟩:=ij
  obtain⟨v0,hv⟩:=h7.idx hi
  rw[hi]at hcf hg
  simp only[hv]at hg
  rw[hg]at h
  have hlt:=(List.getElem?_eq_some_iff.1 hv).1
  rcases h10 with ⟨e0,_⟩|⟨b,junk,rfl,hb,hl⟩
  ·omega
  have hbO:=h11 _ _ _ rfl
  have hbn:¬ b=s.next:=by have:=(h1 b hbO.1).2;omega
  have hlt':(j:Int)<(P.length:Int):=oM
  have hge:(0:Int)≤(j:Int):=oM
  obtain⟨hle,_⟩:=zc5 P j x v0.1 v0.2.1 v0.2.2 junk hv
  have hset:=set_pls P j x v0 k n y junk hv
  simp only[↓Zd,Zp,Zs,simprocAttr,underlying4,underlying31,vA,ag31,ce31,underlying238,underlying265,underlying262,ord166,h4,h5,hpn,hmn,hcf,sz31,ze3,fa264x0,fa264x1,fa292x1,ag238,ag262,sz292,hlt',hge,hb,hbn,hle,hset]
  have hpb:¬ p=b:=fun e=>hbO.2.1 e.symm
  have hmb:¬ m=b:=fun e=>hbO.2.2 e.symm
  refine h _ O ⟨fun c hc=>⟨(h1 c hc).1,by have:=(h1 c hc).2;simp only[Sn];omega⟩,h2,P.set j (some (x,k,n,y)),m,_,es,clock,kv,props_set P j x _ v0 hv (fun q u hq=>h7.one ((h7.mem x q).2 ⟨u,hq⟩) ((h7.mem x j).2 ⟨v0,hv⟩)),
   by rw[List.length_set];omega,?_,?_,h6,h7.put hi _,h8,h9,.inr ⟨b,junk,by rw[List.length_set],?_,by rw[plsCells_len,List.length_set]⟩,h11⟩ (by simp only[Sn];omega) ?_ (fun c hc => .inl hc)
  ·rw[aP,if_neg hpb,aN,if_neg hpn];exact h4
  ·rw[aP,if_neg hmb,aN,if_neg hmn];exact h5
  ·rw[aP,if_pos rfl]
  ·intro c hc ho
   rw[aP,if_neg (fun e:c=b=>ho (e▸hbO.1)),aN,if_neg oM]
 |none =>
  rw[hi]at hcf hg
  simp only at hg
  rw[hg]at h
  have hmap:s.at' m=some (.map es clock):=h5
  have h10':SlU 292 5 ((s.new (.cells [.int .i64 k,.int .i64 n,.string y] 31 true)).put m (.map (es ++ [{ key := .string x,val := .int .i64 (P.length:Int),born:=clock }]) (clock+1))) sl (plsCells P) P.length:=
   h10.same fun q a c e=>by rw[aP,if_neg (h11 q a c e).2.2,aN,if_neg (by have:=(h1 _ (h11 q a c e).1).2;omega)]
  obtain⟨s3,happ,hn3,hat3,hk3⟩:=app_place (x:=x) (k:=k) (n:=n) (y:=y) oM h10' (fun q a c e=>by have:=(h1 _ (h11 q a c e).1).2;simp only[Sn];omega)
  simp only[Sn]at happ hn3 hat3 hk3
  have hmp:¬ m=p:=h9
  have hpm:¬ p=m:=fun e=>h9 e.symm
  have hp3:s3.at' p=some (.cells [.map (some m),sl] 264 true):=by rw[hk3 p oM (fun q a c e e2=>(h11 q a c e).2.1 e2.symm),aP,if_neg hpm,aN,if_neg hpn];exact h4
  have hnm:¬ s.next=m:=fun e=>hmn e.symm
  have hnp:¬ s.next=p:=fun e=>hpn e.symm
  obtain⟨a0,c0,rfl⟩:∃ a0 c0,sl = .slice a0 P.length c0:=by
   rcases h10 with ⟨e0,_,rfl⟩|⟨b,junk,rfl,_⟩
   ·exact⟨none,0,by rw[e0]⟩
   ·exact⟨_,_,rfl⟩
  simp only[↓Zd,Zp,Zs,simprocAttr,underlying4,underlying31,vA,ag31,ce31,underlying238,underlying265,underlying262,ord166,h4,h5,hpn,hmn,hpm,hnm,hcf,ze3,fa264x0,fa264x1,ag238,ag262,sz262,bPlace,rowPlace,happ,hp3]
  rw[setP_none _ _ _ hg]at h
  have hb2:∀ q a c,Value.slice a0 P.length c0 = .slice (some q) a c→O q.block∧q.block≠p∧q.block≠m:=h11
  refine h _ (fun b=>b=p∨b=m∨b=s.next+2) ⟨?_,.inl rfl,P ++ [some (x,k,n,y)],m,.slice (some ⟨s.next+2,0,none⟩) (P.length+1) UNK,es ++ [{ key := .string x,val := .int .i64 (P.length:Int),born:=clock }],clock+1,kv ++ [(x,P.length)],props_app P x (k,n,y),(by rw[List.length_append];simp only[List.length_cons,List.length_nil];omega),?_,?_,h6.app,h7.app hi (k,n,y),.inr (.inl rfl),h9,.inr ⟨s.next+2,[],by simp,?_,plsCells_len _⟩,?_⟩ ?_ ?_ ?_
  ·rintro b (rfl|rfl|rfl)
   ·exact⟨(h1 _ h2).1,by simp only[nU];omega⟩
   ·exact⟨(h1 _ h8).1,by simp only[nU];omega⟩
   ·exact⟨oM,by simp only[nU];omega⟩
  ·rw[aP,if_pos rfl]
  ·rw[aP,if_neg hmp,hk3 m oM (fun q a c e e2=>(h11 q a c e).2.2 e2.symm),aP,if_pos rfl]
  ·rw[aP,if_neg oM,List.append_nil]
   exact hat3
  ·intro q a c e
   cases e
   exact⟨.inr (.inr rfl),by show s.next+2≠p;omega,by show s.next+2≠m;omega⟩
  ·simp only[nU];omega
  ·intro b hb ho
   rw[aP,if_neg (fun e:b=p=>ho (e▸h2)),hk3 b oM (fun q a c e e2=>ho (e2▸(h11 q a c e).1)),aP,if_neg (fun e:b=m=>ho (e▸h8)),aN,if_neg oM]
  ·rintro b (rfl|rfl|rfl)
   ·exact .inl h2
   ·exact .inl h8
   ·exact .inr oM
end
end Go.Proofs.Tryz
namespace Go.Proofs.Tryz
open Go.Cs
open Go.RowKit (Below)
set_option maxRecDepth 100000
attribute [local irreducible] QC WLoop WScope
def Uniq(P:List Pl):Prop:=∀ (j k:Nat) (x:ByteArray) (v w:V3),P[j]?=some (some (x,v))→P[k]?=some (some (x,w))→j=k
theorem KP.uniq{kv:List (ByteArray×Nat)}{P:List Pl}(h:KP kv P):Uniq P:=fun j k x v w a b=>h.one ((h.mem x j).2 ⟨v,a⟩) ((h.mem x k).2 ⟨w,b⟩)
theorem mem_props{P:List Pl}{x:ByteArray}:x∈(props P).map (·.1)↔∃ (j:Nat) (v:V3),P[j]?=some (some (x,v)):=by
 unfold props
 rw[List.mem_map]
 constructor
 ·rintro⟨⟨y,v⟩,hm,rfl⟩
  obtain⟨p,hp,e⟩:=List.mem_filterMap.1 hm
  simp only[id]at e
  subst e
  obtain⟨j,hj⟩:=List.getElem?_of_mem hp
  exact⟨j,v,hj⟩
 ·rintro⟨j,v,hj⟩
  exact⟨(x,v),List.mem_filterMap.2 ⟨some (x,v),List.mem_of_getElem? hj,rfl⟩,rfl⟩
theorem uniq_tail{p:Pl}{P:List Pl}(h:Uniq (p::P)):Uniq P:=fun j k x v w a b=>by
 have:=h (j+1) (k+1) x v w (by simpa using a) (by simpa using b)
 omega
theorem nodup_props:∀ {P:List Pl},Uniq P→((props P).map (·.1)).Nodup:=by
 intro P
 induction P with
 |nil=>intro _;exact List.nodup_nil
 |cons p P ih =>
  intro h
  cases p with
  |none=>exact ih (uniq_tail h)
  |some q =>
   obtain⟨x,v⟩:=q
   show (x::(props P).map (·.1)).Nodup
   rw[List.nodup_cons]
   refine⟨fun hm=>?_,ih (uniq_tail h)⟩
   obtain⟨j,w,hj⟩:=mem_props.1 hm
   have:=h 0 (j+1) x v w rfl (by simpa using hj)
   omega
theorem KP.len{kv:List (ByteArray×Nat)}{P:List Pl}(h:KP kv P):kv.length=(props P).length:=by
 have hp:(kv.map (·.1)).Perm ((props P).map (·.1)):=by
  rw[List.perm_ext_iff_of_nodup h.nodup (nodup_props h.uniq)]
  intro x
  rw[mem_props,List.mem_map]
  constructor
  ·rintro⟨⟨y,j⟩,hm,rfl⟩
   obtain⟨v,hv⟩:=(h.mem y j).1 hm
   exact⟨j,v,hv⟩
  ·rintro⟨j,v,hv⟩
   exact⟨(x,j),(h.mem x j).2 ⟨v,hv⟩,rfl⟩
 have:=hp.length_eq
 simpa using this
theorem zp5(P:List Pl)(j:Nat)(p:Pl)(junk:List Value)(h:P[j]?=some p):j*5+5≤(plsCells P++junk).length∧List.take 5 (List.drop (j*5) (plsCells P++junk))=plCells p:=by
 have hlt:=(List.getElem?_eq_some_iff.1 h).1
 have hl:=plsCells_len P
 refine⟨by rw[List.length_append];omega,?_⟩
 apply List.ext_getElem?
 intro i
 rw[List.getElem?_take]
 by_cases hi:i<5
 ·rw[if_pos hi,List.getElem?_drop,List.getElem?_append_left oM,plsCells_get P j i p h hi]
 ·rw[if_neg hi,List.getElem?_eq_none (by rw[plCells_len];omega)]
section
variable {M:Type}[Mem M]{w0:World}{s:St M}{R:Value→St M→Prop}
theorem dlen_spec{lo p:Nat}{L:List (ByteArray×V3)}{N:Nat}{O:Nat→Prop}(hD:DictAt lo s p L N O)(h:R (.int .i64 (L.length:Int)) s):QC Tryz.prog w0 270 #[.pointer (some ⟨p,0,none⟩)] s R:=by
 refine wfun2 hmix ok270 func270 rfl ntmps270 results270 (by simp) ?_
 obtain⟨h1,h2,P,m,sl,es,clock,kv,h3,hPN,h4,h5,h6,h7,h8,h9,h10,h11⟩:=hD
 have hl:es.length=L.length:=by rw[h6.1,h7.len,h3]
 have hlen1:clen (some (.map 9 3)) (some (.map (some m)))=none:=rfl
 have hlen2:clenM s (some (.map 9 3)) (some (.map (some m)))=some (.int .i64 (L.length:Int)):=by simp only[clenM,h5,hl]
 simp only[↓Zd,Zp,simprocAttr,co228]
 refine ddead_spec h4 ?_
 simp only[↓Zd,Zp,simprocAttr,cld2,CHDM0,underlying238,h4,hlen1,hlen2,fa264x0,ag238]
 exact h
def keyV(L:List (ByteArray×V3))(i:Int):Value:=if 0≤i∧i<L.length then .tuple #[.string (L.getD i.toNat (⟨#[]⟩,0,0,⟨#[]⟩)).1,.bool true] else .tuple #[.string ⟨#[]⟩,.bool false]
set_option maxHeartbeats 4000000 in
theorem dkey_spec{lo p:Nat}{L:List (ByteArray×V3)}{N:Nat}{i:Int}{O:Nat→Prop}(hD:DictAt lo s p L N O)(hN:N≤1000000)(hi : -9223372036854775808≤i∧i≤9223372036854775807)(h:∀ s',s.le s'→R (keyV L i) s'):QC Tryz.prog w0 261 #[.pointer (some ⟨p,0,none⟩),.int .i64 i] s R:=by
 refine wfun2 hmix ok261 func261 rfl ntmps261 results261 (by simp) ?_
 obtain⟨h1,h2,P,m,sl,es,clock,kv,h3,hPN,h4,h5,h6,h7,h8,h9,h10,h11⟩:=hD
 have hl:es.length=L.length:=by rw[h6.1,h7.len,h3]
 have hlen1:clen (some (.map 9 3)) (some (.map (some m)))=none:=rfl
 have hlen2:clenM s (some (.map 9 3)) (some (.map (some m)))=some (.int .i64 (L.length:Int)):=by simp only[clenM,h5,hl]
 simp only[↓Zd,Zp,simprocAttr,co228]
 refine ddead_spec h4 ?_
 by_cases hneg:i<0
 ·simp only[↓Zd,Zp,simprocAttr,CHDM0,hneg]
  have:=h s (lR _)
  unfold keyV at this
  rw[if_neg oM]at this
  exact this
 by_cases hbig:(L.length:Int)≤i
 ·simp only[↓Zd,Zp,simprocAttr,cld2,CHDM0,underlying238,h4,hlen1,hlen2,hneg,hbig,fa264x0,ag238]
  have:=h s (lR _)
  unfold keyV at this
  rw[if_neg oM]at this
  exact this
 obtain⟨i',rfl⟩:∃ i':Nat,i=(i':Int):=⟨i.toNat,oM⟩
 have hi':i' < L.length:=oM
 rcases h10 with ⟨e0,_⟩|⟨b,junk,rfl,hb,hlb⟩
 ·have:P=[]:=List.eq_nil_of_length_eq_zero e0
  subst this
  subst h3
  simp[props]at hi'
 have hbO:=h1 b (h11 _ _ _ rfl).1
 simp only[↓Zd,Zp,simprocAttr,cld2,CHDM0,underlying238,underlying262,h4,hlen1,hlen2,hneg,hbig,fa264x0,fa264x1,ag238,ag262]
 refine wloop_fix hmix [29,30,31,7,32,33,34,35,36,37,38,4,5,39,40,1,41,28] (fun fuel env s'=>∃ q r:Nat,fuel=P.length - q∧env 28 = .int .i64 (q:Int)∧env 1 = .int .i64 (r:Int)∧(props (P.drop q))[r]?=L[i']?∧s.le s') (P.length - 0) ?_ ?_
 ·exact⟨0,i',rfl,rfl,rfl,by rw[List.drop_zero,h3],lR _⟩
 ·rintro fuel env s' hF ⟨q,r,rfl,e28,e1,hq,hs⟩
  have hsn:=hs.1
  have e26:env 26 = .slice (some ⟨b,0,none⟩) P.length UNK:=by rw[hF 26 rfl];rfl
  have e27:env 27 = .int .i64 (P.length:Int):=by rw[hF 27 rfl];rfl
  have hlt:q<P.length:=by
   rcases Nat.lt_or_ge q P.length with h'|h'
   ·exact h'
   ·rw[List.drop_eq_nil_of_le h']at hq
    simp[props]at hq
    omega
  have hlt':(q:Int)<(P.length:Int):=oM
  have hge:(0:Int)≤(q:Int):=oM
  have hb':s'.at' b=some (.cells (plsCells P++junk) 292 true):=by rw[hs.2 b hbO.2];exact hb
  have w1:IntKind.i64.wrap ((q:Int)+1)=((q+1:Nat):Int):=by rw[wrap_i64 oM];omega
  rw[List.drop_eq_getElem_cons hlt]at hq
  obtain⟨hle5,htk5⟩:=zp5 P q P[q] junk (by simp[hlt])
  cases hp:P[q] with
  |none =>
   rw[hp]at hq htk5
   simp only[plCells]at htk5
   have hq':(props (P.drop (q+1)))[r]?=L[i']?:=hq
   simp only[↓Zd,Zp,Zs,simprocAttr,CHDM0,underlying262,underlying292,e1,e26,e27,e28,hlt',hge,hb',hle5,htk5,sz292,ag292,ce292,ze292,fa292x2,ag4,w1]
   refine⟨?_,P.length - (q+1),oM,q+1,r,rfl,rfl,rfl,hq',oL⟩
   repeat (first|exact hF|refine Fix.upd (by decide) ?_)
  |some u =>
   obtain⟨x,k,n,y⟩:=u
   rw[hp]at hq htk5
   simp only[plCells]at htk5
   have hq':((x,k,n,y)::props (P.drop (q+1)))[r]?=L[i']?:=hq
   cases r with
   |zero =>
    simp only[↓Zd,Zp,Zs,simprocAttr,CHDM0,underlying262,underlying292,e1,e26,e27,e28,hlt',hge,hb',hle5,htk5,Nat.add_zero,sz292,ag292,ce292,ze292,fa292x0,fa292x2,ag4,ag9]
    have hx:keyV L (i':Int) = .tuple #[.string x,.bool true]:=by
     unfold keyV
     rw[if_pos ⟨oM,oM⟩,Int.toNat_natCast,List.getD_eq_getElem?_getD,← hq']
     rfl
    rw[hx]at h
    exact h _ oL
   |succ r =>
    have hr0:¬ ((r+1:Nat):Int)=0:=oM
    have hrb:r<P.length:=by
     have h9:(props (P.drop (q+1))).length≤(P.drop (q+1)).length:=List.length_filterMap_le id _
     rw[List.length_drop]at h9
     rcases Nat.lt_or_ge r P.length with h'|h'
     ·exact h'
     ·have e9:L[i']?=some L[i']:=by simp[hi']
      rw[List.getElem?_cons_succ,List.getElem?_eq_none oM,e9]at hq'
      cases hq'
    have w2:IntKind.i64.wrap (((r+1:Nat):Int) - 1)=(r:Int):=by rw[wrap_i64 oM];omega
    simp only[↓Zd,Zp,Zs,simprocAttr,CHDM0,hr0,w2,underlying262,underlying292,e1,e26,e27,e28,hlt',hge,hb',hle5,htk5,sz292,ag292,ce292,ze292,fa292x2,ag4,w1]
    refine⟨?_,P.length - (q+1),oM,q+1,r,rfl,rfl,rfl,by simpa using hq',oL⟩
    repeat (first|exact hF|refine Fix.upd (by decide) ?_)
end
end Go.Proofs.Tryz
namespace Go.Proofs.Tryz
open Go.Cs
open Go.RowKit (Below)
def pressed(P:List Pl):List Pl:=P.filter Option.isSome
theorem props_pressed(P:List Pl):props (pressed P)=props P:=by
 induction P with
 |nil=>rfl
 |cons p P ih =>
  cases p with
  |none=>exact ih
  |some q =>
   show q::props (pressed P)=q::props P
   rw[ih]
theorem pressed_full{P:List Pl}{j:Nat}{p:Pl}(h:(pressed P)[j]?=some p):∃ q,p=some q:=by
 have:=(List.mem_filter.1 (List.mem_of_getElem? h)).2
 exact Option.isSome_iff_exists.1 this
theorem pressed_uniq:∀ {P:List Pl},Uniq P→Uniq (pressed P):=by
 intro P h j k x v w a b
 have hn:((props (pressed P)).map (·.1)).Nodup:=by rw[props_pressed];exact nodup_props h
 have key:∀ (Q:List Pl),(∀ p∈Q,p.isSome=true)→((props Q).map (·.1)).Nodup→∀ (j k:Nat) (v w:V3),Q[j]?=some (some (x,v))→Q[k]?=some (some (x,w))→j=k:=by
  intro Q
  induction Q with
  |nil=>intro _ _ j k v w a;simp at a
  |cons p Q ih =>
   intro hs hn j k v w a b
   obtain⟨⟨y,u⟩,rfl⟩:=Option.isSome_iff_exists.1 (hs p (by simp))
   have hn':(y::(props Q).map (·.1)).Nodup:=hn
   rw[List.nodup_cons]at hn'
   have mem:∀ (i:Nat) (t:V3),Q[i]?=some (some (x,t))→x∈(props Q).map (·.1):=fun i t h=>mem_props.2 ⟨i,t,h⟩
   cases j with
   |zero =>
    simp at a
    cases k with
    |zero=>rfl
    |succ k=>exact absurd (mem k w (by simpa using b)) (by rw[← a.1];exact hn'.1)
   |succ j =>
    cases k with
    |zero =>
     simp at b
     exact absurd (mem j v (by simpa using a)) (by rw[← b.1];exact hn'.1)
    |succ k=>rw[ih (fun p hp=>hs p (by simp[hp])) hn'.2 j k v w (by simpa using a) (by simpa using b)]
 exact key (pressed P) (fun p hp=>(List.mem_filter.1 hp).2) hn j k v w a b
structure KQ(kv0 kv:List (ByteArray×Nat))(Q:List Pl)(q:Nat):Prop where
 nd:(kv0.map (·.1)).Nodup
 keys:kv.map (·.1)=kv0.map (·.1)
 val:∀ (i:Nat) (x:ByteArray) (j:Nat),kv[i]?=some (x,j)→(j<q∧∃ v,Q[j]?=some (some (x,v)))∨(∀ (k:Nat) (v:V3),k<q→Q[k]?≠some (some (x,v)))
theorem KQ.start{kv0:List (ByteArray×Nat)}(hn:(kv0.map (·.1)).Nodup)(Q:List Pl):KQ kv0 kv0 Q 0:=⟨hn,rfl,fun i x j _ => .inr fun k v hk=>oM⟩
theorem kvIdx_mem:∀ {kv:List (ByteArray×Nat)}{x:ByteArray},x∈kv.map (·.1)→∃ i j,kvIdx kv x=some (i,j):=by
 intro kv
 induction kv with
 |nil=>intro x h;cases h
 |cons p kv ih =>
  intro x h
  obtain⟨y,j⟩:=p
  unfold kvIdx
  by_cases e:y=x
  ·rw[if_pos e];exact⟨_,_,rfl⟩
  ·rw[if_neg e]
   rcases List.mem_cons.1 h with e2|h
   ·exact absurd e2.symm e
   ·obtain⟨i,j',hij⟩:=ih h
    rw[hij]
    exact⟨_,_,rfl⟩
theorem KQ.apart{kv0 kv:List (ByteArray×Nat)}{Q:List Pl}{q:Nat}(h:KQ kv0 kv Q q){i k:Nat}{x:ByteArray}{a b:Nat}(h1:kv[k]?=some (x,a))(h2:kv[i]?=some (x,b)):k=i:=by
 have hn:(kv.map (·.1)).Nodup:=by rw[h.keys];exact h.nd
 have l1:=(List.getElem?_eq_some_iff.1 h1).1
 have l2:=(List.getElem?_eq_some_iff.1 h2).1
 have e1:(kv.map (·.1))[k]'(by simpa using l1)=(kv.map (·.1))[i]'(by simpa using l2):=by
  simp only[List.getElem_map]
  rw[(List.getElem?_eq_some_iff.1 h1).2,(List.getElem?_eq_some_iff.1 h2).2]
 exact (List.getElem_inj hn).1 e1
theorem KQ.step{kv0 kv:List (ByteArray×Nat)}{Q:List Pl}{q i j0:Nat}{x:ByteArray}{v:V3}(h:KQ kv0 kv Q q)(hQ:Uniq Q)(hq:Q[q]?=some (some (x,v)))(hi:kvIdx kv x=some (i,j0)):KQ kv0 (kv.set i (x,q)) Q (q+1):=by
 have hat:=kvIdx_some hi
 have hlt:=(List.getElem?_eq_some_iff.1 hat).1
 refine⟨h.nd,?_,fun k y j hk=>?_⟩
 ·rw[List.map_set,← h.keys]
  apply List.ext_getElem?
  intro k
  rw[List.getElem?_set]
  split
  ·rename_i e
   subst e
   simp[hlt]
   exact ((Prod.ext_iff.1 (List.getElem?_eq_some_iff.1 hat).2).1).symm
  ·rfl
 ·rw[List.getElem?_set]at hk
  split at hk
  ·rename_i e
   subst e
   simp only[Option.some.injEq,Prod.mk.injEq]at hk
   obtain⟨rfl,rfl⟩:=hk
   exact .inl ⟨oM,v,hq⟩
  ·rename_i e
   rcases h.val k y j hk with ⟨h1,h2⟩|h1
   ·exact .inl ⟨oM,h2⟩
   ·by_cases hy:y=x
    ·subst hy
     right
     intro k' v' hk' hc
     by_cases h0:k' < q
     ·exact h1 k' v' h0 hc
     ·have:k'=q:=oM
      subst this
      exact e (h.apart hk hat).symm
    ·right
     intro k' v' hk' hc
     by_cases h0:k' < q
     ·exact h1 k' v' h0 hc
     ·have:k'=q:=oM
      subst this
      rw[hq]at hc
      simp at hc
      exact hy hc.1.symm
theorem KQ.done{kv0 kv:List (ByteArray×Nat)}{P:List Pl}(h0:KP kv0 P)(h:KQ kv0 kv (pressed P) (pressed P).length):KP kv (pressed P):=by
 have hU:=pressed_uniq h0.uniq
 refine⟨by rw[h.keys];exact h.nd,fun x j=>?_⟩
 have hnames:∀ x,x∈kv.map (·.1)↔∃ (k:Nat) (v:V3),(pressed P)[k]?=some (some (x,v)):=by
  intro x
  rw[h.keys,← mem_props,props_pressed,mem_props,List.mem_map]
  constructor
  ·rintro⟨⟨y,k⟩,hm,rfl⟩
   obtain⟨v,hv⟩:=(h0.mem y k).1 hm
   exact⟨k,v,hv⟩
  ·rintro⟨k,v,hv⟩
   exact⟨(x,k),(h0.mem x k).2 ⟨v,hv⟩,rfl⟩
 constructor
 ·intro hm
  obtain⟨i,hi⟩:=List.getElem?_of_mem hm
  rcases h.val i x j hi with ⟨_,h2⟩|h2
  ·exact h2
  ·obtain⟨k,v,hv⟩:=(hnames x).1 (List.mem_map_of_mem (f:=(·.1)) hm)
   exact absurd hv (h2 k v (List.getElem?_eq_some_iff.1 hv).1)
 ·rintro⟨v,hv⟩
  obtain⟨⟨y,j'⟩,hm,e⟩:=List.mem_map.1 ((hnames x).2 ⟨j,v,hv⟩)
  simp only at e
  subst e
  obtain⟨i,hi⟩:=List.getElem?_of_mem hm
  rcases h.val i y j' hi with ⟨_,w,hw⟩|h2
  ·have:=hU j' j y w v hw hv
   rw[← this];exact hm
  ·exact absurd hv (h2 j v (List.getElem?_eq_some_iff.1 hv).1)
def delP:List (ByteArray×V3)→ByteArray→List (ByteArray×V3)
 | [],_=>[]
 |(y,w)::L,x=>if y=x then L else (y,w)::delP L x
theorem props_del:∀ (P:List Pl) (j:Nat) (x:ByteArray) (w:V3),P[j]?=some (some (x,w))→(∀ (k:Nat) (u:V3),P[k]?=some (some (x,u))→k=j)→props (P.set j none)=delP (props P) x:=by
 intro P
 induction P with
 |nil=>intro j x w h;simp at h
 |cons p P ih =>
  intro j x w h hu
  cases j with
  |zero =>
   simp at h
   subst h
   show props P=delP ((x,w)::props P) x
   simp[delP]
  |succ j =>
   have ih:=ih j x w (by simpa using h) (fun k u hk=>by have:=hu (k+1) u (by simpa using hk);omega)
   cases p with
   |none=>exact ih
   |some q =>
    obtain⟨y,u⟩:=q
    have hne:¬ y=x:=fun e=>by subst e;have:=hu 0 u rfl;omega
    show (y,u)::props (P.set j none)=delP ((y,u)::props P) x
    simp only[delP,if_neg hne,ih]
end Go.Proofs.Tryz
namespace Go.Proofs.Tryz
open Go.Cs
open Go.RowKit (Below)
set_option maxRecDepth 100000
attribute [local irreducible] QC WLoop WScope
section
variable {M:Type}[Mem M]{w0:World}{s:St M}{R:Value→St M→Prop}
theorem hole_spec{p:Pl}(h:∀ s',s.le s'→R (.bool p.isNone) s'):QC Tryz.prog w0 284 #[.agg (plCells p).toArray] s R:=by
 refine wfun2 hmix ok284 func284 rfl ntmps284 results284 (by simp) ?_
 cases p with
 |none =>
  simp only[plCells]
  simp only[↓Zd,Zp,Zs,simprocAttr,CHDM0,is292,fa292x2,ag4]
  exact h _ oL
 |some q =>
  obtain⟨x,k,n,y⟩:=q
  simp only[plCells]
  simp only[↓Zd,Zp,Zs,simprocAttr,CHDM0,is292,fa292x2,ag4]
  exact h _ oL
set_option maxHeartbeats 4000000 in
theorem ixf_spec{P:List Pl}{b:Nat}{junk:List Value}(hb:s.at' b=some (.cells (plsCells P++junk) 292 true))(hbn:b<s.next)(hN:P.length≤1000001)
  (h:∀ s' (j:Nat),s.le s'→P[j]?=some none→(∀ k,k<j→P[k]?≠some none)→R (.int .i64 (j:Int)) s')(h':∀ s',s.le s'→(∀ k:Nat,P[k]?≠some none)→R (.int .i64 (-1)) s') :
  QC Tryz.prog w0 291 #[.slice (some ⟨b,0,none⟩) P.length UNK,.func (.func 284) #[] #[]] s R:=by
 refine wfun2 hmix ok291 func291 rfl ntmps291 results291 (by simp) ?_
 simp only[↓Zd,Zp,simprocAttr,underlying262]
 refine wloop_fix hmix [9,10,5,11,12,13,14,15,16,17,4,18,8] (fun fuel env s'=>∃ q:Nat,fuel=P.length - q∧q≤P.length∧env 8 = .int .i64 (q:Int)∧(∀ k:Nat,k<q→P[k]?≠some none)∧s.le s') (P.length - 0) ?_ ?_
 ·exact⟨0,rfl,oM,rfl,fun k hk=>oM,lR _⟩
 ·rintro fuel env s' hF ⟨q,rfl,hqP,e8,hno,hs⟩
  have hsn:=hs.1
  have e0:env 0 = .slice (some ⟨b,0,none⟩) P.length UNK:=by rw[hF 0 rfl];rfl
  have e1:env 1 = .func (.func 284) #[] #[]:=by rw[hF 1 rfl];rfl
  have e7:env 7 = .int .i64 (P.length:Int):=by rw[hF 7 rfl];rfl
  by_cases hlt:q<P.length
  ·have hlt':(q:Int)<(P.length:Int):=oM
   have hge:(0:Int)≤(q:Int):=oM
   have hb':s'.at' b=some (.cells (plsCells P++junk) 292 true):=by rw[hs.2 b hbn];exact hb
   have w1:IntKind.i64.wrap ((q:Int)+1)=((q+1:Nat):Int):=by rw[wrap_i64 oM];omega
   obtain⟨hle5,htk5⟩:=zp5 P q P[q] junk (by simp[hlt])
   simp only[↓Zd,Zp,Zs,simprocAttr,underlying262,underlying292,e0,e1,e7,e8,hlt',hge,hb',hle5,htk5,sz292,ag292,ce292,calv co284]
   refine hole_spec fun s2 hs2=>?_
   have hs02:s.le s2:=lT hs hs2
   cases hp:P[q] with
   |none =>
    simp only[↓Zd,Zp,simprocAttr,CHDM0,Option.isNone_none]
    exact h _ q hs02 (by simp[hlt,hp]) hno
   |some u =>
    simp only[↓Zd,Zp,Zr,simprocAttr,CHDM0,Option.isNone_some,w1,e8]
    refine⟨?_,P.length - (q+1),oM,q+1,rfl,oM,rfl,fun k hk=>?_,hs02⟩
    ·repeat (first|exact hF|refine Fix.upd (by decide) ?_)
    ·by_cases e:k<q
     ·exact hno k e
     ·have:k=q:=oM
      subst this
      simp[hlt,hp]
  ·have hlt':¬ (q:Int)<(P.length:Int):=oM
   simp only[↓Zd,Zp,simprocAttr,e7,e8,hlt']
   refine h' _ hs fun k hk=>?_
   have:=(List.getElem?_eq_some_iff.1 hk).1
   exact hno k oM hk
end
end Go.Proofs.Tryz
namespace Go.Proofs.Tryz
open Go.Cs
open Go.RowKit (Below)
set_option maxRecDepth 100000
attribute [local irreducible] QC WLoop WScope
theorem setCells_eq:∀ (l vs:List Value) (o:Nat),o+l.length≤vs.length→setCells vs o l=vs.take o++l++vs.drop (o+l.length):=by
 intro l
 induction l with
 |nil=>intro vs o h;simp[setCells_nil]
 |cons c l ih =>
  intro vs o h
  simp only[List.length_cons]at h
  rw[setCells_cons,ih _ _ (by rw[List.length_set];omega)]
  apply List.ext_getElem?
  intro i
  have hl:(vs.take o).length=o:=by simp;omega
  have hl2:((vs.set o c).take (o+1)).length=o+1:=by simp;omega
  simp only[List.append_assoc]
  by_cases h1:i<o
  ·rw[List.getElem?_append_left oM,List.getElem?_append_left oM,List.getElem?_take,List.getElem?_take,if_pos h1,if_pos oM,List.getElem?_set_ne oM]
  ·rw[List.getElem?_append_right (l₁:=vs.take o) oM,hl]
   by_cases h2:i=o
   ·subst h2
    rw[List.getElem?_append_left oM,List.getElem?_take,if_pos oM,List.getElem?_set_self oM,Nat.sub_self]
    rfl
   ·rw[List.getElem?_append_right oM,hl2,show i - o=(i - (o+1))+1 from oM]
    show (l++List.drop (o+1+l.length) (vs.set o c))[i - (o+1)]?=(l++List.drop (o+(l.length+1)) vs)[i - (o+1)]?
    rw[show o+1+l.length=o+(l.length+1) from oM]
    by_cases h3:i - (o+1)<l.length
    ·rw[List.getElem?_append_left h3,List.getElem?_append_left h3]
    ·rw[List.getElem?_append_right oM,List.getElem?_append_right oM,List.getElem?_drop,List.getElem?_drop,List.getElem?_set_ne oM]
section
variable {M:Type}[Mem M]{w0:World}{s:St M}{R:Value→St M→Prop}
theorem cread_sl{P:Program}{ev:Operand→Value}{t e e':TypeId}{ie:TypeInfo}{x:Operand}{lo hi:Option Operand}{b n l h:Nat}{vs:List Value}{own:Bool}(hu:P.underlying t=some (.slice e))(hie:P.info? e=some ie)
  (hx:ev x = .slice (some ⟨b,0,none⟩) n UNK)(hhi:cbound (hi.map ev) n n=some h)(hlo:cbound (lo.map ev) 0 h=some l)(hat:s.at' b=some (.cells vs e' own))(hln:l<n)(hce:P.cellsOf e'=ie.size) :
  cread P ev s (.slice t x lo hi none)=some (.slice (some ((⟨b,0,none⟩:Addr).add (l*ie.size))) (h - l) UNK):=by
 unfold cread
 simp only[hu,hx,hie,hhi,hlo,hat,hln,hce,and_self,if_true]
structure Mid(P:List Pl)(junk C:List Value)(i q:Nat):Prop where
 lt:i<q
 len:C.length=(plsCells P++junk).length
 front:C.take (i*5)=plsCells (pressed (P.take q))
 back:C.drop (q*5)=(plsCells P++junk).drop (q*5)
 num:(pressed (P.take q)).length=i
theorem Mid.next{P:List Pl}{junk C:List Value}{i q:Nat}{u:ByteArray×V3}(h:Mid P junk C i q)(hq:P[q]?=some (some u)):Mid P junk (setCells C (i*5) (plCells (some u))) (i+1) (q+1):=by
 have hlt:=(List.getElem?_eq_some_iff.1 hq).1
 have hP:=plsCells_len P
 have hl:=h.len
 rw[List.length_append]at hl
 have hiq:=h.lt
 have htake:pressed (P.take (q+1))=pressed (P.take q) ++ [some u]:=by
  rw[List.take_add_one,hq]
  unfold pressed
  rw[List.filter_append]
  rfl
 have hlen5:(plCells (some u)).length=5:=plCells_len _
 have hfl:(C.take (i*5)).length=i*5:=by simp;omega
 rw[setCells_eq _ _ _ (by rw[hlen5];omega),hlen5]
 refine⟨oM,?_,?_,?_,?_⟩
 ·simp only[List.length_append,List.length_take,List.length_drop,hlen5];omega
 ·rw[htake,plsCells_app,← h.front,show (i+1)*5=(C.take (i*5)++plCells (some u)).length from by rw[List.length_append,hfl,hlen5];omega,List.append_assoc,← List.append_assoc,List.take_left']
  rfl
 ·rw[List.drop_append,List.drop_eq_nil_of_le (by rw[List.length_append,hfl,hlen5];omega),List.nil_append,List.drop_drop,List.length_append,hfl,hlen5]
  have:(C.drop (q*5)).drop 5=((plsCells P++junk).drop (q*5)).drop 5:=by rw[h.back]
  rw[List.drop_drop,List.drop_drop]at this
  rw[show i*5+5+((q+1)*5 - (i*5+5))=q*5+5 from oM,this]
  congr 1;omega
 ·rw[htake,List.length_append,h.num];rfl
theorem Mid.skip{P:List Pl}{junk C:List Value}{i q:Nat}(h:Mid P junk C i q)(hq:P[q]?=some none):Mid P junk C i (q+1):=by
 have htake:pressed (P.take (q+1))=pressed (P.take q):=by
  rw[List.take_add_one,hq]
  unfold pressed
  rw[List.filter_append]
  simp
 refine⟨by have:=h.lt;omega,h.len,by rw[htake];exact h.front,?_,by rw[htake];exact h.num⟩
 have:(C.drop (q*5)).drop 5=((plsCells P++junk).drop (q*5)).drop 5:=by rw[h.back]
 rw[List.drop_drop,List.drop_drop]at this
 rw[show (q+1)*5=q*5+5 from oM]
 exact this
theorem Mid.start{P:List Pl}{junk:List Value}{j:Nat}(hj:P[j]?=some none)(hno:∀ k:Nat,k<j→P[k]?≠some none):Mid P junk (plsCells P++junk) j (j+1):=by
 have hlt:=(List.getElem?_eq_some_iff.1 hj).1
 have hall:pressed (P.take j)=P.take j:=by
  unfold pressed
  rw[List.filter_eq_self]
  intro p hp
  obtain⟨k,hk⟩:=List.getElem?_of_mem hp
  rw[List.getElem?_take]at hk
  split at hk
  ·cases p with
   |none=>exact absurd hk (hno k (by assumption))
   |some u=>rfl
  ·cases hk
 have htake:pressed (P.take (j+1))=P.take j:=by
  rw[List.take_add_one,hj]
  unfold pressed at hall ⊢
  rw[List.filter_append,hall]
  simp
 have hsplit:plsCells P=plsCells (P.take j)++plsCells (P.drop j):=by
  unfold plsCells
  rw[← List.flatMap_append,List.take_append_drop]
 have hl:(plsCells (P.take j)).length=j*5:=by rw[plsCells_len];simp;omega
 refine⟨oM,rfl,?_,rfl,by rw[htake];simp;omega⟩
 rw[htake,hsplit,List.append_assoc,← hl,List.take_left']
 rfl
end
end Go.Proofs.Tryz
namespace Go.Proofs.Tryz
open Go.Cs
open Go.RowKit (Below)
set_option maxRecDepth 100000
attribute [local irreducible] QC WLoop WScope
section
variable {M:Type}[Mem M]{w0:World}{s:St M}{R:Value→St M→Prop}
theorem o_clear{P:Program}{d:Option Tmp}{ty:TypeId}{pos:String}{af:Array Edge}{g:Option (Nat×Bool)}{ev:Operand→Value}{K:Value→St M→Prop}{args:Array Operand}{ats:Array TypeId} :
  wop P w0 ⟨d,.call ⟨.builtin .clear,args,ats⟩,ty,pos,af,g⟩ ev s K=wch (ceff P ev s (.call ⟨.builtin .clear,args,ats⟩)) K:=rfl
theorem clear_places{C:List Value}{b i n:Nat}{ev:Operand→Value}{x:Operand}{K:Value→St M→Prop}(hC:s.at' b=some (.cells C 292 true))(hn:0<n)(hl:i*5+n*5≤C.length)(hx:ev x = .slice (some ⟨b,i*5,none⟩) n UNK)
  (h:∀ zs:List Value,zs.length=n*5→K undef (s.put b (.cells (setCells C (i*5) zs) 292 true))):wch (ceff Tryz.prog ev s (.call ⟨.builtin .clear,#[x],#[262]⟩)) K:=by
 obtain⟨z,hz,hzc⟩:∃ z,czero Tryz.prog 292=some z∧z.cells=#[.string ⟨#[]⟩,.int .i64 0,.int .i64 0,.string ⟨#[]⟩,.bool false]:=⟨_,ze292,rfl⟩
 have h5:z.cells.size=5:=by rw[hzc];rfl
 have hlen:(czeros z (n*5)).length=n*5:=by simp[czeros]
 have hok:(czeros z (n*5)).all qC=true:=by
  rw[List.all_eq_true]
  intro v hv
  unfold czeros at hv
  rw[Array.mem_toList_iff,Array.mem_map]at hv
  obtain⟨k,_,rfl⟩:=hv
  have:k % 5<5:=Nat.mod_lt _ oM
  rw[h5,hzc]
  have h5:k % 5=0∨k % 5=1∨k % 5=2∨k % 5=3∨k % 5=4:=oM
  rcases h5 with e|e|e|e|e<;>rw[e]<;>rfl
 refine⟨undef,_,?_,h _ hlen⟩
 unfold ceff
 simp only[List.getElem?_toArray,List.getElem?_cons_zero,Option.bind_some,Option.map_some,underlying262,hx]
 rw[if_neg oM,hz]
 simp only[h5]
 rw[if_neg oM]
 unfold cstoreCells
 simp only[hC]
 rw[if_pos ⟨by rw[hlen];exact hl,hok⟩]
 rfl
set_option maxHeartbeats 8000000 in
theorem delf_spec{P:List Pl}{b:Nat}{junk:List Value}(hb:s.at' b=some (.cells (plsCells P++junk) 292 true))(hbn:b<s.next)(hN:P.length≤1000001)(hhole:∃ j:Nat,P[j]?=some none)
  (h:∀ s' junk',s.next≤s'.next→s'.at' b=some (.cells (plsCells (pressed P)++junk') 292 true)→(∀ c,c<s.next→c≠b→s'.at' c=s.at' c)→R (.slice (some ⟨b,0,none⟩) (pressed P).length UNK) s') :
  QC Tryz.prog w0 283 #[.slice (some ⟨b,0,none⟩) P.length UNK,.func (.func 284) #[] #[]] s R:=by
 refine wfun2 hmix ok283 func283 rfl ntmps283 results283 (by simp) ?_
 simp only[↓Zd,Zp,simprocAttr,co291]
 refine ixf_spec hb hbn hN (fun s1 j hs1 hj hno=>?_) (fun s1 hs1 hno=>?_)
 case refine_2=>obtain⟨j,hj⟩:=hhole;exact absurd hj (hno j)
 have hjlt:=(List.getElem?_eq_some_iff.1 hj).1
 have hj1:¬ (j:Int) = -1:=oM
 have w0':IntKind.i64.wrap ((j:Int)+1)=((j+1:Nat):Int):=by rw[wrap_i64 oM];omega
 have hs1n:=hs1.1
 simp only[↓Zd,Zp,simprocAttr,CHDM0,hj1,w0']
 refine wloop_fix hmix [16,17,18,19,22,23,24,25,7,26,27,28,29,30,31,32,33,34,35,5,20,21,6] (fun fuel env s'=>∃ (i q:Nat) (C:List Value),fuel=P.length - q∧q≤P.length∧env 5 = .int .i64 (i:Int)∧env 6 = .int .i64 (q:Int)∧Mid P junk C i q∧s1.next≤s'.next∧s'.at' b=some (.cells C 292 true)∧∀ c,c<s.next→c≠b→s'.at' c=s.at' c) (P.length - (j+1)) ?_ ?_
 ·exact⟨j,j+1,plsCells P++junk,rfl,oM,rfl,rfl,.start hj hno,Nat.le_refl _,by rw[hs1.2 b hbn];exact hb,fun c hc _=>hs1.2 c hc⟩
 ·rintro fuel env s' hF ⟨i,q,C,rfl,hqP,e5,e6,hM,hn,hC,hfr⟩
  have e0:env 0 = .slice (some ⟨b,0,none⟩) P.length UNK:=by rw[hF 0 rfl];rfl
  have e1:env 1 = .func (.func 284) #[] #[]:=by rw[hF 1 rfl];rfl
  have hP5:=plsCells_len P
  have hCl:=hM.len
  rw[List.length_append]at hCl
  have hiq:=hM.lt
  have hbs':¬ b=s'.next:=oM
  by_cases hlt:q<P.length
  ·have hlt':(q:Int)<(P.length:Int):=oM
   have hge:(0:Int)≤(q:Int):=oM
   have hilt:(i:Int)<(P.length:Int):=oM
   have hige:(0:Int)≤(i:Int):=oM
   have w1:IntKind.i64.wrap ((q:Int)+1)=((q+1:Nat):Int):=by rw[wrap_i64 oM];omega
   have w2:IntKind.i64.wrap ((i:Int)+1)=((i+1:Nat):Int):=by rw[wrap_i64 oM];omega
   have hpq:P[q]?=some P[q]:=by simp[hlt]
   obtain⟨hle5,htk5⟩:=zp5 P q P[q] junk hpq
   rw[← hM.back]at htk5
   have hle5':q*5+5≤C.length:=oM
   have hle6:i*5+5≤C.length:=oM
   cases hp:P[q] with
   |none =>
    rw[hp]at htk5 hpq
    simp only[plCells]at htk5
    simp only[↓Zd,Zp,Zs,simprocAttr,underlying262,underlying292,e0,e1,e6,hlt',hge,hC,hle5',htk5,sz292,ag292,ce292,ze292,calv co284]
    refine hole_spec (p:=none) fun s2 hs2=>?_
    have hs2n:=hs2.1
    simp only[Sn]at hs2n
    simp only[↓Zd,Zp,Zr,simprocAttr,CHDM0,Option.isNone_none,e6,w1]
    refine⟨?_,P.length - (q+1),oM,i,q+1,C,rfl,oM,e5,rfl,hM.skip hpq,oM,?_,fun c hc hcb=>?_⟩
    ·repeat (first|exact hF|refine Fix.upd (by decide) ?_)
    ·rw[hs2.2 b (by simp only[Sn];omega),aP,if_neg hbs',aN,if_neg hbs'];exact hC
    ·rw[hs2.2 c (by simp only[Sn];omega),aP,if_neg oM,aN,if_neg oM];exact hfr c hc hcb
   |some u =>
    rw[hp]at htk5 hpq
    have hMn:=hM.next hpq
    obtain⟨x,k,n,y⟩:=u
    simp only[plCells]at htk5 hMn
    simp only[↓Zd,Zp,Zs,simprocAttr,underlying262,underlying292,e0,e1,e6,hlt',hge,hC,hle5',htk5,sz292,ag292,ce292,ze292,calv co284]
    refine hole_spec (p:=some (x,k,n,y)) fun s2 hs2=>?_
    have hs2n:=hs2.1
    simp only[Sn]at hs2n
    have hC2:s2.at' b=some (.cells C 292 true):=by rw[hs2.2 b (by simp only[Sn];omega),aP,if_neg hbs',aN,if_neg hbs'];exact hC
    have hV2:s2.at' s'.next=some (.cells [.string x,.int .i64 k,.int .i64 n,.string y,.bool true] 292 true):=by rw[hs2.2 _ (by simp only[Sn];omega),aP,if_pos rfl]
    simp only[↓Zd,Zp,Zr,Zs,simprocAttr,CHDM0,underlying262,underlying292,Option.isNone_some,e0,e5,e6,w1,w2,hilt,hige,hC2,hV2,hle6,sz292,ag292,ce292]
    refine⟨?_,P.length - (q+1),oM,i+1,q+1,_,rfl,oM,rfl,rfl,hMn,?_,?_,fun c hc hcb=>?_⟩
    ·repeat (first|exact hF|refine Fix.upd (by decide) ?_)
    ·omega
    ·rfl
    ·rw[if_neg hcb,hs2.2 c (by simp only[Sn];omega),aP,if_neg oM,aN,if_neg oM];exact hfr c hc hcb
  ·have hlt':¬ (q:Int)<(P.length:Int):=oM
   simp only[↓Zd,Zp,simprocAttr,underlying262,e0,e5,e6,hlt']
   obtain⟨ie,hie,hsz,_⟩:=infoPlace
   have hqe:q=P.length:=oM
   have hce:Tryz.prog.cellsOf 292=ie.size:=by rw[hsz];exact ce292
   refine .inr ⟨_,cread_sl (l:=i) (h:=P.length) underlying262 hie rfl rfl (by show (if 0≤(i:Int)∧(i:Int)≤(P.length:Int) then some (i:Int).toNat else none)=some i;rw[if_pos ⟨oM,oM⟩,Int.toNat_natCast]) hC oM hce,?_⟩
   rw[hsz]
   have hadd:(⟨b,0,none⟩:Addr).add (i*5)=⟨b,i*5,none⟩:=by rw[addr_add_mk,Nat.zero_add]
   rw[hadd]
   simp only[↓Zd,Zp,simprocAttr,o_clear]
   refine clear_places hC oM (by have:=plsCells_len P;omega) rfl (fun zs hzl=>?_)
   simp only[↓Zd,Zp,simprocAttr,e0,e5]
   refine .inr ⟨_,cread_sl (l:=0) (h:=i) underlying262 hie rfl (by show (if 0≤(i:Int)∧(i:Int)≤(P.length:Int) then some (i:Int).toNat else none)=some i;rw[if_pos ⟨oM,oM⟩,Int.toNat_natCast]) rfl (by rw[aP,if_pos rfl]) oM hce,?_⟩
   rw[Nat.zero_mul,addr_add_mk,Nat.sub_zero]
   simp only[↓Zd,Zp,simprocAttr]
   have hfull:pressed (P.take q)=pressed P:=by rw[hqe,List.take_length]
   have hnum:=hM.num
   have hfront:=hM.front
   rw[hfull]at hnum hfront
   subst hnum
   refine h _ (zs++C.drop ((pressed P).length*5+zs.length)) (by simp only[nU];omega) ?_ (fun c hc hcb=>?_)
   ·rw[aP,if_pos rfl,setCells_eq _ _ _ (by rw[hzl];omega),hfront,List.append_assoc]
   ·rw[aP,if_neg hcb];exact hfr c hc hcb
end
end Go.Proofs.Tryz
namespace Go.Proofs.Tryz
open Go.Cs
open Go.RowKit (Below)
set_option maxRecDepth 100000
attribute [local irreducible] QC WLoop WScope
theorem hole_of_few{P:List Pl}(h:(props P).length<P.length):∃ j:Nat,P[j]?=some none:=by
 induction P with
 |nil=>simp[props]at h
 |cons p P ih =>
  cases p with
  |none=>exact⟨0,rfl⟩
  |some q =>
   have h:(props P).length+1<P.length+1:=h
   obtain⟨j,hj⟩:=ih oM
   exact⟨j+1,by simpa using hj⟩
section
variable {M:Type}[Mem M]{w0:World}{s:St M}{R:Value→St M→Prop}
set_option maxHeartbeats 8000000 in
theorem press_spec{lo p:Nat}{L:List (ByteArray×V3)}{N:Nat}{O:Nat→Prop}(hD:DictAt lo s p L N O)(hN:N≤1000001)
  (h:∀ s',DictAt lo s' p L N O→s.next≤s'.next→(∀ b,b<s.next→¬ O b→s'.at' b=s.at' b)→R (.tuple #[]) s') :
  QC Tryz.prog w0 271 #[.pointer (some ⟨p,0,none⟩)] s R:=by
 refine wfun2 hmix ok271 func271 rfl ntmps271 results271 (by simp) ?_
 have hD0:=hD
 obtain⟨h1,h2,P,m,sl,es,clock,kv,h3,hPN,h4,h5,h6,h7,h8,h9,h10,h11⟩:=hD
 have hp:=(h1 p h2).2
 have hm:=(h1 m h8).2
 have hl:es.length=L.length:=by rw[h6.1,h7.len,h3]
 have hlen1:clen (some (.map 9 3)) (some (.map (some m)))=none:=rfl
 have hlen2:clenM s (some (.map 9 3)) (some (.map (some m)))=some (.int .i64 (L.length:Int)):=by simp only[clenM,h5,hl]
 have hLP:L.length≤P.length:=by rw[← h3];exact List.length_filterMap_le id P
 obtain⟨a0,c0,rfl⟩:∃ a0 c0,sl = .slice a0 P.length c0:=by
  rcases h10 with ⟨e0,_,rfl⟩|⟨b,junk,rfl,_⟩
  ·exact⟨none,0,by rw[e0]⟩
  ·exact⟨_,_,rfl⟩
 have w2:IntKind.i64.wrap (2*(L.length:Int))=((2*L.length:Nat):Int):=by rw[wrap_i64 oM];omega
 by_cases hsmall:(P.length:Int)<8
 ·simp only[↓Zd,Zp,simprocAttr,cld2,underlying262,ord271,h4,hsmall,fa264x1,ag262]
  exact h _ hD0 (Nat.le_refl _) (fun _ _ _=>rfl)
 by_cases hmany:(P.length:Int)<((2*L.length:Nat):Int)
 ·simp only[↓Zd,Zp,simprocAttr,cld2,underlying262,underlying238,ord271,h4,hsmall,hmany,hlen1,hlen2,w2,fa264x0,fa264x1,ag238,ag262]
  exact h _ hD0 (Nat.le_refl _) (fun _ _ _=>rfl)
 simp only[↓Zd,Zp,simprocAttr,cld2,underlying262,underlying238,ord271,h4,hsmall,hmany,hlen1,hlen2,w2,fa264x0,fa264x1,ag238,ag262,co283]
 rcases h10 with ⟨e0,_⟩|⟨b,junk,hsl,hb,hlb⟩
 ·omega
 cases hsl
 have hbO:=h11 _ _ _ rfl
 have hbn:=(h1 b hbO.1).2
 refine delf_spec hb hbn oM (hole_of_few (by rw[h3];omega)) fun s1 junk1 hn1 hb1 hfr1=>?_
 have hpb:¬ p=b:=fun e=>hbO.2.1 e.symm
 have hmb:¬ m=b:=fun e=>hbO.2.2 e.symm
 have hbp:¬ b=p:=hbO.2.1
 have hmp:¬ m=p:=h9
 have hpm:¬ p=m:=fun e=>h9 e.symm
 have hbm:¬ b=m:=hbO.2.2
 have hp1:s1.at' p=some (.cells [.map (some m),.slice (some ⟨b,0,none⟩) P.length UNK] 264 true):=by rw[hfr1 p hp hpb];exact h4
 have hm1:s1.at' m=some (.map es clock):=by rw[hfr1 m hm hmb];exact h5
 have hple:(pressed P).length≤P.length:=List.length_filter_le _ _
 simp only[↓Zd,Zp,Zs,simprocAttr,underlying262,hp1,fa264x1,ag262,sz262]
 refine wloop_fix hmix [38,39,40,41,3,2,42,43,44,45,46,47,48,49,37] (fun fuel env s'=>∃ (q:Nat) (kvq:List (ByteArray×Nat)) (esq:List MapEntry),fuel=(pressed P).length - q∧q≤(pressed P).length∧env 37 = .int .i64 (q:Int)∧KV esq kvq∧KQ kv kvq (pressed P) q∧s'.at' m=some (.map esq clock)∧s1.next≤s'.next ∧
  s'.at' p=some (.cells [.map (some m),.slice (some ⟨b,0,none⟩) (pressed P).length UNK] 264 true)∧s'.at' b=some (.cells (plsCells (pressed P)++junk1) 292 true)∧∀ c,c<s.next→¬ O c→s'.at' c=s.at' c) ((pressed P).length - 0) ?_ ?_
 ·refine⟨0,kv,es,rfl,oM,rfl,h6,.start h7.nodup _,?_,Nat.le_refl _,?_,?_,fun c hc ho=>?_⟩
  ·simp only[aP,hmp,if_false];exact hm1
  ·simp only[aP,if_true]
  ·simp only[aP,hbp,if_false];exact hb1
  ·rw[aP,if_neg (fun e:c=p=>ho (e▸h2))]
   exact hfr1 c hc (fun e=>ho (e▸hbO.1))
 ·rintro fuel env s' hF ⟨q,kvq,esq,rfl,hqP,e37,hKV,hKQ,hms,hns,hps,hbs,hfr⟩
  have e0:env 0 = .pointer (some ⟨p,0,none⟩):=by rw[hF 0 rfl];rfl
  have e35:env 35 = .slice (some ⟨b,0,none⟩) (pressed P).length UNK:=by rw[hF 35 rfl];rfl
  have e36:env 36 = .int .i64 ((pressed P).length:Int):=by rw[hF 36 rfl];rfl
  have hpn':¬ p=s'.next:=oM
  have hmn':¬ m=s'.next:=oM
  have hbn':¬ b=s'.next:=oM
  by_cases hlt:q<(pressed P).length
  ·have hlt':(q:Int)<((pressed P).length:Int):=oM
   have hge:(0:Int)≤(q:Int):=oM
   have w1:IntKind.i64.wrap ((q:Int)+1)=((q+1:Nat):Int):=by rw[wrap_i64 oM];omega
   have hpq:(pressed P)[q]?=some (pressed P)[q]:=by simp[hlt]
   obtain⟨⟨x,k,n,y⟩,hu⟩:=pressed_full hpq
   rw[hu]at hpq
   obtain⟨hle5,htk5⟩:=zp5 (pressed P) q _ junk1 hpq
   simp only[plCells]at htk5
   have hmem:x∈kvq.map (·.1):=by
    rw[hKQ.keys]
    obtain⟨j,v,hj⟩:=mem_props.1 (show x∈(props P).map (·.1) by rw[← props_pressed];exact mem_props.2 ⟨q,_,hpq⟩)
    exact List.mem_map_of_mem (f:=(·.1)) ((h7.mem x j).2 ⟨v,hj⟩)
   obtain⟨i,j0,hi⟩:=kvIdx_mem hmem
   have hcf:=cfind_kv hKV x
   rw[hi]at hcf
   simp only[↓Zd,Zp,Zs,simprocAttr,CHDM0,underlying262,underlying292,underlying238,e0,e35,e36,e37,hlt',hge,hbs,hms,hps,hpn',hmn',hbn',hle5,htk5,hcf,Nat.add_zero,sz292,ag292,ce292,ze292,fa264x0,fa292x0,ag238,ag9,w1]
   refine⟨by repeat (first|exact hF|refine Fix.upd (by decide) ?_),(pressed P).length - (q+1),oM,q+1,kvq.set i (x,q),_,rfl,oM,rfl,hKV.set (kvIdx_some hi) q,hKQ.step (pressed_uniq h7.uniq) hpq hi,?_,?_,?_,?_,fun c hc ho=>?_⟩
   ·simp only[]
   ·omega
   ·rw[if_neg hpm]
   ·rw[if_neg hbm]
   ·have hcm:¬ c=m:=fun e=>ho (e▸h8)
    have hcn:¬ c=s'.next:=oM
    simp only[if_neg hcm,if_neg hcn]
    exact hfr c hc ho
  ·have hlt':¬ (q:Int)<((pressed P).length:Int):=oM
   simp only[↓Zd,Zp,simprocAttr,e36,e37,hlt']
   have hqe:q=(pressed P).length:=oM
   subst hqe
   refine h _ ⟨fun c hc=>⟨(h1 c hc).1,by have:=(h1 c hc).2;omega⟩,h2,pressed P,m,_,esq,clock,kvq,by rw[props_pressed,h3],oM,hps,hms,hKV,hKQ.done h7,h8,h9,.inr ⟨b,junk1,rfl,hbs,plsCells_len _⟩,fun q' a c e=>?_⟩ oM hfr
   cases e
   exact hbO
end
end Go.Proofs.Tryz
namespace Go.Proofs.Tryz
open Go.Cs
open Go.RowKit (Below)
set_option maxRecDepth 100000
attribute [local irreducible] QC WLoop WScope
theorem set_hole(P:List Pl)(j:Nat)(junk:List Value)(hj:j<P.length):setCells (plsCells P++junk) (j*5) [.string ⟨#[]⟩,.int .i64 0,.int .i64 0,.string ⟨#[]⟩,.bool false]=plsCells (P.set j none)++junk:=by
 rw[setCells_eq _ _ _ (by rw[List.length_append,plsCells_len];simp only[List.length_cons,List.length_nil];omega)]
 have key:∀ (P:List Pl) (j:Nat),j<P.length→List.take (j*5) (plsCells P++junk)++([.string ⟨#[]⟩,.int .i64 0,.int .i64 0,.string ⟨#[]⟩,.bool false]++List.drop (j*5+5) (plsCells P++junk))=plsCells (P.set j none)++junk:=by
  intro P
  induction P with
  |nil=>intro j h;simp at h
  |cons p P ih =>
   intro j h
   cases j with
   |zero =>
    show List.take (0*5) ((plCells p++plsCells P)++junk)++([.string ⟨#[]⟩,.int .i64 0,.int .i64 0,.string ⟨#[]⟩,.bool false]++List.drop (0*5+5) ((plCells p++plsCells P)++junk))=(plCells none++plsCells P)++junk
    have:0*5+5=(plCells p).length:=by rw[plCells_len]
    rw[this,List.append_assoc,List.drop_left,Nat.zero_mul,List.take_zero]
    rfl
   |succ j =>
    have ih:=ih j (by simpa using h)
    show List.take ((j+1)*5) ((plCells p++plsCells P)++junk)++([.string ⟨#[]⟩,.int .i64 0,.int .i64 0,.string ⟨#[]⟩,.bool false]++List.drop ((j+1)*5+5) ((plCells p++plsCells P)++junk))=(plCells p++plsCells (P.set j none))++junk
    have e1:(j+1)*5=(plCells p).length+j*5:=by rw[plCells_len];omega
    have e2:(j+1)*5+5=(plCells p).length+(j*5+5):=by rw[plCells_len];omega
    rw[e2,e1,List.append_assoc,List.take_length_add_append,List.drop_length_add_append,List.append_assoc,ih,List.append_assoc]
 simpa [List.append_assoc] using key P j hj
section
variable {M:Type}[Mem M]{w0:World}{s:St M}{R:Value→St M→Prop}
theorem o_delete{P:Program}{d:Option Tmp}{ty:TypeId}{pos:String}{af:Array Edge}{g:Option (Nat×Bool)}{ev:Operand→Value}{K:Value→St M→Prop}{x y:Operand}{t t2:TypeId} :
  wop P w0 ⟨d,.call ⟨.builtin .delete,#[x,y],#[t,t2]⟩,ty,pos,af,g⟩ ev s K=wch ((cdelete P t (ev x) (ev y) s).map fun s'=>(undef,s')) K:=rfl
theorem bPlace0:cbuild Tryz.prog 292 #[]=some (.agg #[.string ⟨#[]⟩,.int .i64 0,.int .i64 0,.string ⟨#[]⟩,.bool false]):=oK
theorem wch_some{v:Value}{s':St M}{K:Value→St M→Prop}:wch (some (v,s')) K=K v s':=by
 apply propext
 constructor
 ·rintro⟨v',s'',h1,h2⟩;cases h1;exact h2
 ·intro h;exact⟨v,s',rfl,h⟩
theorem cdel_at{m:Nat}{es:List MapEntry}{clock:Nat}{x:ByteArray}{i:Nat}{u:Value}(hm:s.at' m=some (.map es clock))(hc:cfind Tryz.prog 9 (.string x) es=some (some (i,u))) :
  cdelete Tryz.prog 238 (.map (some m)) (.string x) s=some (s.put m (.map (es.eraseIdx i) clock)):=by
 unfold cdelete
 simp only[underlying238,hm,hc]
set_option maxHeartbeats 4000000 in
theorem ddel_spec{lo p:Nat}{L:List (ByteArray×V3)}{N:Nat}{x:ByteArray}{O:Nat→Prop}(hD:DictAt lo s p L N O)(hN:N≤1000001)
  (h:∀ s',DictAt lo s' p (delP L x) N O→s.next≤s'.next→(∀ b,b<s.next→¬ O b→s'.at' b=s.at' b)→R (.bool (getP L x).isSome) s')(hx:(getP L x).isSome=true) :
  QC Tryz.prog w0 229 #[.pointer (some ⟨p,0,none⟩),.string x] s R:=by
 refine wfun2 hmix ok229 func229 rfl ntmps229 results229 (by simp) ?_
 obtain⟨h1,h2,P,m,sl,es,clock,kv,h3,hPN,h4,h5,h6,h7,h8,h9,h10,h11⟩:=hD
 have hp:=(h1 p h2).2
 have hm:=(h1 m h8).2
 simp only[↓Zd,Zp,simprocAttr,co228]
 refine ddead_spec (m:=m) (sl:=sl) h4 ?_
 subst h3
 have hcf:=cfind_kv h6 x
 have hg:=get_props h7 x
 cases hi:kvIdx kv x with
 |none =>
  rw[hi]at hg
  rw[hg]at hx
  simp at hx
 |some ij =>
  obtain⟨i,j⟩:=ij
  obtain⟨v0,hv⟩:=h7.idx hi
  rw[hi]at hcf
  have hlt:=(List.getElem?_eq_some_iff.1 hv).1
  rcases h10 with ⟨e0,_⟩|⟨b,junk,rfl,hb,hl⟩
  ·omega
  have hbO:=h11 _ _ _ rfl
  have hbn:=(h1 b hbO.1).2
  have hlt':(j:Int)<(P.length:Int):=oM
  have hge:(0:Int)≤(j:Int):=oM
  have hle:j*5+5≤(plsCells P++junk).length:=by rw[List.length_append,plsCells_len];omega
  have hset:=set_hole P j junk hlt
  have hpm:¬ p=m:=fun e=>h9 e.symm
  have hpb:¬ p=b:=fun e=>hbO.2.1 e.symm
  have hmb:¬ m=b:=fun e=>hbO.2.2 e.symm
  have hbm:¬ b=m:=hbO.2.2
  have hcd:=cdel_at h5 hcf
  simp only[↓Zd,Zp,Zs,simprocAttr,CHDM0,underlying238,underlying265,underlying262,h4,h5,hcf,o_delete,hcd,hpm,hbm,bPlace0,fa264x0,fa264x1,ag238,ag262,sz292,hlt',hge,hb,hle,hset,ze3,co271]
  refine press_spec (lo:=lo) (N:=N) (L:=delP (props P) x) (O:=O) ⟨fun c hc=>⟨(h1 c hc).1,(h1 c hc).2⟩,h2,P.set j none,m,.slice (some ⟨b,0,none⟩) P.length UNK,_,clock,kv.eraseIdx i,?_,?_,?_,?_,h6.erase i,h7.del hi,h8,h9,.inr ⟨b,junk,?_,?_,plsCells_len _⟩,h11⟩ hN ?_
  ·exact props_del P j x v0 hv fun k u hu=>h7.one ((h7.mem x k).2 ⟨u,hu⟩) ((h7.mem x j).2 ⟨v0,hv⟩)
  ·rw[List.length_set];exact hPN
  ·rw[aP,if_neg hpb,aP,if_neg hpm];exact h4
  ·rw[aP,if_neg hmb,aP,if_pos rfl]
  ·rw[List.length_set]
  ·rw[aP,if_pos rfl]
  ·intro s' hD' hn' hfr'
   simp only[↓Zd,Zp,simprocAttr,CHDM0]
   rw[hx]at h
   refine h s' hD' (by simpa using hn') fun c hc ho=>?_
   rw[hfr' c (by simpa using hc) ho,aP,if_neg (fun e:c=b=>ho (e▸hbO.1)),aP,if_neg (fun e:c=m=>ho (e▸h8))]
end
end Go.Proofs.Tryz
end
section
namespace Go.Proofs.Tryz
open Go.Cs
open Go.RowKit (Below)
set_option maxRecDepth 100000
abbrev Sh:=Nat×List Nat
def CFOM0:=(aI (aI (aI @underlying3 @underlying4) (aI @underlying9 @underlying5)) (aI (aI @underlying38 @underlying0) (aI @be4 @bn4)))
def shIs(F:List Sh)(t:Sh):Option Nat:=if t∈F then some (F.idxOf t+1) else none
def growF(F:List Sh)(most:Nat)(t:Sh):List Sh:=if t∈F then F else if F.length<most then F ++ [t] else F
def growN(F:List Sh)(most:Nat)(t:Sh):Nat:=if t∈F then F.idxOf t+1 else if F.length<most then F.length+1 else 0
theorem shIs_get{F:List Sh}{t:Sh}{j:Nat}(h:shIs F t=some j):1≤j∧j≤F.length∧F[j - 1]?=some t:=by
 unfold shIs at h
 split at h
 ·rename_i hm
  cases h
  have:=List.idxOf_lt_length_of_mem hm
  refine⟨oM,oM,?_⟩
  rw[Nat.add_sub_cancel,List.getElem?_eq_getElem this,List.getElem_idxOf this]
 ·cases h
theorem shIs_none{F:List Sh}{t:Sh}:shIs F t=none↔t ∉ F:=by
 unfold shIs
 split<;>simp_all
theorem shIs_app{F:List Sh}{t u:Sh}(h:t ∉ F):shIs (F ++ [t]) u=if u=t then some (F.length+1) else shIs F u:=by
 by_cases e:u=t
 ·subst e
  rw[if_pos rfl,shIs,if_pos (by simp),List.idxOf_append,if_neg h]
  simp
 ·rw[if_neg e]
  unfold shIs
  by_cases hu:u∈F
  ·rw[if_pos hu,if_pos (by simp[hu]),List.idxOf_append,if_pos hu]
  ·rw[if_neg hu,if_neg (by simp[hu,e])]
structure FOk(F:List Sh):Prop where
 nodup:F.Nodup
 up:∀ (i p x:Nat) (r:List Nat),F[i]?=some (p,x::r)→∃ j,j<i∧F[j]?=some (p,r)
 names:∀ (i p:Nat) (l:List Nat),F[i]?=some (p,l)→l.Nodup∧l.length≤12
theorem FOk.nil:FOk []:=⟨List.nodup_nil,fun i p x r h=>by simp at h,fun i p l h=>by simp at h⟩
theorem FOk.one{F:List Sh}(h:FOk F){i j:Nat}{t:Sh}(h1:F[i]?=some t)(h2:F[j]?=some t):i=j:=by
 obtain⟨l1,e1⟩:=List.getElem?_eq_some_iff.1 h1
 obtain⟨l2,e2⟩:=List.getElem?_eq_some_iff.1 h2
 exact (List.getElem_inj h.nodup).1 (e1.trans e2.symm)
theorem FOk.is{F:List Sh}(h:FOk F){i:Nat}{t:Sh}(h1:F[i]?=some t):shIs F t=some (i+1):=by
 have hm:=List.mem_of_getElem? h1
 have h2:shIs F t=some (F.idxOf t+1):=by unfold shIs;rw[if_pos hm]
 have:=(shIs_get h2).2.2
 rw[Nat.add_sub_cancel]at this
 rw[h2,h.one this h1]
theorem FOk.app{F:List Sh}(h:FOk F){p:Nat}{l:List Nat}(hm:(p,l) ∉ F)(hn:l.Nodup)(hl:l.length≤12)(hu:∀ x r,l=x::r→(p,r)∈F):FOk (F ++ [(p,l)]):=by
 have hlast:∀ (i:Nat) (t:Sh),(F ++ [(p,l)])[i]?=some t→F[i]?=some t∨(i=F.length∧t=(p,l)):=by
  intro i t hi
  by_cases h1:i<F.length
  ·rw[List.getElem?_append_left h1]at hi;exact .inl hi
  ·rw[List.getElem?_append_right oM]at hi
   have:i - F.length=0:=by
    have:=(List.getElem?_eq_some_iff.1 hi).1
    simp at this;omega
   rw[this]at hi
   simp at hi
   exact .inr ⟨oM,hi.symm⟩
 refine⟨?_,fun i q x r hi=>?_,fun i q r hi=>?_⟩
 ·rw[List.nodup_append]
  refine⟨h.nodup,by simp,fun a ha b hb e=>?_⟩
  simp at hb
  subst hb;subst e
  exact hm ha
 ·rcases hlast _ _ hi with h1|⟨rfl,e⟩
  ·obtain⟨j,hj,h2⟩:=h.up i q x r h1
   have hjl:=(List.getElem?_eq_some_iff.1 h2).1
   exact⟨j,hj,by rw[List.getElem?_append_left hjl];exact h2⟩
  ·cases e
   obtain⟨j,hjl,hj⟩:=List.getElem_of_mem (hu x r rfl)
   exact⟨j,hjl,by rw[List.getElem?_append_left hjl,List.getElem?_eq_getElem hjl,hj]⟩
 ·rcases hlast _ _ hi with h1|⟨rfl,e⟩
  ·exact h.names i q r h1
  ·cases e
   exact⟨hn,hl⟩
def parId(F:List Sh)(t:Sh):Nat:=match t.2 with
 | []=>0
 |_::r=>F.idxOf (t.1,r)+1
theorem FOk.par{F:List Sh}(h:FOk F){i p x:Nat}{r:List Nat}(hi:F[i]?=some (p,x::r)):∃ j,j<i∧F[j]?=some (p,r)∧parId F (p,x::r)=j+1:=by
 obtain⟨j,hj,h2⟩:=h.up i p x r hi
 refine⟨j,hj,h2,?_⟩
 have:=h.is h2
 unfold shIs at this
 rw[if_pos (List.mem_of_getElem? h2)]at this
 exact Option.some.inj this
def rows(c:Nat→List Value)(n:Nat):List Value:=(List.range n).flatMap c
theorem rows_succ(c:Nat→List Value)(n:Nat):rows c (n+1)=rows c n++c n:=by
 unfold rows;rw[List.range_succ];simp
theorem rows_congr{c d:Nat→List Value}{n:Nat}(h:∀ i,i<n→c i=d i):rows c n=rows d n:=by
 induction n with
 |zero=>rfl
 |succ n ih=>rw[rows_succ,rows_succ,ih (fun i hi=>h i oM),h n oM]
theorem rows_len{c:Nat→List Value}{k:Nat}(hc:∀ i,(c i).length=k)(n:Nat):(rows c n).length=n*k:=by
 induction n with
 |zero=>simp[rows]
 |succ n ih=>rw[rows_succ,List.length_append,ih,hc,Nat.succ_mul]
theorem rows_get{c:Nat→List Value}{k:Nat}(hc:∀ i,(c i).length=k){n i j:Nat}(junk:List Value)(hi:i<n)(hj:j<k):(rows c n++junk)[i*k+j]?=(c i)[j]?:=by
 have hb:∀ m,m≤n→i<m→i*k+j<m*k:=fun m _ h=>by
  have:(i+1)*k≤m*k:=Nat.mul_le_mul_right k h
  rw[Nat.succ_mul]at this;omega
 rw[List.getElem?_append_left (by rw[rows_len hc];exact hb n (Nat.le_refl _) hi)]
 induction n with
 |zero=>omega
 |succ n ih =>
  rw[rows_succ]
  by_cases e:i=n
  ·subst e
   rw[List.getElem?_append_right (by rw[rows_len hc];omega),rows_len hc]
   congr 1;omega
  ·have hi':i<n:=oM
   rw[List.getElem?_append_left (by rw[rows_len hc];exact hb n oM hi')]
   exact ih hi' (fun m hm h=>hb m oM h)
theorem rows_cut{c:Nat→List Value}{k:Nat}(hc:∀ i,(c i).length=k){n i:Nat}(junk:List Value)(hi:i<n):i*k+k≤(rows c n++junk).length∧List.take k (List.drop (i*k) (rows c n++junk))=c i:=by
 have hb:(i+1)*k≤n*k:=Nat.mul_le_mul_right k hi
 rw[Nat.succ_mul]at hb
 refine⟨by rw[List.length_append,rows_len hc];omega,?_⟩
 apply List.ext_getElem?
 intro j
 rw[List.getElem?_take]
 by_cases hj:j<k
 ·rw[if_pos hj,List.getElem?_drop,rows_get hc junk hi hj]
 ·rw[if_neg hj,List.getElem?_eq_none (by rw[hc];omega)]
theorem rows_set{c d:Nat→List Value}{k:Nat}(hc:∀ i,(c i).length=k)(hd:∀ i,(d i).length=k){n i j:Nat}{v:Value}(junk:List Value)(hi:i<n)(hj:j<k)(he:∀ m,m≠i→d m=c m)(hs:d i=(c i).set j v) :
  (rows c n++junk).set (i*k+j) v=rows d n++junk:=by
 have hb:(i+1)*k≤n*k:=Nat.mul_le_mul_right k hi
 rw[Nat.succ_mul]at hb
 rw[List.set_append_left _ _ (by rw[rows_len hc];omega)]
 congr 1
 clear junk
 induction n with
 |zero=>omega
 |succ n ih =>
  rw[rows_succ,rows_succ]
  by_cases e:i=n
  ·subst e
   rw[List.set_append_right _ _ (by rw[rows_len hc];omega),rows_len hc,show i*k+j - i*k=j from oM,hs,rows_congr (fun m hm=>(he m oM).symm)]
  ·have hi':i<n:=oM
   have hb':(i+1)*k≤n*k:=Nat.mul_le_mul_right k hi'
   rw[Nat.succ_mul]at hb'
   rw[List.set_append_left _ _ (by rw[rows_len hc];omega),ih hi' hb',he n oM]
def oneC(F:List Sh)(nx:Nat→Option Nat)(i:Nat):List Value:=
 [.int .i64 ((parId F (F.getD i (0,[])):Nat):Int),.int .i64 (((F.getD i (0,[])).2.headD 0:Nat):Int),.int .i64 (((F.getD i (0,[])).2.length:Nat):Int),.int .i64 (((F.getD i (0,[])).1:Nat):Int),.map (nx i)]
theorem oneC_len(F:List Sh)(nx:Nat→Option Nat)(i:Nat):(oneC F nx i).length=5:=rfl
theorem oneC_at{F:List Sh}{nx:Nat→Option Nat}{i:Nat}{t:Sh}(h:F[i]?=some t):oneC F nx i=[.int .i64 ((parId F t:Nat):Int),.int .i64 ((t.2.headD 0:Nat):Int),.int .i64 ((t.2.length:Nat):Int),.int .i64 ((t.1:Nat):Int),.map (nx i)]:=by
 unfold oneC
 rw[List.getD_eq_getElem?_getD,h]
 rfl
theorem FOk.one_app{F:List Sh}(h:FOk F){t:Sh}{nx:Nat→Option Nat}{i:Nat}(hi:i<F.length):oneC (F ++ [t]) nx i=oneC F nx i:=by
 have e:F[i]?=some F[i]:=List.getElem?_eq_getElem hi
 rw[oneC_at e,oneC_at (t:=F[i]) (by rw[List.getElem?_append_left hi,e])]
 congr 2
 unfold parId
 rcases hF:F[i] with ⟨p,l⟩
 cases l with
 |nil=>rfl
 |cons x r =>
  rw[hF]at e
  obtain⟨j,hj,h2⟩:=h.up i p x r e
  simp only
  rw[List.idxOf_append,if_pos (List.mem_of_getElem? h2)]
def MI(es:List MapEntry)(f:Nat→Option Nat):Prop:=∀ x:Nat,∃ i,cfind Tryz.prog 3 (.int .i64 (x:Int)) es=some ((f x).map fun j=>(i,.int .i64 (j:Int)))
theorem MI.nil:MI [] (fun _=>none):=fun x=>⟨0,by unfold cfind;rw[if_pos (show plain 6 (Value.int .i64 (x:Int))=true from rfl),underlying3];rfl⟩
theorem find_app(k:Value)(kd:TypeDesc)(e:MapEntry):∀ (es:List MapEntry) (i:Nat),Instr.findNow kd k es i=some none→Instr.findNow kd k (es ++ [e]) i=Instr.findNow kd k [e] (i+es.length):=by
 intro es
 induction es with
 |nil=>intro i h;rfl
 |cons a es ih =>
  intro i h
  simp only[Instr.findNow,List.cons_append]at h ⊢
  cases hs:Instr.sameNow kd k a.key with
  |none=>rw[hs]at h;simp at h
  |some b =>
   cases b with
   |true=>rw[hs]at h;simp at h
   |false =>
    rw[hs]at h
    simp only at h ⊢
    rw[ih (i+1) h,List.length_cons]
    rw[show i+1+es.length=i+(es.length+1) from oM]
    rfl
theorem find_app2(k:Value)(kd:TypeDesc)(e:MapEntry):∀ (es:List MapEntry) (i:Nat) (r:Nat×Value),Instr.findNow kd k es i=some (some r)→Instr.findNow kd k (es ++ [e]) i=some (some r):=by
 intro es
 induction es with
 |nil=>intro i r h;simp[Instr.findNow]at h
 |cons a es ih =>
  intro i r h
  simp only[Instr.findNow,List.cons_append]at h ⊢
  cases hs:Instr.sameNow kd k a.key with
  |none=>rw[hs]at h;simp at h
  |some b =>
   cases b with
   |true=>rw[hs]at h;exact h
   |false =>
    rw[hs]at h
    simp only at h ⊢
    exact ih (i+1) r h
theorem MI.app{es:List MapEntry}{f:Nat→Option Nat}(h:MI es f){x j c:Nat}(hx:f x=none):MI (es ++ [{ key := .int .i64 (x:Int),val := .int .i64 (j:Int),born:=c }]) (fun y=>if y=x then some j else f y):=by
 have hc:∀ (y:Nat) (es:List MapEntry),cfind Tryz.prog 3 (.int .i64 (y:Int)) es=Instr.findNow (.int .i64) (.int .i64 (y:Int)) es 0:=fun y es=>by
  unfold cfind;rw[if_pos (show plain 6 (Value.int .i64 (y:Int))=true from rfl),underlying3]
 intro y
 obtain⟨i,hi⟩:=h y
 rw[hc]at hi ⊢
 by_cases e:y=x
 ·subst e
  rw[hx]at hi
  refine⟨es.length,?_⟩
  rw[find_app _ _ _ _ _ hi]
  simp[Instr.findNow,Instr.sameNow]
 ·simp only[if_neg e]
  cases hf:f y with
  |none =>
   rw[hf]at hi
   refine⟨0,?_⟩
   rw[find_app _ _ _ _ _ hi]
   have:((y:Int) == (x:Int))=false:=by
    rw[Bool.eq_false_iff]
    intro h
    have:=eq_of_beq h
    omega
   simp[Instr.findNow,Instr.sameNow,this]
  |some k =>
   rw[hf]at hi
   exact⟨i,find_app2 _ _ _ _ _ _ hi⟩
def FOx:=(aI (aI (aI (aI (aI @underlying3 @underlying4) (aI @underlying9 @underlying5)) (aI (aI @underlying38 @underlying0) (aI @be4 (aI @bn4 @ag3)))) (aI (aI (aI @sz3 @sz234) (aI @ce234 @ce3)) (aI (aI @ze3 @sz268) (aI @underlying306 (aI @underlying235 @underlying234))))) (aI (aI (aI (aI @underlying143 @ag143) (aI @ag235 @ag234)) (aI (aI @nf306 @nt306) (aI @ng306 (aI @nn306 @nf143)))) (aI (aI (aI @nf234 @nt234) (aI @fa237x0 (aI @fa237x1 @fa237x2))) (aI (aI @fa268x0 @fa268x1) (aI @fa268x2 (aI @fa268x3 @fa268x4))))))
end Go.Proofs.Tryz
namespace Go.Proofs.Tryz
open Go.Cs
open Go.RowKit (Below)
set_option maxRecDepth 100000
attribute [local irreducible] QC WLoop WScope
section
variable {M:Type}[Mem M]{w0:World}{s:St M}{R:Value→St M→Prop}
def Kids(s:St M)(F:List Sh)(O:Nat→Prop)(p m:Nat)(nx:Nat→Option Nat):Prop:=
 (∀ i,nx i=none→∀ t,F[i]?=some t→∀ x,shIs F (t.1,x::t.2)=none) ∧
 (∀ i b,nx i=some b→O b∧b≠p∧b≠m∧(∀ j,nx j=some b→j=i)∧∃ t,F[i]?=some t∧∃ es c,s.at' b=some (.map es c)∧MI es (fun x=>shIs F (t.1,x::t.2)))
structure FAt(lo:Nat)(s:St M)(p:Nat)(F:List Sh)(most:Nat)(O:Nat→Prop):Prop where
 own:∀ b,O b→lo≤b∧b<s.next
 pin:O p
 ok:FOk F
 le:F.length≤most∧most≤150
 bl:∃ m sl es clock nx,s.at' p=some (.cells [sl,.map (some m),.int .i64 (most:Int)] 237 true)∧s.at' m=some (.map es clock)∧MI es (fun x=>shIs F (x,[]))∧O m∧m≠p ∧
  SlU 268 5 s sl (rows (oneC F nx) F.length) F.length∧(∀ q n c,sl = .slice (some q) n c→O q.block∧q.block≠p∧q.block≠m∧∀ i,nx i≠some q.block)∧Kids s F O p m nx
theorem Kids.same{s s':St M}{F:List Sh}{O:Nat→Prop}{p m:Nat}{nx:Nat→Option Nat}(h:Kids s F O p m nx)(hs:∀ i b,nx i=some b→s'.at' b=s.at' b):Kids s' F O p m nx:=by
 refine⟨h.1,fun i b hb=>?_⟩
 obtain⟨h1,h2,h3,h4,t,h5,es,c,h6,h7⟩:=h.2 i b hb
 exact⟨h1,h2,h3,h4,t,h5,es,c,by rw[hs i b hb];exact h6,h7⟩
theorem FAt.same{lo:Nat}{s s':St M}{p:Nat}{F:List Sh}{most:Nat}{O:Nat→Prop}(h:FAt lo s p F most O)(hn:s.next≤s'.next)(hs:∀ b,O b→s'.at' b=s.at' b):FAt lo s' p F most O:=by
 obtain⟨h1,h2,h3,h4,m,sl,es,clock,nx,h5,h6,h7,h8,h9,h10,h11,h12⟩:=h
 exact⟨fun b hb=>⟨(h1 b hb).1,by have:=(h1 b hb).2;omega⟩,h2,h3,h4,m,sl,es,clock,nx,by rw[hs _ h2];exact h5,by rw[hs _ h8];exact h6,h7,h8,h9,h10.same fun q n c e=>hs _ (h11 q n c e).1,h11,h12.same fun i b hb=>hs _ (h12.2 i b hb).1⟩
def shAt(F:List Sh)(i:Int):Option Sh:=if 1≤i then F[i.toNat - 1]? else none
theorem SlU.form{e:TypeId}{sz:Nat}{sl:Value}{cs:List Value}{n:Nat}(h:SlU e sz s sl cs n):(n=0∧sl = .slice none 0 0)∨∃ b,sl = .slice (some ⟨b,0,none⟩) n UNK:=by
 rcases h with ⟨h1,_,h2⟩|⟨b,_,h1,_⟩
 ·exact .inl ⟨h1,h2⟩
 ·exact .inr ⟨b,h1⟩
theorem ffind_spec{p:Nat}{i most:Int}{sl m:Value}{n:Nat}(hp:s.at' p=some (.cells [sl,m,.int .i64 most] 237 true))(hsl:(n=0∧sl = .slice none 0 0)∨∃ b,sl = .slice (some ⟨b,0,none⟩) n UNK)(hi : -9223372036854775808≤i∧i≤9223372036854775807)
  (hno:¬ (1≤i∧i≤n)→R (.pointer none) s)(hyes:∀ b j:Nat,i=((j+1:Nat):Int)→j<n→sl = .slice (some ⟨b,0,none⟩) n UNK→R (.pointer (some ⟨b,j*5,none⟩)) s) :
  QC Tryz.prog w0 266 #[.pointer (some ⟨p,0,none⟩),.int .i64 i] s R:=by
 refine wfun2 hmix ok266 func266 rfl ntmps266 results266 (by simp) ?_
 by_cases i1:i<1
 ·simp only[↓Zd,Zp,simprocAttr,nf143,i1]
  exact hno oM
 ·rcases hsl with ⟨h0,rfl⟩|⟨b,rfl⟩
  ·have i2:0<i:=oM
   simp only[↓Zd,Zp,simprocAttr,cld2,underlying235,hp,nf143,fa237x0,ag235,i1,i2]
   exact hno oM
  ·by_cases i2:(n:Int)<i
   ·simp only[↓Zd,Zp,simprocAttr,cld2,underlying235,hp,nf143,fa237x0,ag235,i1,i2]
    exact hno oM
   ·obtain⟨j,rfl⟩:∃ j:Nat,i=((j+1:Nat):Int):=⟨(i - 1).toNat,oM⟩
    have w1:IntKind.i64.wrap (((j+1:Nat):Int) - 1)=(j:Int):=by rw[wrap_i64 oM];omega
    have hj:(0:Int)≤(j:Int)∧(j:Int)<(n:Int):=oM
    simp only[↓Zd,Zp,simprocAttr,cld2,underlying235,hp,nf143,fa237x0,ag235,sz268,i1,i2,w1,hj]
    exact hyes b j rfl oM rfl
theorem shAt_out{F:List Sh}{i:Int}(h:¬ (1≤i∧i≤F.length)):shAt F i=none:=by
 unfold shAt
 split
 ·rw[List.getElem?_eq_none oM]
 ·rfl
theorem shAt_in{F:List Sh}{j:Nat}:shAt F ((j+1:Nat):Int)=F[j]?:=by
 unfold shAt
 rw[if_pos oM]
 congr 1
theorem fproto_spec{lo p:Nat}{F:List Sh}{most:Nat}{O:Nat→Prop}{i:Int}(hF:FAt lo s p F most O)(hi : -9223372036854775808≤i∧i≤9223372036854775807)
  (h:R (match shAt F i with|some t => .tuple #[.int .i64 (t.1:Int),.bool true]|none => .tuple #[.int .i64 0,.bool false]) s):QC Tryz.prog w0 225 #[.pointer (some ⟨p,0,none⟩),.int .i64 i] s R:=by
 refine wfun2 hmix ok225 func225 rfl ntmps225 results225 (by simp) ?_
 obtain⟨h1,h2,h3,h4,m,sl,es,clock,nx,h5,h6,h7,h8,h9,h10,h11,h12⟩:=hF
 simp only[↓Zd,Zp,simprocAttr,co266]
 refine ffind_spec h5 h10.form hi (fun hno=>?_) (fun b j hij hj hsl=>?_)
 ·rw[shAt_out hno]at h
  simp only[↓Zd,Zp,simprocAttr,FOx]
  exact h
 ·rcases h10 with ⟨e0,_⟩|⟨b',junk,hs',hb,hl⟩
  ·omega
  cases hsl.symm.trans hs'
  have hF:F[j]?=some F[j]:=by simp[hj]
  rw[hij,shAt_in,hF]at h
  have g:=rows_get (oneC_len F nx) (n:=F.length) junk hj (show 3<5 by omega)
  rw[oneC_at hF]at g
  simp only[↓Zd,Zp,simprocAttr,cld2,FOx,hb,g]
  exact h
theorem fparent_spec{lo p:Nat}{F:List Sh}{most:Nat}{O:Nat→Prop}{i:Int}(hF:FAt lo s p F most O)(hi : -9223372036854775808≤i∧i≤9223372036854775807)
  (h:R (.int .i64 (match shAt F i with|some t=>(parId F t:Int)|none=>0)) s):QC Tryz.prog w0 218 #[.pointer (some ⟨p,0,none⟩),.int .i64 i] s R:=by
 refine wfun2 hmix ok218 func218 rfl ntmps218 results218 (by simp) ?_
 obtain⟨h1,h2,h3,h4,m,sl,es,clock,nx,h5,h6,h7,h8,h9,h10,h11,h12⟩:=hF
 simp only[↓Zd,Zp,simprocAttr,co266]
 refine ffind_spec h5 h10.form hi (fun hno=>?_) (fun b j hij hj hsl=>?_)
 ·rw[shAt_out hno]at h
  simp only[↓Zd,Zp,simprocAttr,FOx]
  exact h
 ·rcases h10 with ⟨e0,_⟩|⟨b',junk,hs',hb,hl⟩
  ·omega
  cases hsl.symm.trans hs'
  have hF:F[j]?=some F[j]:=by simp[hj]
  rw[hij,shAt_in,hF]at h
  have g:=rows_get (oneC_len F nx) (n:=F.length) junk hj (show 0<5 by omega)
  rw[oneC_at hF]at g
  simp only[↓Zd,Zp,simprocAttr,cld2,FOx,hb,g]
  exact h
end
end Go.Proofs.Tryz
namespace Go.Proofs.Tryz
open Go.Cs
open Go.RowKit (Below)
set_option maxRecDepth 100000
attribute [local irreducible] QC WLoop WScope
def oneV(a b c d:Nat):List Value:=[.int .i64 (a:Int),.int .i64 (b:Int),.int .i64 (c:Int),.int .i64 (d:Int),.map none]
theorem rowOne(a b c d:Nat):crow Tryz.prog 235 1 #[(0,.agg #[.int .i64 (a:Int),.int .i64 (b:Int),.int .i64 (c:Int),.int .i64 (d:Int),.map none])]=some (.cells [.int .i64 (a:Int),.int .i64 (b:Int),.int .i64 (c:Int),.int .i64 (d:Int),.map none] 268 true):=oK
theorem infoOne:∃ ie,Tryz.prog.info? 268=some ie∧ie.size=5∧0<ie.bytes∧ie.bytes≤100:=by
 obtain⟨ie,h⟩:=Option.isSome_iff_exists.1 is268
 have h1:=ce268
 have h2:decide (0<Tryz.prog.bytesOf 268∧Tryz.prog.bytesOf 268≤100)=true:=oK
 rw[cellsOf_info h]at h1
 simp only[Program.bytesOf,h,decide_eq_true_eq]at h2
 exact⟨ie,h,h1,h2.1,h2.2⟩
section
variable {M:Type}[Mem M]{w0:World}{s:St M}{R:Value→St M→Prop}
theorem app_one{s:St M}{sl:Value}{cs:List Value}{k a b c d:Nat}(hlen:k≤1000000)(hsl:SlU 268 5 s sl cs k)(hfr:∀ q m c,sl = .slice (some q) m c→q.block<s.next) :
  ∃ s',capp Tryz.prog #[235,235] #[sl,.slice (some ⟨s.next,0,none⟩) 1 1] (s.new (.cells (oneV a b c d) 268 true))=some (.slice (some ⟨s.next+1,0,none⟩) (k+1) UNK,s')∧s'.next=s.next+2 ∧
   s'.at' (s.next+1)=some (.cells (cs++oneV a b c d) 268 true)∧(∀ b,b<s.next→(∀ q n c,sl = .slice (some q) n c→b≠q.block)→s'.at' b=s.at' b):=by
 obtain⟨ie,hie,h1,h2,h3⟩:=infoOne
 have hcapp:capp Tryz.prog #[235,235] #[sl,.slice (some ⟨s.next,0,none⟩) 1 1] (s.new (.cells (oneV a b c d) 268 true))=capp3 Tryz.prog 268 ie sl (s.new (.cells (oneV a b c d) 268 true)) (cmore ie.size (.slice (some ⟨s.next,0,none⟩) 1 1) (s.new (.cells (oneV a b c d) 268 true))):=
  app_eq underlying235 underlying235 hie
 have hv:cmore ie.size (.slice (some ⟨s.next,0,none⟩) 1 1) (s.new (.cells (oneV a b c d) 268 true))=some (1,oneV a b c d):=by
  simp only[more_at,aN,if_true,more2,h1];rfl
 obtain⟨s',h3,h4,h5,h6⟩:=app_rowU (n:=k) (k:=1) hie ze268 (by rw[h1];rfl) h2 hcapp oM (by
  have:(k+1)*ie.bytes≤1000001*100:=Nat.mul_le_mul oM h3
  omega) rfl hv (by rw[h1];exact hsl.same fun q m c e=>by rw[aN,if_neg (by have:=hfr q m c e;omega)])
 refine⟨s',by simpa using h3,by simp at h4;omega,h5,fun b hb hq=>?_⟩
 rw[h6 b (by simp;omega) hq,aN,if_neg oM]
set_option maxHeartbeats 4000000 in
theorem fgrow_spec{p most:Nat}{sl m:Value}{cs:List Value}{n a b c d:Nat}(hp:s.at' p=some (.cells [sl,m,.int .i64 (most:Int)] 237 true))(hsl:SlU 268 5 s sl cs n)(hfr:∀ q m c,sl = .slice (some q) m c→q.block<s.next∧q.block≠p)(hpn:p<s.next)(hn:n≤150)
  (hno:∀ s',most≤n→s.le s'→R (.int .i64 0) s')
  (hyes:∀ s' b',n<most→s.next≤b'→b' < s'.next→s.next≤s'.next→s'.at' p=some (.cells [.slice (some ⟨b',0,none⟩) (n+1) UNK,m,.int .i64 (most:Int)] 237 true)→s'.at' b'=some (.cells (cs++oneV a b c d) 268 true) →
   (∀ c,c<s.next→c≠p→(∀ q n k,sl = .slice (some q) n k→c≠q.block)→s'.at' c=s.at' c)→R (.int .i64 ((n+1:Nat):Int)) s') :
  QC Tryz.prog w0 201 #[.pointer (some ⟨p,0,none⟩),.agg #[.int .i64 (a:Int),.int .i64 (b:Int),.int .i64 (c:Int),.int .i64 (d:Int),.map none]] s R:=by
 refine wfun2 hmix ok201 func201 rfl ntmps201 results201 (by simp) ?_
 have hpn':¬ p=s.next:=oM
 obtain⟨a0,c0,rfl⟩:∃ a0 c0,sl = .slice a0 n c0:=by
  rcases hsl.form with ⟨e0,rfl⟩|⟨b,rfl⟩
  ·exact⟨none,0,by rw[e0]⟩
  ·exact⟨_,_,rfl⟩
 by_cases hge:(most:Int)≤(n:Int)
 ·simp only[↓Zd,Zp,Zs,simprocAttr,FOx,is268,ord201,hp,hpn',hge]
  exact hno _ oM oL
 ·have hsl':SlU 268 5 (s.new (.cells (oneV a b c d) 268 true)) (.slice a0 n c0) cs n:=hsl.same fun q m c e=>by rw[aN,if_neg (by have:=(hfr q m c e).1;omega)]
  obtain⟨s3,happ,hn3,hat3,hk3⟩:=app_one (a:=a) (b:=b) (c:=c) (d:=d) oM hsl' (fun q m c e=>by have:=(hfr q m c e).1;simp only[nN];omega)
  simp only[nN,oneV]at happ hn3 hat3 hk3
  have hp3:s3.at' p=some (.cells [.slice a0 n c0,m,.int .i64 (most:Int)] 237 true):=by rw[hk3 p oM (fun q a c e=>(hfr q a c e).2.symm),aN,if_neg hpn'];exact hp
  simp only[↓Zd,Zp,Zs,simprocAttr,FOx,underlying268,is268,ord201,ce268,ag268,hp,hpn',hge,sz235,rowOne,happ,hp3]
  refine hyes _ (s.next+2) oM oM (by simp only[nU];omega) (by simp only[nU];omega) ?_ ?_ ?_
  ·rw[aP,if_pos rfl]
  ·rw[aP,if_neg oM];exact hat3
  ·intro c hc hcp hq
   rw[aP,if_neg hcp,hk3 c oM hq,aN,if_neg oM]
end
end Go.Proofs.Tryz
namespace Go.Proofs.Tryz
open Go.Cs
open Go.RowKit (Below)
set_option maxRecDepth 100000
attribute [local irreducible] QC WLoop WScope
theorem rows_app{F:List Sh}(h:FOk F){t:Sh}{nx:Nat→Option Nat}(hn:nx F.length=none):rows (oneC (F ++ [t]) nx) (F.length+1)=rows (oneC F nx) F.length++oneV (parId (F ++ [t]) t) (t.2.headD 0) t.2.length t.1:=by
 rw[rows_succ,rows_congr (fun i hi=>h.one_app hi)]
 congr 1
 rw[oneC_at (t:=t) (by simp),hn]
 rfl
section
variable {M:Type}[Mem M]{w0:World}{s:St M}{R:Value→St M→Prop}
structure Upd(s s':St M)(O O':Nat→Prop):Prop where
 next:s.next≤s'.next
 keep:∀ b,b<s.next→¬ O b→s'.at' b=s.at' b
 own:∀ b,O' b→O b∨s.next≤b
theorem Upd.of_le{s s':St M}{O:Nat→Prop}(h:s.le s'):Upd s s' O O:=⟨h.1,fun b hb _=>h.2 b hb,fun b hb => .inl hb⟩
theorem Upd.refl{s:St M}{O:Nat→Prop}:Upd s s O O := .of_le (lR s)
theorem Upd.trans{s s1 s2:St M}{O O1 O2:Nat→Prop}(h1:Upd s s1 O O1)(h2:Upd s1 s2 O1 O2):Upd s s2 O O2:=by
 have hn:=h1.next
 refine⟨Nat.le_trans h1.next h2.next,fun b hb ho=>?_,fun b hb=>?_⟩
 ·rw[h2.keep b oM (fun h=>by rcases h1.own b h with h|h;exact ho h;omega),h1.keep b hb ho]
 ·rcases h2.own b hb with h|h
  ·exact h1.own b h
  ·exact .inr oM
theorem Kids.last{s:St M}{F:List Sh}{O:Nat→Prop}{p m:Nat}{nx:Nat→Option Nat}(h:Kids s F O p m nx){i:Nat}(hi:F.length≤i):nx i=none:=by
 cases hx:nx i with
 |none=>rfl
 |some b =>
  obtain⟨_,_,_,_,t,h5,_⟩:=h.2 i b hx
  have:=(List.getElem?_eq_some_iff.1 h5).1
  omega
theorem Kids.root{s:St M}{F:List Sh}{O:Nat→Prop}{p m q:Nat}{nx:Nat→Option Nat}(h:Kids s F O p m nx)(hF:FOk F)(hq:(q,[]) ∉ F):Kids s (F ++ [(q,[])]) O p m nx:=by
 have hs:∀ (a x:Nat) (l:List Nat),shIs (F ++ [(q,[])]) (a,x::l)=shIs F (a,x::l):=fun a x l=>by
  rw[shIs_app hq,if_neg (by simp)]
 refine⟨fun i hi t ht x=>?_,fun i b hb=>?_⟩
 ·rw[hs]
  by_cases h1:i<F.length
  ·rw[List.getElem?_append_left h1]at ht
   exact h.1 i hi t ht x
  ·rw[List.getElem?_append_right oM]at ht
   have h0:i - F.length=0:=by
    have:=(List.getElem?_eq_some_iff.1 ht).1
    simp at this;omega
   rw[h0]at ht
   simp at ht
   subst ht
   rw[shIs_none]
   intro hm
   obtain⟨k,hk,e⟩:=List.getElem_of_mem hm
   obtain⟨j,_,hj⟩:=hF.up k q x [] (by rw[List.getElem?_eq_getElem hk,e])
   exact hq (List.mem_of_getElem? hj)
 ·obtain⟨h1,h2,h3,h4,t,h5,es,c,h6,h7⟩:=h.2 i b hb
  refine⟨h1,h2,h3,h4,t,by rw[List.getElem?_append_left (List.getElem?_eq_some_iff.1 h5).1];exact h5,es,c,h6,?_⟩
  have:(fun x=>shIs (F ++ [(q,[])]) (t.1,x::t.2))=fun x=>shIs F (t.1,x::t.2):=by funext x;exact hs _ _ _
  rw[this]
  exact h7
theorem Kids.mono{s:St M}{F:List Sh}{O O':Nat→Prop}{p m:Nat}{nx:Nat→Option Nat}(h:Kids s F O p m nx)(ho:∀ b,O b→O' b):Kids s F O' p m nx:=
 ⟨h.1,fun i b hb=>⟨ho b (h.2 i b hb).1,(h.2 i b hb).2⟩⟩
theorem bOneR(q:Nat):cbuild Tryz.prog 268 #[(3,.int .i64 (q:Int))]=some (.agg #[.int .i64 ((0:Nat):Int),.int .i64 ((0:Nat):Int),.int .i64 ((0:Nat):Int),.int .i64 (q:Int),.map none]):=oK
set_option maxHeartbeats 4000000 in
theorem froot_spec{lo p:Nat}{F:List Sh}{most q:Nat}{O:Nat→Prop}(hF:FAt lo s p F most O)(hlo:lo≤s.next)
  (h:∀ s' O',FAt lo s' p (growF F most (q,[])) most O'→Upd s s' O O'→R (.int .i64 (growN F most (q,[]):Int)) s') :
  QC Tryz.prog w0 135 #[.pointer (some ⟨p,0,none⟩),.int .i64 (q:Int)] s R:=by
 refine wfun2 hmix ok135 func135 rfl ntmps135 results135 (by simp) ?_
 have hF0:=hF
 obtain⟨h1,h2,h3,h4,m,sl,es,clock,nx,h5,h6,h7,h8,h9,h10,h11,h12⟩:=hF
 have hq:¬ (q:Int)<0:=oM
 obtain⟨i0,hc⟩:=h7 q
 simp only at hc
 have hpn:=(h1 p h2).2
 have hmn:=(h1 m h8).2
 by_cases hin:(q,[])∈F
 ·have hsh:shIs F (q,[])=some (F.idxOf (q,[])+1):=by unfold shIs;rw[if_pos hin]
  rw[hsh]at hc
  have hg:growN F most (q,[])=F.idxOf (q,[])+1:=by unfold growN;rw[if_pos hin]
  have hf:growF F most (q,[])=F:=by unfold growF;rw[if_pos hin]
  rw[hg,hf]at h
  simp only[↓Zd,Zp,simprocAttr,cld2,FOx,underlying265,h5,h6,hq,hc]
  exact h _ O hF0 .refl
 ·have hsh:shIs F (q,[])=none:=shIs_none.2 hin
  rw[hsh]at hc
  simp only[↓Zd,Zp,simprocAttr,cld2,FOx,underlying265,h5,h6,hq,hc,bOneR,co201]
  refine fgrow_spec h5 h10 (fun q a c e=>⟨(h1 _ (h11 q a c e).1).2,(h11 q a c e).2.1⟩) hpn oM (fun s' hm hs'=>?_) (fun s' b' hlt hb1 hb2 hn' hp' hb' hk'=>?_)
  ·have hg:growN F most (q,[])=0:=by unfold growN;rw[if_neg hin,if_neg oM]
   have hf:growF F most (q,[])=F:=by unfold growF;rw[if_neg hin,if_neg oM]
   rw[hg,hf]at h
   simp only[↓Zd,Zp,simprocAttr,FOx]
   exact h _ O (hF0.same hs'.1 fun b hb=>hs'.2 b (h1 b hb).2) (.of_le hs')
  ·have hg:growN F most (q,[])=F.length+1:=by unfold growN;rw[if_neg hin,if_pos hlt]
   have hf:growF F most (q,[])=F ++ [(q,[])]:=by unfold growF;rw[if_neg hin,if_pos hlt]
   rw[hg,hf]at h
   have hpos:(0:Int)<((F.length+1:Nat):Int):=oM
   have hmp:¬ m=p:=h9
   have hm':s'.at' m=some (.map es clock):=by rw[hk' m hmn hmp (fun q a c e=>(h11 q a c e).2.2.1.symm)];exact h6
   simp only[Option.map_none]at hc
   simp only[↓Zd,Zp,simprocAttr,cld2,FOx,hpos,hp',hm',hc]
   have hpm:¬ p=m:=fun e=>h9 e.symm
   have hl:(F ++ [(q,([]:List Nat))]).length=F.length+1:=by simp
   refine h _ (fun b=>O b∨b=b') ⟨?_,.inl h2,h3.app hin List.nodup_nil (by simp) (fun x r e=>by cases e),⟨by rw[List.length_append];simp only[List.length_cons,List.length_nil];omega,h4.2⟩,m,.slice (some ⟨b',0,none⟩) (F.length+1) UNK,es ++ [{ key := .int .i64 (q:Int),val := .int .i64 ((F.length+1:Nat):Int),born:=clock }],clock+1,nx,?_,?_,?_,.inl h8,h9,.inr ⟨b',[],by simp,?_,?_⟩,?_,?_⟩ ⟨?_,?_,?_⟩
   ·rintro b (hb|rfl)
    ·exact⟨(h1 b hb).1,by have:=(h1 b hb).2;simp only[nU];omega⟩
    ·exact⟨oM,by simp only[nU];omega⟩
   ·rw[aP,if_neg hpm];exact hp'
   ·rw[aP,if_pos rfl]
   ·have:=h7.app (x:=q) (j:=F.length+1) (c:=clock) hsh
    have e:(fun x=>shIs (F ++ [(q,[])]) (x,[]))=fun y=>if y=q then some (F.length+1) else shIs F (y,[]):=by
     funext y
     rw[shIs_app hin]
     by_cases e:y=q
     ·subst e;simp
     ·rw[if_neg e,if_neg (by simp[e])]
    rw[e];exact this
   ·rw[aP,if_neg oM,hl,rows_app h3 (h12.last (Nat.le_refl _)),List.append_nil]
    exact hb'
   ·exact rows_len (oneC_len _ _) _
   ·intro a c k e
    cases e
    exact⟨.inr rfl,by show b'≠p;omega,by show b'≠m;omega,fun i hi=>by have:=(h1 _ (h12.2 i _ hi).1).2;simp only at this;omega⟩
   ·refine ((h12.root h3 hin).mono fun b hb=>Or.inl hb).same fun i b hb=>?_
    obtain⟨g1,g2,g3,_⟩:=h12.2 i b hb
    rw[aP,if_neg g3]
    exact hk' b (h1 b g1).2 g2 (fun a c k e=>fun e2=>(h11 a c k e).2.2.2 i (by rw[hb,e2]))
   ·simp only[nU];omega
   ·intro b hb ho
    rw[aP,if_neg (fun e:b=m=>ho (e▸h8))]
    exact hk' b hb (fun e=>ho (e▸h2)) (fun a c k e e2=>ho (e2▸(h11 a c k e).1))
   ·rintro b (hb|rfl)
    ·exact .inl hb
    ·exact .inr hb1
end
end Go.Proofs.Tryz
namespace Go.Proofs.Tryz
open Go.Cs
open Go.RowKit (Below)
set_option maxRecDepth 100000
attribute [local irreducible] QC WLoop WScope CRound
section
variable {M:Type}[Mem M]{w0:World}{s:St M}{R:Value→St M→Prop}
def namesOf(F:List Sh)(i:Int):List Nat:=match shAt F i with
 |some t=>t.2
 |none=>[]
set_option maxHeartbeats 4000000 in
theorem fup_spec{p m most a1 a2 lb:Nat}{sl:Value}{F:List Sh}{i:Int}{nx:Nat→Option Nat}{junk:List Value}{x1 x2:Array Value}(J:List Nat→St M→Prop)(hF:FOk F)(hi : -9223372036854775808≤i∧i≤9223372036854775807)(hlen:F.length≤150)
  (hsl:(F.length=0∧sl = .slice none 0 0)∨∃ b,sl = .slice (some ⟨b,0,none⟩) F.length UNK)
  (hkeep:∀ l s1,J l s1→s1.at' a1=some (.cells [.pointer (some ⟨p,0,none⟩)] 143 true)∧s1.at' a2=some (.cells [.int .i64 i] 3 true)∧s1.at' p=some (.cells [sl,.map (some m),.int .i64 (most:Int)] 237 true)∧(∀ b,sl = .slice (some ⟨b,0,none⟩) F.length UNK→s1.at' b=some (.cells (rows (oneC F nx) F.length++junk) 268 true)))
  (h0:J (namesOf F i) s)(hend:∀ s1,J [] s1→R (.tuple #[]) s1)
  (hround:∀ (j q x:Nat) (r:List Nat) s1,F[j]?=some (q,x::r)→J (x::r) s1→CRound Tryz.prog w0 lb #[.agg #[.int .i64 ((parId F (q,x::r):Nat):Int),.int .i64 (x:Int),.int .i64 ((r.length+1:Nat):Int),.int .i64 (q:Int),.map (nx j)]] s1 (fun v s2=>(v = .bool true∧J r s2)∨(v = .bool false∧R (.tuple #[]) s2))) :
  QC Tryz.prog w0 282 #[.func (.yield lb) x1 x2,.pointer (some ⟨a1,0,none⟩),.pointer (some ⟨a2,0,none⟩)] s R:=by
 refine wfun2 hmix ok282 func282 rfl ntmps282 results282 (by simp) ?_
 obtain⟨k1,k2,k3,k4⟩:=hkeep _ _ h0
 simp only[↓Zd,Zp,simprocAttr,cld2,FOx,k1,k2,co266]
 refine ffind_spec (n:=F.length) k3 hsl hi (fun hno=>?_) (fun b j hij hj hs=>?_)
 ·have e0:namesOf F i=[]:=by unfold namesOf;rw[shAt_out hno]
  rw[e0]at h0
  simp only[↓Zd,Zp,simprocAttr,FOx]
  refine wloop_fix hmix [8,9,10,11,12,13,14,15,16,23,24,25,26,27,28,17,18,19,20,21,22,4] (fun fuel env s1=>env 4 = .pointer none∧s1=s) 0 ⟨rfl,rfl⟩ ?_
  rintro fuel env s1 hFx ⟨e4,rfl⟩
  simp only[↓Zd,Zp,simprocAttr,FOx,e4]
  exact hend _ h0
 ·have hFj:F[j]?=some F[j]:=by simp[hj]
  have e0:namesOf F i=F[j].2:=by unfold namesOf;rw[hij,shAt_in,hFj]
  rw[e0]at h0
  subst hs
  simp only[↓Zd,Zp,simprocAttr,FOx]
  refine wloop_fix hmix [8,9,10,11,12,13,14,15,16,23,24,25,26,27,28,17,18,19,20,21,22,4] (fun fuel env s1=>∃ (j q:Nat) (l:List Nat),fuel=l.length∧F[j]?=some (q,l)∧env 4 = .pointer (some ⟨b,j*5,none⟩)∧J l s1) F[j].2.length ⟨j,F[j].1,F[j].2,rfl,hFj,rfl,h0⟩ ?_
  rintro fuel env s1 hFx ⟨j,q,l,rfl,hFj,e4,hJ⟩
  have hjl:=(List.getElem?_eq_some_iff.1 hFj).1
  obtain⟨g1,g2,g3,g4⟩:=hkeep _ _ hJ
  have g4:=g4 b rfl
  have f2:=rows_get (oneC_len F nx) (n:=F.length) junk hjl (show 2<5 by omega)
  rw[oneC_at hFj]at f2
  have e0:env 0 = .func (.yield lb) x1 x2:=by rw[hFx 0 rfl];rfl
  have e1:env 1 = .pointer (some ⟨a1,0,none⟩):=by rw[hFx 1 rfl];rfl
  cases l with
  |nil =>
   have z0:¬ (0:Int)<((([]:List Nat).length:Nat):Int):=by simp
   simp only[↓Zd,Zp,simprocAttr,cld2,FOx,e4,g4,f2]
   exact hend _ hJ
  |cons x r =>
   have z0:(0:Int)<((r.length+1:Nat):Int):=oM
   obtain⟨jp,hjp,hFp,hpar⟩:=hF.par hFj
   have hjpl:=(List.getElem?_eq_some_iff.1 hFp).1
   obtain⟨hle5,htk5⟩:=rows_cut (oneC_len F nx) (n:=F.length) junk hjl
   rw[oneC_at hFj]at htk5
   simp only[↓Zd,Zp,Zs,simprocAttr,FOx,underlying268,ce268,ag268,e0,e4,g4,f2,z0,hle5,htk5]
   refine CRound.mono (hround j q x r s1 hFj hJ) fun v s2 hv=>?_
   rcases hv with ⟨rfl,hJ2⟩|⟨rfl,hR⟩
   ·obtain⟨u1,u2,u3,u4⟩:=hkeep _ _ hJ2
    have u4:=u4 b rfl
    have f0:=rows_get (oneC_len F nx) (n:=F.length) junk hjl (show 0<5 by omega)
    rw[oneC_at hFj]at f0
    simp only[↓Zd,Zp,simprocAttr,cld2,FOx,ord282,e1,e4,u1,u4,f0,hpar,co266]
    refine ffind_spec (n:=F.length) u3 hsl oM (fun hno=>by omega) (fun b2 j2 hij2 hj2 hs2=>?_)
    cases hs2
    have:j2=jp:=oM
    subst this
    simp only[↓Zd,Zp,simprocAttr,FOx]
    refine⟨by repeat (first|exact hFx|refine Fix.upd (by decide) ?_),r.length,by simp,j2,q,r,rfl,hFp,rfl,hJ2⟩
   ·simp only[↓Zd,Zp,simprocAttr]
    exact hR
end
end Go.Proofs.Tryz
namespace Go.Cs
section
variable {M:Type}[Mem M]{P:Program}{w0:World}{s:St M}{ord:Ord}{n:Nat}
theorem wrange_rule{g:Operand}{ps:Array Tmp}{asg bd:Code}{Q:Exit→Env→St M→Prop}{env:Env}{f:FuncId}{a b args:Array Value}(hg:wev env g = .func (.func f) a b)(hok:qK P f=true)(ha:a ++ #[.func (.yield (s.next+1)) #[] #[]]++b=args)
  (h:∀ e asg' bd',e=env→asg'=asg→bd'=bd→codeOk P ord n (.rangeFunc g ps asg' bd')=true→(∀ t,n≤t→e t=undef)→QC P w0 f args (s.skip.new (.loop .ready none ps (arr n e) asg' bd')) fun _ s3=>cendLoop (s.next+1) (fun jump s4=>wpend Q e s4 jump) s3) :
  WRange P w0 ord n g ps asg bd Q env s:=by
 subst ha
 intro h1 h2
 have h:=h _ _ _ rfl rfl rfl h1 h2
 obtain⟨fn,h3,h4⟩:=callOk_spec hok
 have:ccallee P (wev env) (rangeCall g (s.next+1))=some (f,a ++ #[.func (.yield (s.next+1)) #[] #[]]++b):=by
  unfold ccallee rangeCall
  simp only[hg,h3,h4,if_true]
  simp[wev]
 rw[this]
 exact h
theorem assign_go{l:Nat}{body:Code}{K:Value→St M→Prop}{env:Env}{pd:Option Code}{ps:Array Tmp}{tm:Array Value}{asg bd:Code}(h:s.at' l=some (.loop .ready pd ps tm asg bd)) :
  wassignPost P w0 ord n l body K .normal env s=wvc P w0 ord n body (wroundPost l K) env (s.put l (.loop .busy pd ps tm asg bd)):=by
 simp only[wassignPost,cbeginRound,h]
theorem round_norm{l:Nat}{K:Value→St M→Prop}{env:Env}{st:LoopState}{pd:Option Code}{ps:Array Tmp}{tm:Array Value}{asg bd:Code}(h:s.at' l=some (.loop st pd ps tm asg bd)) :
  wroundPost l K .normal env s=K (.bool true) (s.put l (.loop .ready none ps tm asg bd)):=by
 simp only[wroundPost,cendRound,h,Option.isNone_none,if_true]
theorem round_ret{l:Nat}{K:Value→St M→Prop}{env:Env}{st:LoopState}{pd:Option Code}{ps:Array Tmp}{tm:Array Value}{asg bd:Code}(h:s.at' l=some (.loop st pd ps tm asg bd)) :
  wroundPost l K .ret env s=K (.bool false) (s.put l (.loop .done (some .ret) ps tm asg bd)):=by
 simp only[wroundPost,cendRound,h,Option.isNone_some]
 rfl
theorem end_go{l:Nat}{K:Option Code→St M→Prop}{st:LoopState}{pd:Option Code}{ps:Array Tmp}{tm:Array Value}{asg bd:Code}(h:s.at' l=some (.loop st pd ps tm asg bd))(hs:st ≠ .busy)(hk:K pd (s.put l (.loop .exhausted pd ps tm asg bd))):cendLoop l K s:=by
 unfold cendLoop
 rw[h]
 exact⟨hs,hk⟩
end
end Go.Cs
namespace Go.Proofs.Tryz
open Go.Cs
open Go.RowKit (Below)
set_option maxRecDepth 100000
attribute [local irreducible] QC WLoop WScope CRound WRange
section
variable {M:Type}[Mem M]{w0:World}{s:St M}{R:Value→St M→Prop}
def slotL:List Nat→Nat→Int
 | [],_ => -1
 |y::r,x=>if y=x then (r.length:Int) else slotL r x
theorem fupf_spec{p:Nat}{i:Int}(h:∀ s' a1 a2,s'=(s.new (.cells [.pointer (some ⟨p,0,none⟩)] 143 true)).new (.cells [.int .i64 i] 3 true)→a1=s.next→a2=s.next+1→R (.func (.func 282) #[] #[.pointer (some ⟨a1,0,none⟩),.pointer (some ⟨a2,0,none⟩)]) s') :
  QC Tryz.prog w0 268 #[.pointer (some ⟨p,0,none⟩),.int .i64 i] s R:=by
 refine wfun2 hmix ok268 func268 rfl ntmps268 results268 (by simp) ?_
 simp only[↓Zd,Zp,Zs,simprocAttr,is143,is3]
 exact h _ _ _ rfl rfl rfl
set_option maxHeartbeats 4000000 in
theorem fslot_spec{lo p:Nat}{F:List Sh}{most x:Nat}{O:Nat→Prop}{i:Int}(hF:FAt lo s p F most O)(hi : -9223372036854775808≤i∧i≤9223372036854775807)
  (h:∀ s',s.le s'→R (.int .i64 (slotL (namesOf F i) x)) s') :
  QC Tryz.prog w0 220 #[.pointer (some ⟨p,0,none⟩),.int .i64 i,.int .i64 (x:Int)] s R:=by
 refine wfun2 hmix ok220 func220 rfl ntmps220 results220 (by simp) ?_
 obtain⟨h1,h2,h3,h4,m,sl,es,clock,nx,h5,h6,h7,h8,h9,h10,h11,h12⟩:=hF
 simp only[↓Zd,Zp,Zs,simprocAttr,FOx,is3,co268]
 refine fupf_spec fun s1 a1 a2 hs1 ha1 ha2=>?_
 simp only[nN]at hs1 ha1 ha2
 simp only[↓Zd,Zp,simprocAttr,underlying309]
 refine wrange_rule (f:=282) (a:=#[]) (b:=#[.pointer (some ⟨a1,0,none⟩),.pointer (some ⟨a2,0,none⟩)]) (args:=#[.func (.yield (s1.next+1)) #[] #[],.pointer (some ⟨a1,0,none⟩),.pointer (some ⟨a2,0,none⟩)]) rfl co282 rfl fun env asg bd hE hA hB hcode henv=>?_
 have hn1:s1.next=s.next+4:=by rw[hs1];rfl
 have hold:∀ c,c<s.next→s1.at' c=s.at' c:=fun c hc=>by
  rw[hs1]
  rw[aN,if_neg (by simp only[nN];omega),aN,if_neg (by simp only[nN];omega),aN,if_neg (by simp only[nN];omega),aN,if_neg oM]
 have e5:env 5 = .pointer (some ⟨s.next,0,none⟩):=by rw[hE];rfl
 have e6:env 6 = .pointer (some ⟨s.next+1,0,none⟩):=by rw[hE];rfl
 have hx:s1.at' s.next=some (.cells [.int .i64 (x:Int)] 3 true):=by
  rw[hs1]
  rw[aN,if_neg (by simp only[nN];omega),aN,if_neg (by simp only[nN];omega),aN,if_neg (by simp only[nN];omega),aN,if_pos rfl]
 have hb6:∃ v,s1.at' (s.next+1)=some (.cells [.int .i64 v] 3 true):=by
  refine⟨0,?_⟩
  rw[hs1]
  rw[aN,if_neg (by simp only[nN];omega),aN,if_neg (by simp only[nN];omega),aN,if_pos (by simp only[nN])]
 have hb1:s1.at' a1=some (.cells [.pointer (some ⟨p,0,none⟩)] 143 true):=by
  rw[hs1,ha1]
  rw[aN,if_neg (by simp only[nN];omega),aN,if_pos (by simp only[nN])]
 have hb2:s1.at' a2=some (.cells [.int .i64 i] 3 true):=by
  rw[hs1,ha2]
  rw[aN,if_pos (by simp only[nN])]
 obtain⟨junk,hjunk⟩:∃ junk,∀ b,sl = .slice (some ⟨b,0,none⟩) F.length UNK→s.at' b=some (.cells (rows (oneC F nx) F.length++junk) 268 true):=by
  rcases h10 with ⟨_,_,rfl⟩|⟨b,junk,rfl,hb,_⟩
  ·exact⟨[],fun b e=>by cases e⟩
  ·exact⟨junk,fun b e=>by cases e;exact hb⟩
 have hpn:=(h1 p h2).2
 refine fup_spec (p:=p) (m:=m) (most:=most) (F:=F) (nx:=nx) (junk:=junk) (fun l s2=>s1.next+2≤s2.next∧(∀ c,c<s1.next→c≠s.next+1→s2.at' c=s1.at' c)∧(∃ v,s2.at' (s.next+1)=some (.cells [.int .i64 v] 3 true))∧s2.at' (s1.next+1)=some (.loop .ready none #[11] (arr 19 env) asg bd)∧slotL (namesOf F i) x=slotL l x)
  h3 hi oM h10.form (fun l s2 hJ=>?_) ?_ (fun s2 hJ=>?_) (fun j q y r s2 hFj hJ=>?_)
 ·obtain⟨j1,j2,j3,j4,j5⟩:=hJ
  refine⟨by rw[j2 a1 oM oM];exact hb1,by rw[j2 a2 oM oM];exact hb2,by rw[j2 p oM oM,hold p hpn];exact h5,fun b e=>?_⟩
  have hbn:=(h1 _ (h11 _ _ _ e).1).2
  simp only at hbn
  rw[j2 b oM oM,hold b hbn]
  exact hjunk b e
 ·refine⟨by simp only[nN,St.next_skip];omega,fun c hc _=>?_,?_,?_,rfl⟩
  ·rw[aN,if_neg (by simp only[St.next_skip];omega)];rfl
  ·obtain⟨v,hv⟩:=hb6
   exact⟨v,by rw[aN,if_neg (by simp only[St.next_skip];omega)];exact hv⟩
  ·rw[aN,if_pos (by simp only[St.next_skip])]
 ·obtain⟨j1,j2,⟨v,j3⟩,j4,j5⟩:=hJ
  refine end_go j4 (by simp) ?_
  rw[j5]at h
  subst hA hB
  simp only[wpend]
  have hne:¬ s.next+1=s1.next+1:=oM
  simp only[↓Zd,Zp,Zs,simprocAttr,FOx,e6,j3,hne]
  refine h _ ⟨by simp only[nU];omega,fun c hc=>?_⟩
  rw[aP,if_neg oM,aP,if_neg oM,j2 c oM oM,hold c hc]
 ·obtain⟨j1,j2,⟨v,j3⟩,j4,j5⟩:=hJ
  refine wround hmix hcode j4 henv rfl ?_
  show wvc _ _ _ _ _ _ (upd env 11 _) s2
  subst hA hB
  simp only[↓Zd,Zp,Zr,Zs,simprocAttr,FOx,ze268]
  have hl2:¬ s1.next+1=s2.next:=oM
  rw[assign_go (by rw[aP,if_neg hl2,aN,if_neg hl2];exact j4)]
  have hx2:s2.at' s.next=some (.cells [.int .i64 (x:Int)] 3 true):=by rw[j2 _ oM oM];exact hx
  have n1:¬ s2.next=s1.next+1:=oM
  have n2:¬ s.next=s1.next+1:=oM
  have n3:¬ s.next=s2.next:=oM
  have n4:¬ s1.next+1=s.next+1:=oM
  have n5:¬ s2.next=s.next+1:=oM
  have n6:¬ s.next+1=s1.next+1:=oM
  have n7:¬ s.next+1=s2.next:=oM
  have nl:s1.next<s2.next:=oM
  simp only[↓Zd,Zp,simprocAttr,cld2,FOx,e5,hx2,n1,n2,n3]
  by_cases hy:(y:Int)=(x:Int)
  ·have w1:IntKind.i64.wrap (((r.length+1:Nat):Int) - 1)=((r.length:Nat):Int):=by
    have:=(h3.names _ _ _ hFj).2
    simp only[List.length_cons]at this
    rw[wrap_i64 oM];omega
   have hsl2:slotL (y::r) x=(r.length:Int):=by unfold slotL;rw[if_pos oM]
   rw[j5,hsl2]at h
   simp only[↓Zd,Zp,Zs,simprocAttr,FOx,e6,hy,j3,w1,n1,n6,n7]
   rw[round_ret (st := .busy) (by rw[aP,if_neg n4,aP,if_pos rfl])]
   refine .inr ⟨rfl,end_go (by rw[aP,if_pos rfl]) (by simp) ?_⟩
   simp only[wpend]
   simp only[↓Zd,Zp,simprocAttr,cld2,FOx,e6,n6]
   refine h _ ⟨by simp only[Sn];omega,fun c hc=>?_⟩
   rw[aP,if_neg oM,aP,if_neg oM,aP,if_neg oM,aP,if_neg oM,aP,if_neg oM,aN,if_neg oM,j2 c oM oM,hold c hc]
  ·have hsl2:slotL (y::r) x=slotL r x:=by conv=>lhs;unfold slotL;rw[if_neg oM]
   simp only[↓Zd,Zp,simprocAttr,hy]
   rw[round_norm (st := .busy) (by rw[aP,if_pos rfl])]
   refine .inl ⟨rfl,by simp only[Sn];omega,fun c hc hcn=>?_,⟨v,?_⟩,?_,by rw[j5,hsl2]⟩
   ·rw[aP,if_neg oM,aP,if_neg oM,aP,if_neg oM,aN,if_neg oM,j2 c hc hcn]
   ·rw[aP,if_neg oM,aP,if_neg oM,aP,if_neg oM,aN,if_neg oM,j3]
   ·rw[aP,if_pos rfl]
end
end Go.Proofs.Tryz
namespace Go.Proofs.Tryz
open Go.Cs
open Go.RowKit (Below)
set_option maxRecDepth 100000
attribute [local irreducible] QC WLoop WScope CRound WRange
def ints(l:List Nat):List Value:=l.map fun (x:Nat) => .int .i64 (x:Int)
theorem ints_len(l:List Nat):(ints l).length=l.length:=by simp[ints]
theorem ints_get{l:List Nat}{k:Nat}(junk:List Value)(h:k<l.length):(ints l++junk)[k]?=some (.int .i64 ((l[k]:Nat):Int)):=by
 rw[List.getElem?_append_left (by rw[ints_len];exact h)]
 simp[ints,h]
theorem ints_set{l:List Nat}{k x:Nat}(junk:List Value)(h:k<l.length):(ints l++junk).set k (.int .i64 (x:Int))=ints (l.set k x)++junk:=by
 rw[List.set_append_left _ _ (by rw[ints_len];exact h)]
 simp[ints,List.map_set]
theorem rowInt(x:Nat):crow Tryz.prog 88 1 #[(0,.int .i64 (x:Int))]=some (.cells [.int .i64 (x:Int)] 3 true):=oK
theorem infoInt:∃ ie,Tryz.prog.info? 3=some ie∧ie.size=1∧ie.bytes=8:=by
 obtain⟨ie,h⟩:=Option.isSome_iff_exists.1 is3
 have h1:=ce3
 have h2:Tryz.prog.bytesOf 3=8:=oK
 rw[cellsOf_info h]at h1
 simp only[Program.bytesOf,h]at h2
 exact⟨ie,h,h1,h2⟩
section
variable {M:Type}[Mem M]{w0:World}{s:St M}{R:Value→St M→Prop}
theorem app_int{s:St M}{sl:Value}{l:List Nat}{x:Nat}(hlen:l.length≤1000000)(hsl:SlU 3 1 s sl (ints l) l.length)(hfr:∀ q m c,sl = .slice (some q) m c→q.block<s.next) :
  ∃ s',capp Tryz.prog #[88,88] #[sl,.slice (some ⟨s.next,0,none⟩) 1 1] (s.new (.cells [.int .i64 (x:Int)] 3 true))=some (.slice (some ⟨s.next+1,0,none⟩) (l.length+1) UNK,s')∧s'.next=s.next+2 ∧
   s'.at' (s.next+1)=some (.cells (ints (l ++ [x])) 3 true)∧(∀ b,b<s.next→(∀ q n c,sl = .slice (some q) n c→b≠q.block)→s'.at' b=s.at' b):=by
 obtain⟨ie,hie,h1,h2⟩:=infoInt
 have hcapp:capp Tryz.prog #[88,88] #[sl,.slice (some ⟨s.next,0,none⟩) 1 1] (s.new (.cells [.int .i64 (x:Int)] 3 true))=capp3 Tryz.prog 3 ie sl (s.new (.cells [.int .i64 (x:Int)] 3 true)) (cmore ie.size (.slice (some ⟨s.next,0,none⟩) 1 1) (s.new (.cells [.int .i64 (x:Int)] 3 true))):=
  app_eq underlying88 underlying88 hie
 have hv:cmore ie.size (.slice (some ⟨s.next,0,none⟩) 1 1) (s.new (.cells [.int .i64 (x:Int)] 3 true))=some (1,[.int .i64 (x:Int)]):=by
  simp only[more_at,aN,if_true,more2,h1];rfl
 obtain⟨s',h3,h4,h5,h6⟩:=app_rowU (n:=l.length) (k:=1) hie ze3 (by rw[h1];rfl) oM hcapp oM (by rw[h2];omega) rfl hv (by rw[h1];exact hsl.same fun q m c e=>by rw[aN,if_neg (by have:=hfr q m c e;omega)])
 refine⟨s',by simpa using h3,by simp at h4;omega,by simpa [ints] using h5,fun b hb hq=>?_⟩
 rw[h6 b (by simp;omega) hq,aN,if_neg oM]
structure Half(xs ys:List Nat)(i:Nat):Prop where
 len:ys.length=xs.length
 out:∀ k,k<xs.length→(k<i∨xs.length≤k+i)→ys[k]?=xs[xs.length - 1 - k]?
 mid:∀ k,i≤k→k+i<xs.length→ys[k]?=xs[k]?
theorem Half.start(xs:List Nat):Half xs xs 0:=⟨rfl,fun k h1 h2=>oM,fun k _ _=>rfl⟩
theorem Half.done{xs ys:List Nat}{i:Nat}(h:Half xs ys i)(hi:xs.length≤2*i+1):ys=xs.reverse:=by
 apply List.ext_getElem?
 intro k
 by_cases hk:k<xs.length
 ·rw[List.getElem?_reverse hk]
  by_cases h1:k<i∨xs.length≤k+i
  ·exact h.out k hk h1
  ·have:k=xs.length - 1 - k:=oM
   rw[h.mid k oM oM,← this]
 ·rw[List.getElem?_eq_none (by rw[h.len];omega),List.getElem?_eq_none (by simp;omega)]
theorem Half.step{xs ys:List Nat}{i j:Nat}(h:Half xs ys i)(hij:i+j+1=xs.length)(hlt:i<j)(hi:i<ys.length)(hj:j<ys.length):Half xs ((ys.set i ys[j]).set j ys[i]) (i+1):=by
 have e1:ys[i]?=some ys[i]:=List.getElem?_eq_getElem hi
 have e2:ys[j]?=some ys[j]:=List.getElem?_eq_getElem hj
 have m1:=h.mid i (Nat.le_refl _) oM
 have m2:=h.mid j oM oM
 have hl:=h.len
 refine⟨by simp[h.len],fun k hk hko=>?_,fun k h1 h2=>?_⟩
 ·rw[List.getElem?_set]
  by_cases c1:j=k
  ·subst c1
   simp only[if_true,List.length_set,hj]
   rw[← e1,m1];congr 1;omega
  ·rw[if_neg c1,List.getElem?_set]
   by_cases c2:i=k
   ·subst c2
    simp only[if_true,hi]
    rw[← e2,m2];congr 1;omega
   ·rw[if_neg c2]
    exact h.out k hk oM
 ·rw[List.getElem?_set,if_neg oM,List.getElem?_set,if_neg oM]
  exact h.mid k oM oM
set_option maxHeartbeats 4000000 in
theorem rev_spec{xs:List Nat}{sl:Value}{b:Nat}{junk:List Value}(hN:xs.length≤1000)(hsl:(xs=[]∧sl = .slice none 0 0)∨(sl = .slice (some ⟨b,0,none⟩) xs.length UNK∧s.at' b=some (.cells (ints xs++junk) 3 true)))
  (h:∀ s',s.next=s'.next→(∀ c,c≠b→s'.at' c=s.at' c)→(sl = .slice (some ⟨b,0,none⟩) xs.length UNK→s'.at' b=some (.cells (ints xs.reverse++junk) 3 true))→R (.tuple #[]) s') :
  QC Tryz.prog w0 280 #[sl] s R:=by
 refine wfun2 hmix ok280 func280 rfl ntmps280 results280 (by simp) ?_
 rcases hsl with ⟨rfl,rfl⟩|⟨rfl,hb⟩
 ·simp only[↓Zd,Zp,simprocAttr,underlying88]
  have w1:IntKind.i64.wrap ((0:Int) - 1) = -1:=by rfl
  simp only[Zp,simprocAttr]
  refine wloop_fix hmix [7,8,9,14,15,16,17,18,19,20,21,22,23,24,25,26,27,10,11,12,13,2,3] (fun fuel env s1=>env 2 = .int .i64 0∧env 3 = .int .i64 (-1)∧s1=s) 0 ⟨rfl,rfl,rfl⟩ ?_
  rintro fuel env s1 hFx ⟨e2,e3,rfl⟩
  simp only[↓Zd,Zp,simprocAttr,e2,e3]
  exact h _ rfl (fun _ _=>rfl) (fun e=>by cases e)
 ·have w1:IntKind.i64.wrap ((xs.length:Int) - 1)=(xs.length:Int) - 1:=wrap_i64 oM
  simp only[↓Zd,Zp,simprocAttr,underlying88,w1]
  refine wloop_fix hmix [7,8,9,14,15,16,17,18,19,20,21,22,23,24,25,26,27,10,11,12,13,2,3] (fun fuel env s1=>∃ (i:Nat) (ys:List Nat),fuel=xs.length - i∧i≤xs.length∧env 2 = .int .i64 (i:Int)∧env 3 = .int .i64 ((xs.length:Int) - 1 - (i:Int))∧Half xs ys i∧s1.next=s.next∧(∀ c,c≠b→s1.at' c=s.at' c)∧s1.at' b=some (.cells (ints ys++junk) 3 true)) xs.length
   ⟨0,xs,rfl,oM,rfl,by show Value.int .i64 _=_;congr 1;omega,.start xs,rfl,fun _ _=>rfl,hb⟩ ?_
  rintro fuel env s1 hFx ⟨i,ys,rfl,hi,e2,e3,hH,hn,hk,hbs⟩
  have e0:env 0 = .slice (some ⟨b,0,none⟩) xs.length UNK:=by rw[hFx 0 rfl];rfl
  by_cases hlt:(i:Int)<(xs.length:Int) - 1 - (i:Int)
  ·obtain⟨j,hj⟩:∃ j:Nat,i+j+1=xs.length:=⟨xs.length - 1 - i,oM⟩
   have ej:(xs.length:Int) - 1 - (i:Int)=(j:Int):=oM
   rw[ej]at e3 hlt
   have hl:=hH.len
   have g1:=ints_get (l:=ys) (k:=i) junk oM
   have g2:=ints_get (l:=ys) (k:=j) junk oM
   have hle1:i+1≤(ints ys++junk).length:=by rw[List.length_append,ints_len];omega
   have hle2:j+1≤(ints ys++junk).length:=by rw[List.length_append,ints_len];omega
   have hi1:(0:Int)≤(i:Int)∧(i:Int)<(xs.length:Int):=oM
   have hj1:(0:Int)≤(j:Int)∧(j:Int)<(xs.length:Int):=oM
   have w2:IntKind.i64.wrap ((i:Int)+1)=((i+1:Nat):Int):=by rw[wrap_i64 oM];omega
   have w3:IntKind.i64.wrap ((j:Int) - 1)=(xs.length:Int) - 1 - ((i+1:Nat):Int):=by rw[wrap_i64 oM];omega
   simp only[↓Zd,Zp,Zr,Zs,simprocAttr,CFOM0,underlying88,ord280,e0,e2,e3,hlt,hi1,hj1,hbs,g1,g2,ag3,sz3,w2,w3,hle1,hle2,List.length_set]
   refine⟨by repeat (first|exact hFx|refine Fix.upd (by decide) ?_),xs.length - (i+1),oM,i+1,(ys.set i ys[j]).set j ys[i],rfl,oM,rfl,rfl,hH.step hj oM oM oM,hn,fun c hc=>?_,?_⟩
   ·rw[if_neg hc,if_neg hc,hk c hc]
   ·rw[ints_set junk oM,ints_set junk (by rw[List.length_set];omega)]
  ·simp only[↓Zd,Zp,simprocAttr,e2,e3,hlt]
   have:=hH.done oM
   subst this
   exact h _ hn.symm hk (fun _=>hbs)
end
end Go.Proofs.Tryz
namespace Go.Proofs.Tryz
open Go.Cs
open Go.RowKit (Below)
set_option maxRecDepth 100000
attribute [local irreducible] QC WLoop WScope CRound WRange
section
variable {M:Type}[Mem M]{w0:World}{s:St M}{R:Value→St M→Prop}
theorem wch_app_int{s:St M}{sl:Value}{l:List Nat}{x:Nat}{K:Value→St M→Prop}(hlen:l.length≤1000000)(hsl:SlU 3 1 s sl (ints l) l.length)(hfr:∀ q m c,sl = .slice (some q) m c→q.block<s.next)
  (h:∀ s',s'.next=s.next+2→s'.at' (s.next+1)=some (.cells (ints (l ++ [x])) 3 true)→(∀ b,b<s.next→(∀ q n c,sl = .slice (some q) n c→b≠q.block)→s'.at' b=s.at' b)→K (.slice (some ⟨s.next+1,0,none⟩) (l.length+1) UNK) s') :
  wch (capp Tryz.prog #[88,88] #[sl,.slice (some ⟨s.next,0,none⟩) 1 1] (s.new (.cells [.int .i64 (x:Int)] 3 true))) K:=by
 obtain⟨s',h1,h2,h3,h4⟩:=app_int (x:=x) hlen hsl hfr
 exact⟨_,_,h1,h s' h2 h3 h4⟩
theorem namesOf_len{F:List Sh}(h:FOk F)(i:Int):(namesOf F i).length≤12:=by
 unfold namesOf shAt
 split
 ·rename_i t ht
  split at ht
  ·exact (h.names _ t.1 t.2 ht).2
  ·cases ht
 ·simp
set_option maxHeartbeats 4000000 in
theorem fnames_spec{lo p:Nat}{F:List Sh}{most:Nat}{O:Nat→Prop}{i:Int}(hF:FAt lo s p F most O)(hi : -9223372036854775808≤i∧i≤9223372036854775807)
  (h:∀ s' sl',s.le s'→SlU 3 1 s' sl' (ints (namesOf F i).reverse) (namesOf F i).length→(∀ q n c,sl' = .slice (some q) n c→s.next≤q.block∧q.block<s'.next)→R sl' s') :
  QC Tryz.prog w0 259 #[.pointer (some ⟨p,0,none⟩),.int .i64 i] s R:=by
 refine wfun2 hmix ok259 func259 rfl ntmps259 results259 (by simp) ?_
 obtain⟨h1,h2,h3,h4,m,sl,es,clock,nx,h5,h6,h7,h8,h9,h10,h11,h12⟩:=hF
 have hlen12:=namesOf_len h3 i
 simp only[↓Zd,Zp,Zs,simprocAttr,ze88,co268]
 refine fupf_spec fun s1 a1 a2 hs1 ha1 ha2=>?_
 simp only[nN]at hs1 ha1 ha2
 simp only[↓Zd,Zp,simprocAttr,underlying309]
 refine wrange_rule (f:=282) (a:=#[]) (b:=#[.pointer (some ⟨a1,0,none⟩),.pointer (some ⟨a2,0,none⟩)]) (args:=#[.func (.yield (s1.next+1)) #[] #[],.pointer (some ⟨a1,0,none⟩),.pointer (some ⟨a2,0,none⟩)]) rfl co282 rfl fun env asg bd hE hA hB hcode henv=>?_
 have hn1:s1.next=s.next+3:=by rw[hs1];rfl
 have hold:∀ c,c<s.next→s1.at' c=s.at' c:=fun c hc=>by
  rw[hs1]
  rw[aN,if_neg (by simp only[nN];omega),aN,if_neg (by simp only[nN];omega),aN,if_neg oM]
 have e5:env 5 = .pointer (some ⟨s.next,0,none⟩):=by rw[hE];rfl
 have hb5:s1.at' s.next=some (.cells [.slice none 0 0] 88 true):=by
  rw[hs1]
  rw[aN,if_neg (by simp only[nN];omega),aN,if_neg (by simp only[nN];omega),aN,if_pos rfl]
 have hb1:s1.at' a1=some (.cells [.pointer (some ⟨p,0,none⟩)] 143 true):=by
  rw[hs1,ha1]
  rw[aN,if_neg (by simp only[nN];omega),aN,if_pos (by simp only[nN])]
 have hb2:s1.at' a2=some (.cells [.int .i64 i] 3 true):=by
  rw[hs1,ha2]
  rw[aN,if_pos (by simp only[nN])]
 obtain⟨junk,hjunk⟩:∃ junk,∀ b,sl = .slice (some ⟨b,0,none⟩) F.length UNK→s.at' b=some (.cells (rows (oneC F nx) F.length++junk) 268 true):=by
  rcases h10 with ⟨_,_,rfl⟩|⟨b,junk,rfl,hb,_⟩
  ·exact⟨[],fun b e=>by cases e⟩
  ·exact⟨junk,fun b e=>by cases e;exact hb⟩
 have hpn:=(h1 p h2).2
 refine fup_spec (p:=p) (m:=m) (most:=most) (F:=F) (nx:=nx) (junk:=junk) (fun l s2=>∃ seen sl',namesOf F i=seen++l∧s1.next+2≤s2.next∧(∀ c,c<s1.next→c≠s.next→s2.at' c=s1.at' c)∧s2.at' s.next=some (.cells [sl'] 88 true)∧SlU 3 1 s2 sl' (ints seen) seen.length ∧
   (∀ q n c,sl' = .slice (some q) n c→s1.next+2≤q.block∧q.block<s2.next)∧s2.at' (s1.next+1)=some (.loop .ready none #[10] (arr 19 env) asg bd))
  h3 hi oM h10.form (fun l s2 hJ=>?_) ?_ (fun s2 hJ=>?_) (fun j q y r s2 hFj hJ=>?_)
 ·obtain⟨seen,sl',j1,jn,j2,j3,j4,j5,j6⟩:=hJ
  refine⟨by rw[j2 a1 oM oM];exact hb1,by rw[j2 a2 oM oM];exact hb2,by rw[j2 p oM oM,hold p hpn];exact h5,fun b e=>?_⟩
  have hbn:=(h1 _ (h11 _ _ _ e).1).2
  simp only at hbn
  rw[j2 b oM oM,hold b hbn]
  exact hjunk b e
 ·refine⟨[],.slice none 0 0,rfl,by simp only[nN,St.next_skip];omega,fun c hc _=>?_,?_,.inl ⟨rfl,rfl,rfl⟩,(fun q n c e=>by cases e),?_⟩
  ·rw[aN,if_neg (by simp only[St.next_skip];omega)];rfl
  ·rw[aN,if_neg (by simp only[St.next_skip];omega)];exact hb5
  ·rw[aN,if_pos (by simp only[St.next_skip])]
 ·obtain⟨seen,sl',j1,jn,j2,j3,j4,j5,j6⟩:=hJ
  refine end_go j6 (by simp) ?_
  rw[List.append_nil]at j1
  rw[j1]at h hlen12
  subst hA hB
  simp only[wpend]
  have hne:¬ s.next=s1.next+1:=oM
  simp only[↓Zd,Zp,simprocAttr,cld2,underlying88,ag88,e5,j3,hne,co280]
  have hsl2:(seen=[]∧sl' = .slice none 0 0)∨∃ b junk2,sl' = .slice (some ⟨b,0,none⟩) seen.length UNK∧s2.at' b=some (.cells (ints seen++junk2) 3 true):=by
   rcases j4 with ⟨e1,_,e3⟩|⟨b,junk2,e1,e2,_⟩
   ·exact .inl ⟨List.eq_nil_of_length_eq_zero e1,e3⟩
   ·exact .inr ⟨b,junk2,e1,e2⟩
  rcases hsl2 with ⟨rfl,rfl⟩|⟨b,junk2,rfl,hb⟩
  ·refine rev_spec (xs:=[]) (b:=s2.next) (junk:=[]) (by simp) (.inl ⟨rfl,rfl⟩) fun s3 hn3 hk3 _=>?_
   have hn3':=hn3
   simp only[nU]at hn3'
   have hr:s3.at' s.next=some (.cells [.slice none 0 0] 88 true):=by rw[hk3 _ oM,aP,if_neg hne];exact j3
   simp only[↓Zd,Zp,simprocAttr,cld2,FOx,underlying88,ag88,e5,hr]
   refine h _ _ ⟨oM,fun c hc=>?_⟩ (.inl ⟨rfl,rfl,rfl⟩) (fun q n c e=>by cases e)
   rw[hk3 c oM,aP,if_neg oM,j2 c oM oM,hold c hc]
  ·have hbn:=j5 _ _ _ rfl
   simp only at hbn
   refine rev_spec (xs:=seen) (b:=b) (junk:=junk2) oM (.inr ⟨rfl,?_⟩) fun s3 hn3 hk3 hb3=>?_
   ·rw[aP,if_neg oM];exact hb
   have hn3':=hn3
   simp only[nU]at hn3'
   have hr:s3.at' s.next=some (.cells [.slice (some ⟨b,0,none⟩) seen.length UNK] 88 true):=by rw[hk3 _ oM,aP,if_neg hne];exact j3
   simp only[↓Zd,Zp,simprocAttr,cld2,FOx,underlying88,ag88,e5,hr]
   refine h _ _ ⟨oM,fun c hc=>?_⟩ (.inr ⟨b,junk2,rfl,hb3 rfl,by rw[ints_len,List.length_reverse];omega⟩) (fun q n c e=>by cases e;simp only;omega)
   rw[hk3 c oM,aP,if_neg oM,j2 c oM oM,hold c hc]
 ·obtain⟨seen,sl',j1,jn,j2,j3,j4,j5,j6⟩:=hJ
  refine wround hmix hcode j6 henv rfl ?_
  show wvc _ _ _ _ _ _ (upd env 10 _) s2
  subst hA hB
  simp only[↓Zd,Zp,Zr,Zs,simprocAttr,FOx,ze268]
  have hl2:¬ s1.next+1=s2.next:=oM
  rw[assign_go (by rw[aP,if_neg hl2,aN,if_neg hl2];exact j6)]
  have n1:¬ s2.next=s1.next+1:=oM
  have n2:¬ s.next=s1.next+1:=oM
  have n3:¬ s.next=s2.next:=oM
  simp only[↓Zd,Zp,simprocAttr,cld2,FOx,underlying88,ag88,e5,j3,n1,n2,n3,rowInt]
  have hseen:seen.length≤12:=by rw[j1,List.length_append]at hlen12;omega
  have hj5:∀ q n c,sl' = .slice (some q) n c→q.block≠s1.next+1∧q.block≠s2.next:=fun q n c e=>by have:=j5 q n c e;omega
  refine wch_app_int (l:=seen) (x:=y) oM (j4.same fun q n c e=>by rw[aP,if_neg (hj5 q n c e).1,aP,if_neg (hj5 q n c e).2,aN,if_neg (hj5 q n c e).2]) (fun q n c e=>by have:=j5 q n c e;simp only[Sn];omega) fun s5 hn5 hb5' hk5=>?_
  simp only[Sn]at hn5 hb5' hk5
  have hr5:s5.at' s.next=some (.cells [sl'] 88 true):=by
   rw[hk5 _ oM (fun q n c e e2=>by have:=j5 q n c e;omega),aP,if_neg n2,aP,if_neg n3,aN,if_neg n3];exact j3
  simp only[↓Zd,Zp,Zs,simprocAttr,sz88,e5,hr5]
  rw[round_norm (st := .busy) (by rw[aP,if_neg oM,hk5 _ oM (fun q n c e e2=>by have:=j5 q n c e;omega),aP,if_pos rfl])]
  refine .inl ⟨rfl,seen ++ [y],.slice (some ⟨s2.next+1+1,0,none⟩) (seen.length+1) UNK,by rw[j1];simp,by simp only[nU];omega,fun c hc hcn=>?_,?_,.inr ⟨s2.next+1+1,[],by simp,?_,by rw[ints_len,Nat.mul_one]⟩,(fun q n c e=>by cases e;simp only[nU];omega),?_⟩
  ·rw[aP,if_neg oM,aP,if_neg oM,hk5 c oM (fun q n k e e2=>by have:=j5 q n k e;omega),aP,if_neg oM,aP,if_neg oM,aN,if_neg oM,j2 c hc hcn]
  ·rw[aP,if_neg n2,aP,if_pos rfl]
  ·rw[aP,if_neg oM,aP,if_neg oM,List.append_nil];exact hb5'
  ·rw[aP,if_pos rfl]
end
end Go.Proofs.Tryz
namespace Go.Proofs.Tryz
open Go.Cs
open Go.RowKit (Below)
set_option maxRecDepth 100000
attribute [local irreducible] QC WLoop WScope CRound WRange
theorem slotL_neg:∀ (l:List Nat) (x:Nat),slotL l x<0↔x ∉ l:=by
 intro l x
 induction l with
 |nil=>simp[slotL]
 |cons y r ih =>
  unfold slotL
  by_cases e:y=x
  ·subst e;rw[if_pos rfl];simp
  ·rw[if_neg e,ih]
   constructor
   ·intro h h2
    rcases List.mem_cons.1 h2 with h3|h3
    ·exact e h3.symm
    ·exact h h3
   ·intro h h2;exact h (List.mem_cons_of_mem _ h2)
def addF(F:List Sh)(most:Nat)(i:Int)(x:Nat):List Sh:=match shAt F i with
 |none=>F
 |some t=>if 12≤t.2.length∨x∈t.2 then F else growF F most (t.1,x::t.2)
def addN(F:List Sh)(most:Nat)(i:Int)(x:Nat):Nat:=match shAt F i with
 |none=>0
 |some t=>if 12≤t.2.length∨x∈t.2 then 0 else growN F most (t.1,x::t.2)
section
variable {M:Type}[Mem M]{w0:World}{s:St M}{R:Value→St M→Prop}
theorem Kids.add{s s':St M}{F:List Sh}{O O':Nat→Prop}{p m q x j bm:Nat}{l:List Nat}{nx:Nat→Option Nat}(h:Kids s F O p m nx)(hF:FOk F)(hj:F[j]?=some (q,l))(ht:(q,x::l) ∉ F)
  (hk:∀ i b,nx i=some b→b≠bm→s'.at' b=s.at' b)(hbm:∃ es c,s'.at' bm=some (.map es c)∧MI es (fun y=>shIs (F ++ [(q,x::l)]) (q,y::l)))(hO:∀ b,O b→O' b)(hb1:O' bm)(hb2:bm≠p)(hb3:bm≠m)(hb4:∀ i,nx i=some bm→i=j) :
  Kids s' (F ++ [(q,x::l)]) O' p m (fun i=>if i=j then some bm else nx i):=by
 have hjl:=(List.getElem?_eq_some_iff.1 hj).1
 have hs:∀ (i:Nat) (t:Sh) (y:Nat),i≠j→F[i]?=some t→shIs (F ++ [(q,x::l)]) (t.1,y::t.2)=shIs F (t.1,y::t.2):=fun i t y hij hi=>by
  rw[shIs_app ht,if_neg]
  intro e
  simp only[Prod.mk.injEq,List.cons.injEq]at e
  have:t=(q,l):=by obtain⟨a,b⟩:=t;simp only at e;rw[e.1,e.2.2]
  subst this
  exact hij (hF.one hi hj)
 refine⟨fun i hi t hti y=>?_,fun i b hb=>?_⟩
 ·have hij:i≠j:=by intro e;simp only[if_pos e]at hi;cases hi
  simp only[if_neg hij]at hi
  by_cases h1:i<F.length
  ·rw[List.getElem?_append_left h1]at hti
   rw[hs i t y hij hti]
   exact h.1 i hi t hti y
  ·rw[List.getElem?_append_right oM]at hti
   have h0:i - F.length=0:=by
    have:=(List.getElem?_eq_some_iff.1 hti).1
    simp at this;omega
   rw[h0]at hti
   simp at hti
   subst hti
   rw[shIs_app ht,if_neg (by simp),shIs_none]
   intro hm
   obtain⟨k,hk,e⟩:=List.getElem_of_mem hm
   obtain⟨k2,_,hk2⟩:=hF.up k q y (x::l) (by rw[List.getElem?_eq_getElem hk,e])
   exact ht (List.mem_of_getElem? hk2)
 ·by_cases hij:i=j
  ·subst hij
   simp only[if_true,Option.some.injEq]at hb
   subst hb
   obtain⟨es,c,g1,g2⟩:=hbm
   refine⟨hb1,hb2,hb3,fun k hk2=>?_,(q,l),by rw[List.getElem?_append_left hjl];exact hj,es,c,g1,g2⟩
   by_cases e:k=i
   ·exact e
   ·simp only[if_neg e]at hk2;exact hb4 k hk2
  ·simp only[if_neg hij]at hb
   have hne:b≠bm:=fun e=>hij (hb4 i (e▸hb))
   obtain⟨g1,g2,g3,g4,t,g5,es,c,g6,g7⟩:=h.2 i b hb
   refine⟨hO b g1,g2,g3,fun k hk2=>?_,t,by rw[List.getElem?_append_left (List.getElem?_eq_some_iff.1 g5).1];exact g5,es,c,by rw[hk i b hb hne];exact g6,?_⟩
   ·by_cases e:k=j
    ·simp only[if_pos e,Option.some.injEq]at hk2;exact absurd hk2.symm hne
    ·simp only[if_neg e]at hk2;exact g4 k hk2
   ·have:(fun y=>shIs (F ++ [(q,x::l)]) (t.1,y::t.2))=fun y=>shIs F (t.1,y::t.2):=by funext y;exact hs i t y hij g5
    rw[this];exact g7
theorem bOneA(a b c d:Nat):cbuild Tryz.prog 268 #[(0,.int .i64 (a:Int)),(1,.int .i64 (b:Int)),(2,.int .i64 (c:Int)),(3,.int .i64 (d:Int))]=some (.agg #[.int .i64 (a:Int),.int .i64 (b:Int),.int .i64 (c:Int),.int .i64 (d:Int),.map none]):=oK
theorem cfindI_nil(x:Nat):cfind Tryz.prog 3 (.int .i64 (x:Int)) []=some none:=by
 unfold cfind;rw[if_pos (show plain 6 (Value.int .i64 (x:Int))=true from rfl),underlying3];rfl
theorem parId_app{F:List Sh}(h:FOk F){j q x:Nat}{l:List Nat}(hj:F[j]?=some (q,l)):parId (F ++ [(q,x::l)]) (q,x::l)=j+1:=by
 have:=h.is hj
 unfold shIs at this
 rw[if_pos (List.mem_of_getElem? hj)]at this
 unfold parId
 simp only
 rw[List.idxOf_append,if_pos (List.mem_of_getElem? hj)]
 exact Option.some.inj this
set_option maxHeartbeats 4000000 in
theorem fadd_spec{lo p:Nat}{F:List Sh}{most x:Nat}{O:Nat→Prop}{i:Int}(hF:FAt lo s p F most O)(hlo:lo≤s.next)(hi : -9223372036854775808≤i∧i≤9223372036854775807)
  (h:∀ s' O',FAt lo s' p (addF F most i x) most O'→Upd s s' O O'→R (.int .i64 (addN F most i x:Int)) s') :
  QC Tryz.prog w0 226 #[.pointer (some ⟨p,0,none⟩),.int .i64 i,.int .i64 (x:Int)] s R:=by
 refine wfun2 hmix ok226 func226 rfl ntmps226 results226 (by simp) ?_
 have hF0:=hF
 obtain⟨h1,h2,h3,h4,m,sl,es,clock,nx,h5,h6,h7,h8,h9,h10,h11,h12⟩:=hF
 have hpn:=(h1 p h2).2
 simp only[↓Zd,Zp,simprocAttr,co266]
 refine ffind_spec h5 h10.form hi (fun hno=>?_) (fun b j hij hj hsl=>?_)
 ·have hf:addF F most i x=F:=by unfold addF;rw[shAt_out hno]
  have hg:addN F most i x=0:=by unfold addN;rw[shAt_out hno]
  rw[hf,hg]at h
  simp only[↓Zd,Zp,simprocAttr,FOx]
  exact h _ O hF0 .refl
 ·rcases h10 with ⟨e0,_⟩|⟨b',junk,hs',hb,hl⟩
  ·omega
  cases hsl.symm.trans hs'
  subst hsl
  subst hij
  obtain⟨q,l,hFj⟩:∃ q l,F[j]?=some (q,l):=⟨F[j].1,F[j].2,by simp[hj]⟩
  have hsh:shAt F ((j+1:Nat):Int)=some (q,l):=by rw[shAt_in,hFj]
  have hno:namesOf F ((j+1:Nat):Int)=l:=by unfold namesOf;rw[hsh]
  have hf:addF F most ((j+1:Nat):Int) x=if 12≤l.length∨x∈l then F else growF F most (q,x::l):=by unfold addF;rw[hsh]
  have hg:addN F most ((j+1:Nat):Int) x=if 12≤l.length∨x∈l then 0 else growN F most (q,x::l):=by unfold addN;rw[hsh]
  rw[hf,hg]at h
  have f2:=rows_get (oneC_len F nx) (n:=F.length) junk hj (show 2<5 by omega)
  have f3:=rows_get (oneC_len F nx) (n:=F.length) junk hj (show 3<5 by omega)
  have f4:=rows_get (oneC_len F nx) (n:=F.length) junk hj (show 4<5 by omega)
  rw[oneC_at hFj]at f2 f3 f4
  by_cases h12':(12:Int)≤(l.length:Int)
  ·rw[if_pos (.inl oM),if_pos (.inl oM)]at h
   simp only[↓Zd,Zp,simprocAttr,cld2,FOx,hb,f2,h12']
   exact h _ O hF0 .refl
  ·simp only[↓Zd,Zp,simprocAttr,cld2,FOx,hb,f2,h12',co220]
   refine fslot_spec hF0 hi fun s1 hs1=>?_
   rw[hno]
   have hF1:=hF0.same hs1.1 fun b hb=>hs1.2 b (h1 b hb).2
   by_cases hx:(0:Int)≤slotL l x
   ·have hm:x∈l:=by
     by_cases hm:x∈l
     ·exact hm
     ·have:=(slotL_neg l x).2 hm;omega
    rw[if_pos (.inr hm),if_pos (.inr hm)]at h
    simp only[↓Zd,Zp,simprocAttr,FOx,hx]
    exact h _ O hF1 (.of_le hs1)
   ·have hm:x ∉ l:=(slotL_neg l x).1 oM
    have hor:¬ (12≤l.length∨x∈l):=by rintro (g|g);omega;exact hm g
    rw[if_neg hor,if_neg hor]at h
    have hb1:s1.at' b=some (.cells (rows (oneC F nx) F.length++junk) 268 true):=by rw[hs1.2 b (h1 b (h11 _ _ _ rfl).1).2];exact hb
    have hsl1:SlU 268 5 s1 (.slice (some ⟨b,0,none⟩) F.length UNK) (rows (oneC F nx) F.length) F.length := .inr ⟨b,junk,rfl,hb1,hl⟩
    have hp1:s1.at' p=some (.cells [.slice (some ⟨b,0,none⟩) F.length UNK,.map (some m),.int .i64 (most:Int)] 237 true):=by rw[hs1.2 p hpn];exact h5
    have w1:IntKind.i64.wrap (((l.length:Nat):Int)+1)=((l.length+1:Nat):Int):=by rw[wrap_i64 oM];omega
    cases hnx:nx j with
    |some bm =>
     rw[hnx]at f4
     obtain⟨g1,g2,g3,g4,t,g5,es2,c2,g6,g7⟩:=h12.2 j bm hnx
     cases hFj.symm.trans g5
     have hbm1:s1.at' bm=some (.map es2 c2):=by rw[hs1.2 bm (h1 bm g1).2];exact g6
     obtain⟨i0,hc⟩:=g7 x
     simp only at hc
     cases hsk:shIs F (q,x::l) with
     |some k =>
      have hin:(q,x::l)∈F:=by
       by_cases hin:(q,x::l)∈F
       ·exact hin
       ·rw[shIs_none.2 hin]at hsk;cases hsk
      have hkk:F.idxOf (q,x::l)+1=k:=by
       have:=hsk
       unfold shIs at this
       rw[if_pos hin]at this
       exact Option.some.inj this
      have hf2:growF F most (q,x::l)=F:=by unfold growF;rw[if_pos hin]
      have hg2:growN F most (q,x::l)=k:=by unfold growN;rw[if_pos hin,hkk]
      rw[hf2,hg2]at h
      rw[hsk]at hc
      simp only[↓Zd,Zp,simprocAttr,cld2,FOx,underlying265,hx,hb1,f4,hbm1,hc]
      exact h _ O hF1 (.of_le hs1)
     |none =>
      have hin:(q,x::l) ∉ F:=shIs_none.1 hsk
      rw[hsk]at hc
      simp only[Option.map_none]at hc
      simp only[↓Zd,Zp,simprocAttr,cld2,FOx,underlying265,ord226,hx,hb1,f2,f3,f4,hbm1,hc,w1,bOneA,co201]
      refine fgrow_spec (a:=j+1) (b:=x) (c:=l.length+1) (d:=q) hp1 hsl1 (fun q a c e=>by have:=h11 q a c e;have:=h1 _ this.1;have:=hs1.1;exact⟨oM,oM⟩) (by have:=hs1.1;omega) oM (fun s' hmo hs'=>?_) (fun s' b2 hlt hb21 hb22 hn' hp' hb' hk'=>?_)
      ·have hg2:growN F most (q,x::l)=0:=by unfold growN;rw[if_neg hin,if_neg oM]
       have hf2:growF F most (q,x::l)=F:=by unfold growF;rw[if_neg hin,if_neg oM]
       rw[hf2,hg2]at h
       simp only[↓Zd,Zp,simprocAttr,FOx]
       exact h _ O (hF1.same hs'.1 fun b hb=>hs'.2 b (by have:=(h1 b hb).2;have:=hs1.1;omega)) (.of_le (lT hs1 hs'))
      ·have hg2:growN F most (q,x::l)=F.length+1:=by unfold growN;rw[if_neg hin,if_pos hlt]
       have hf2:growF F most (q,x::l)=F ++ [(q,x::l)]:=by unfold growF;rw[if_neg hin,if_pos hlt]
       rw[hf2,hg2]at h
       have hz:¬ ((F.length+1:Nat):Int)=0:=oM
       have hb2':s'.at' b2=some (.cells (rows (oneC (F ++ [(q,x::l)]) nx) (F.length+1)) 268 true):=by
        rw[rows_app h3 (h12.last (Nat.le_refl _)),parId_app h3 hFj];exact hb'
       have hFj':(F ++ [(q,x::l)])[j]?=some (q,l):=by rw[List.getElem?_append_left hj];exact hFj
       have f4':=rows_get (oneC_len (F ++ [(q,x::l)]) nx) (n:=F.length+1) [] (show j<F.length+1 by omega) (show 4<5 by omega)
       rw[List.append_nil,oneC_at hFj',hnx]at f4'
       have hs1n:=hs1.1
       have hbO:=(h11 _ _ _ rfl).1
       have hbb:=h1 _ hbO
       simp only at hbb
       have hbmb:bm≠b:=fun e=>(h11 _ _ _ rfl).2.2.2 j (by rw[hnx,e])
       have hbm':s'.at' bm=some (.map es2 c2):=by
        rw[hk' bm (by have:=(h1 bm g1).2;omega) g2 (fun a n k e=>by cases e;exact hbmb)];exact hbm1
       simp only[↓Zd,Zp,simprocAttr,FOx,hz,co266]
       refine ffind_spec (n:=F.length+1) hp' (.inr ⟨b2,rfl⟩) hi (fun hno=>by omega) (fun b3 j3 hij3 hj3 hs3=>?_)
       cases hs3
       have:j3=j:=oM
       subst this
       simp only[↓Zd,Zp,simprocAttr,cld2,FOx,hb2',f4',hbm',hc]
       have hl2:(F ++ [(q,x::l)]).length=F.length+1:=by simp
       have hnxe:(fun i=>if i=j3 then some bm else nx i)=nx:=by
        funext k
        by_cases e:k=j3
        ·rw[if_pos e,e,hnx]
        ·rw[if_neg e]
       have hMI:MI (es2 ++ [{ key := .int .i64 (x:Int),val := .int .i64 ((F.length+1:Nat):Int),born:=c2 }]) (fun y=>shIs (F ++ [(q,x::l)]) (q,y::l)):=by
        have:=g7.app (x:=x) (j:=F.length+1) (c:=c2) hsk
        have e:(fun y=>shIs (F ++ [(q,x::l)]) (q,y::l))=fun y=>if y=x then some (F.length+1) else shIs F (q,y::l):=by
         funext y
         rw[shIs_app hin]
         by_cases e:y=x
         ·subst e;simp
         ·rw[if_neg e,if_neg (by simp[e])]
        rw[e];exact this
       have hKids:=Kids.add (s':=s'.put bm (.map (es2 ++ [{ key := .int .i64 (x:Int),val := .int .i64 ((F.length+1:Nat):Int),born:=c2 }]) (c2+1))) (O':=fun c=>O c∨c=b2) h12 h3 hFj hin
        (fun i c hc hne=>by
         obtain⟨k1,k2,k3,_⟩:=h12.2 i c hc
         rw[aP,if_neg hne,hk' c (by have:=(h1 c k1).2;omega) k2 (fun a n k e=>by cases e;exact fun e2=>(h11 _ _ _ rfl).2.2.2 i (by rw[hc,e2])),hs1.2 c (h1 c k1).2])
        ⟨_,_,by rw[aP,if_pos rfl],hMI⟩ (fun c hc => .inl hc) (.inl g1) g2 g3 g4
       rw[hnxe]at hKids
       refine h _ (fun c=>O c∨c=b2) ⟨?_,.inl h2,h3.app hin (List.nodup_cons.2 ⟨hm,(h3.names _ _ _ hFj).1⟩) (by simp only[List.length_cons];omega) (fun y r e=>by cases e;exact List.mem_of_getElem? hFj),⟨by rw[hl2];omega,h4.2⟩,m,.slice (some ⟨b2,0,none⟩) (F.length+1) UNK,es,clock,nx,?_,?_,?_,.inl h8,h9,.inr ⟨b2,[],by simp,?_,rows_len (oneC_len _ _) _⟩,?_,hKids⟩ ⟨?_,?_,?_⟩
       ·rintro c (hc|rfl)
        ·exact⟨(h1 c hc).1,by have:=(h1 c hc).2;simp only[nU];omega⟩
        ·exact⟨oM,by simp only[nU];omega⟩
       ·rw[aP,if_neg (fun e=>g2 e.symm)];exact hp'
       ·rw[aP,if_neg (fun e=>g3 e.symm),hk' m (by have:=(h1 m h8).2;omega) h9 (fun a n k e=>by cases e;exact fun e2=>(h11 _ _ _ rfl).2.2.1 e2.symm),hs1.2 m (h1 m h8).2];exact h6
       ·have e:(fun y=>shIs (F ++ [(q,x::l)]) (y,[]))=fun y=>shIs F (y,[]):=by
         funext y;rw[shIs_app hin,if_neg (by simp)]
        rw[e];exact h7
       ·rw[aP,if_neg (by have:=(h1 bm g1).2;omega),hl2,List.append_nil];exact hb2'
       ·intro a n k e
        cases e
        refine⟨.inr rfl,by show b2≠p;omega,by have:=(h1 m h8).2;show b2≠m;omega,fun i hi=>by have:=(h1 _ (h12.2 i _ hi).1).2;simp only at this;omega⟩
       ·simp only[nU];omega
       ·intro c hc ho
        rw[aP,if_neg (fun e:c=bm=>ho (e▸g1)),hk' c oM (fun e=>ho (e▸h2)) (fun a n k e=>by cases e;exact fun e2=>ho (e2▸hbO)),hs1.2 c hc]
       ·rintro c (hc|rfl)
        ·exact .inl hc
        ·exact .inr oM
    |none =>
     rw[hnx]at f4
     have hsk:=h12.1 j hnx (q,l) hFj x
     simp only at hsk
     have hin:(q,x::l) ∉ F:=shIs_none.1 hsk
     simp only[↓Zd,Zp,simprocAttr,cld2,FOx,underlying265,ord226,hx,hb1,f2,f3,f4,cfindI_nil,w1,bOneA,co201]
     refine fgrow_spec (a:=j+1) (b:=x) (c:=l.length+1) (d:=q) hp1 hsl1 (fun q a c e=>by have:=h11 q a c e;have:=h1 _ this.1;have:=hs1.1;exact⟨oM,oM⟩) (by have:=hs1.1;omega) oM (fun s' hmo hs'=>?_) (fun s' b2 hlt hb21 hb22 hn' hp' hb' hk'=>?_)
     ·have hg2:growN F most (q,x::l)=0:=by unfold growN;rw[if_neg hin,if_neg oM]
      have hf2:growF F most (q,x::l)=F:=by unfold growF;rw[if_neg hin,if_neg oM]
      rw[hf2,hg2]at h
      simp only[↓Zd,Zp,simprocAttr,FOx]
      exact h _ O (hF1.same hs'.1 fun b hb=>hs'.2 b (by have:=(h1 b hb).2;have:=hs1.1;omega)) (.of_le (lT hs1 hs'))
     ·have hg2:growN F most (q,x::l)=F.length+1:=by unfold growN;rw[if_neg hin,if_pos hlt]
      have hf2:growF F most (q,x::l)=F ++ [(q,x::l)]:=by unfold growF;rw[if_neg hin,if_pos hlt]
      rw[hf2,hg2]at h
      have hz:¬ ((F.length+1:Nat):Int)=0:=oM
      have hb2':s'.at' b2=some (.cells (rows (oneC (F ++ [(q,x::l)]) nx) (F.length+1)) 268 true):=by
       rw[rows_app h3 (h12.last (Nat.le_refl _)),parId_app h3 hFj];exact hb'
      have hFj':(F ++ [(q,x::l)])[j]?=some (q,l):=by rw[List.getElem?_append_left hj];exact hFj
      have f4':=rows_get (oneC_len (F ++ [(q,x::l)]) nx) (n:=F.length+1) [] (show j<F.length+1 by omega) (show 4<5 by omega)
      rw[List.append_nil,oneC_at hFj',hnx]at f4'
      have hs1n:=hs1.1
      have hbO:=(h11 _ _ _ rfl).1
      have hbb:=h1 _ hbO
      simp only at hbb
      simp only[↓Zd,Zp,simprocAttr,FOx,hz,co266]
      refine ffind_spec (n:=F.length+1) hp' (.inr ⟨b2,rfl⟩) hi (fun hno=>by omega) (fun b3 j3 hij3 hj3 hs3=>?_)
      cases hs3
      have:j3=j:=oM
      subst this
      have hset:=rows_set (oneC_len (F ++ [(q,x::l)]) nx) (oneC_len (F ++ [(q,x::l)]) (fun i=>if i=j3 then some s'.next else nx i)) (n:=F.length+1) (i:=j3) (j:=4) (v := .map (some s'.next)) [] oM oM (fun k hk=>by unfold oneC;simp only[if_neg hk]) (by rw[oneC_at hFj',oneC_at hFj'];simp)
      rw[List.append_nil,List.append_nil]at hset
      have f5:=rows_get (oneC_len (F ++ [(q,x::l)]) (fun i=>if i=j3 then some s'.next else nx i)) (n:=F.length+1) [] (show j3<F.length+1 by omega) (show 4<5 by omega)
      rw[List.append_nil,oneC_at hFj',if_pos rfl]at f5
      have hle5:j3*5+4+1≤(rows (oneC (F ++ [(q,x::l)]) nx) (F.length+1)).length:=by rw[rows_len (oneC_len _ _)];omega
      have hne:¬ b2=s'.next:=oM
      have hne':¬ s'.next=b2:=oM
      simp only[↓Zd,Zp,Zs,simprocAttr,FOx,hb2',f4',f5,hset,hle5,hne,hne',cfindI_nil]
      have hl2:(F ++ [(q,x::l)]).length=F.length+1:=by simp
      have hMI:MI [{ key := .int .i64 (x:Int),val := .int .i64 ((F.length+1:Nat):Int),born:=0 }] (fun y=>shIs (F ++ [(q,x::l)]) (q,y::l)):=by
       have:=MI.nil.app (x:=x) (j:=F.length+1) (c:=0) rfl
       have e:(fun y=>shIs (F ++ [(q,x::l)]) (q,y::l))=fun y=>if y=x then some (F.length+1) else none:=by
        funext y
        rw[shIs_app hin]
        by_cases e:y=x
        ·subst e;simp
        ·rw[if_neg e,if_neg (by simp[e])]
         exact h12.1 j3 hnx (q,l) hFj y
       rw[e];exact this
      have hKids:=Kids.add (bm:=s'.next) (s':=((s'.new (.map [] 0)).put b2 (.cells (rows (oneC (F ++ [(q,x::l)]) fun i=>if i=j3 then some s'.next else nx i) (F.length+1)) 268 true)).put s'.next (.map [{ key := .int .i64 (x:Int),val := .int .i64 ((F.length+1:Nat):Int),born:=0 }] 1)) (O':=fun c=>O c∨c=b2∨c=s'.next) h12 h3 hFj hin
       (fun i c hc hne=>by
        obtain⟨k1,k2,k3,_⟩:=h12.2 i c hc
        have:=(h1 c k1).2
        rw[aP,if_neg hne,aP,if_neg oM,aN,if_neg hne,hk' c oM k2 (fun a n k e=>by cases e;exact fun e2=>(h11 _ _ _ rfl).2.2.2 i (by rw[hc,e2])),hs1.2 c this])
       ⟨_,_,by rw[aP,if_pos rfl],hMI⟩ (fun c hc => .inl hc) (.inr (.inr rfl)) oM (by have:=(h1 m h8).2;omega) (fun i hi=>by have:=(h1 _ (h12.2 i _ hi).1).2;omega)
      refine h _ (fun c=>O c∨c=b2∨c=s'.next) ⟨?_,.inl h2,h3.app hin (List.nodup_cons.2 ⟨hm,(h3.names _ _ _ hFj).1⟩) (by simp only[List.length_cons];omega) (fun y r e=>by cases e;exact List.mem_of_getElem? hFj),⟨by rw[hl2];omega,h4.2⟩,m,.slice (some ⟨b2,0,none⟩) (F.length+1) UNK,es,clock,(fun i=>if i=j3 then some s'.next else nx i),?_,?_,?_,.inl h8,h9,.inr ⟨b2,[],by simp,?_,rows_len (oneC_len _ _) _⟩,?_,hKids⟩ ⟨?_,?_,?_⟩
      ·rintro c (hc|rfl|rfl)
       ·exact⟨(h1 c hc).1,by have:=(h1 c hc).2;simp only[Sn];omega⟩
       ·exact⟨oM,by simp only[Sn];omega⟩
       ·exact⟨oM,by simp only[Sn];omega⟩
      ·rw[aP,if_neg oM,aP,if_neg oM,aN,if_neg oM];exact hp'
      ·have:=(h1 m h8).2
       rw[aP,if_neg oM,aP,if_neg oM,aN,if_neg oM,hk' m oM h9 (fun a n k e=>by cases e;exact fun e2=>(h11 _ _ _ rfl).2.2.1 e2.symm),hs1.2 m this];exact h6
      ·have e:(fun y=>shIs (F ++ [(q,x::l)]) (y,[]))=fun y=>shIs F (y,[]):=by
        funext y;rw[shIs_app hin,if_neg (by simp)]
       rw[e];exact h7
      ·rw[aP,if_neg oM,aP,if_pos rfl,hl2,List.append_nil]
      ·intro a n k e
       cases e
       refine⟨.inr (.inl rfl),by show b2≠p;omega,by have:=(h1 m h8).2;show b2≠m;omega,fun i hi=>?_⟩
       simp only at hi
       split at hi
       ·have:=Option.some.inj hi;omega
       ·have:=(h1 _ (h12.2 i _ hi).1).2;omega
      ·simp only[Sn];omega
      ·intro c hc ho
       rw[aP,if_neg oM,aP,if_neg oM,aN,if_neg oM,hk' c oM (fun e=>ho (e▸h2)) (fun a n k e=>by cases e;exact fun e2=>ho (e2▸hbO)),hs1.2 c hc]
      ·rintro c (hc|rfl|rfl)
       ·exact .inl hc
       ·exact .inr oM
       ·exact .inr oM
end
end Go.Proofs.Tryz
namespace Go.Proofs.Tryz
open Go.Cs
open Go.RowKit (Below)
set_option maxRecDepth 100000
attribute [local irreducible] QC WLoop WScope CRound WRange
def moveL(most:Nat):List Nat→List Sh→Nat→List Sh×Nat
 | [],F,t=>(F,t)
 |x::r,F,t=>moveL most r (addF F most (t:Int) x) (addN F most (t:Int) x)
def moveF(F:List Sh)(most:Nat)(i:Int)(q:Nat):List Sh:=match shAt F i with
 |none=>F
 |some u=>(moveL most u.2.reverse (growF F most (q,[])) (growN F most (q,[]))).1
def moveN(F:List Sh)(most:Nat)(i:Int)(q:Nat):Nat:=match shAt F i with
 |none=>0
 |some u=>(moveL most u.2.reverse (growF F most (q,[])) (growN F most (q,[]))).2
section
variable {M:Type}[Mem M]{w0:World}{s:St M}{R:Value→St M→Prop}
theorem growF_pre{F:List Sh}{most:Nat}{t u:Sh}{j:Nat}(h:F[j]?=some u):(growF F most t)[j]?=some u:=by
 unfold growF
 split
 ·exact h
 ·split
  ·rw[List.getElem?_append_left (List.getElem?_eq_some_iff.1 h).1];exact h
  ·exact h
theorem growN_le{F:List Sh}{most:Nat}(t:Sh)(h:F.length≤most∧most≤150):growN F most t≤150:=by
 unfold growN
 split
 ·rename_i hm
  have:=List.idxOf_lt_length_of_mem hm
  omega
 ·split<;>omega
theorem addN_le{F:List Sh}{most:Nat}(i:Int)(x:Nat)(h:F.length≤most∧most≤150):addN F most i x≤150:=by
 unfold addN
 split
 ·omega
 ·split
  ·omega
  ·exact growN_le _ h
set_option maxHeartbeats 4000000 in
theorem fmove_spec{lo p:Nat}{F:List Sh}{most q:Nat}{O:Nat→Prop}{i:Int}(hF:FAt lo s p F most O)(hlo:lo≤s.next)(hi : -9223372036854775808≤i∧i≤9223372036854775807)
  (h:∀ s' O',FAt lo s' p (moveF F most i q) most O'→Upd s s' O O'→R (.int .i64 (moveN F most i q:Int)) s') :
  QC Tryz.prog w0 217 #[.pointer (some ⟨p,0,none⟩),.int .i64 i,.int .i64 (q:Int)] s R:=by
 refine wfun2 hmix ok217 func217 rfl ntmps217 results217 (by simp) ?_
 have hF0:=hF
 obtain⟨h1,h2,h3,h4,m,sl,es,clock,nx,h5,h6,h7,h8,h9,h10,h11,h12⟩:=hF
 simp only[↓Zd,Zp,simprocAttr,co266]
 refine ffind_spec h5 h10.form hi (fun hno=>?_) (fun b j hij hj hsl=>?_)
 ·have hf:moveF F most i q=F:=by unfold moveF;rw[shAt_out hno]
  have hg:moveN F most i q=0:=by unfold moveN;rw[shAt_out hno]
  rw[hf,hg]at h
  simp only[↓Zd,Zp,simprocAttr,FOx]
  exact h _ O hF0 .refl
 ·subst hij
  obtain⟨q0,l,hFj⟩:∃ q l,F[j]?=some (q,l):=⟨F[j].1,F[j].2,by simp[hj]⟩
  have hsh:shAt F ((j+1:Nat):Int)=some (q0,l):=by rw[shAt_in,hFj]
  have hf:moveF F most ((j+1:Nat):Int) q=(moveL most l.reverse (growF F most (q,[])) (growN F most (q,[]))).1:=by unfold moveF;rw[hsh]
  have hg:moveN F most ((j+1:Nat):Int) q=(moveL most l.reverse (growF F most (q,[])) (growN F most (q,[]))).2:=by unfold moveN;rw[hsh]
  rw[hf,hg]at h
  simp only[↓Zd,Zp,simprocAttr,FOx,co135]
  refine froot_spec hF0 hlo fun s1 O1 hF1 hU1=>?_
  have hn1:=hU1.next
  simp only[↓Zd,Zp,simprocAttr,FOx,co259]
  refine fnames_spec hF1 hi fun s2 sn hs2 hsn hsb=>?_
  have hn2:=hs2.1
  have hFj1:(growF F most (q,[]))[j]?=some (q0,l):=growF_pre hFj
  have hno:namesOf (growF F most (q,[])) ((j+1:Nat):Int)=l:=by unfold namesOf;rw[shAt_in,hFj1]
  rw[hno]at hsn
  have hF2:FAt lo s2 p (growF F most (q,[])) most O1:=hF1.same hs2.1 fun b hb=>hs2.2 b (hF1.own b hb).2
  have hU2:Upd s s2 O O1:=hU1.trans (.of_le hs2)
  have hg150:=growN_le (q,[]) h4
  have h12l:l.length≤12:=(h3.names _ _ _ hFj).2
  obtain⟨an,cn,rfl⟩:∃ a c,sn = .slice a l.length c:=by
   rcases hsn with ⟨e1,_,rfl⟩|⟨b2,junk,rfl,_⟩
   ·exact⟨none,0,by rw[e1]⟩
   ·exact⟨_,_,rfl⟩
  simp only[↓Zd,Zp,simprocAttr,underlying88]
  refine wloop_fix hmix [22,23,24,9,25,26,27,28,7,29,21] (fun fuel env s3=>∃ (k t:Nat) (F3:List Sh) (O3:Nat→Prop),fuel=l.length - k∧k≤l.length∧env 21 = .int .i64 (k:Int)∧env 7 = .int .i64 (t:Int)∧t≤150∧FAt lo s3 p F3 most O3∧Upd s s3 O O3∧(∀ c,s.next≤c→c<s2.next→¬ O1 c→¬ O3 c)∧(∀ c,s.next≤c→c<s2.next→¬ O1 c→s3.at' c=s2.at' c)∧s2.next≤s3.next ∧
   moveL most (l.reverse.drop k) F3 t=moveL most l.reverse (growF F most (q,[])) (growN F most (q,[]))) l.length ⟨0,growN F most (q,[]),growF F most (q,[]),O1,rfl,oM,rfl,rfl,hg150,hF2,hU2,fun _ _ _ h=>h,fun _ _ _ _=>rfl,Nat.le_refl _,rfl⟩ ?_
  rintro fuel env s3 hFx ⟨k,t,F3,O3,rfl,hk,e21,e7,ht,hF3,hU3,hno3,hke3,hn3,hmv⟩
  have e0:env 0 = .pointer (some ⟨p,0,none⟩):=by rw[hFx 0 rfl];rfl
  have e19:env 19 = .slice an l.length cn:=by rw[hFx 19 rfl];rfl
  have e20:env 20 = .int .i64 (l.length:Int):=by rw[hFx 20 rfl];rfl
  by_cases hkl:(k:Int)<(l.length:Int)
  ·have hkk:(0:Int)≤(k:Int)∧(k:Int)<(l.length:Int):=oM
   rcases hsn with ⟨e1,_,_⟩|⟨b2,junk,e2,hb2,hl2⟩
   ·omega
   cases e2
   have hb2n:=hsb _ _ _ rfl
   simp only at hb2n
   have hbO:¬ O1 b2:=fun hc=>by have:=(hF1.own b2 hc).2;omega
   have hb3:s3.at' b2=some (.cells (ints l.reverse++junk) 3 true):=by rw[hke3 b2 oM hb2n.2 hbO];exact hb2
   have hg:=ints_get (l:=l.reverse) (k:=k) junk (by simp;omega)
   have w1:IntKind.i64.wrap ((k:Int)+1)=((k+1:Nat):Int):=by rw[wrap_i64 oM];omega
   simp only[↓Zd,Zp,simprocAttr,cld2,FOx,underlying88,e0,e7,e19,e20,e21,hkl,hkk,hb3,hg,co226]
   refine fadd_spec (i:=(t:Int)) hF3 (by have:=hU3.next;omega) oM fun s4 O4 hF4 hU4=>?_
   have hn4:=hU4.next
   have hle3:=hF3.le
   simp only[↓Zd,Zp,simprocAttr,FOx,e21,w1]
   refine⟨by repeat (first|exact hFx|refine Fix.upd (by decide) ?_),l.length - (k+1),oM,k+1,addN F3 most (t:Int) (l.reverse[k]'(by simp;omega)),addF F3 most (t:Int) (l.reverse[k]'(by simp;omega)),O4,rfl,oM,rfl,rfl,addN_le _ _ hle3,hF4,hU3.trans hU4,fun c h1 h2 h3 h4=>?_,fun c h1 h2 h3=>?_,oM,?_⟩
   ·rcases hU4.own c h4 with h|h
    ·exact hno3 c h1 h2 h3 h
    ·omega
   ·rw[hU4.keep c oM (hno3 c h1 h2 h3),hke3 c h1 h2 h3]
   ·rw[← hmv]
    have:l.reverse.drop k=l.reverse[k]'(by simp;omega)::l.reverse.drop (k+1):=List.drop_eq_getElem_cons (by simp;omega)
    rw[this];rfl
  ·have:k=l.length:=oM
   subst this
   have hd:l.reverse.drop l.length=[]:=List.drop_eq_nil_of_le (by simp)
   rw[hd]at hmv
   rw[← hmv]at h
   simp only[↓Zd,Zp,simprocAttr,e7,e20,e21,hkl]
   exact h _ O3 hF3 hU3
theorem fnew_spec{n:Int}(h:∀ s' p,FAt s.next s' p [] (max 0 (min n 150)).toNat (fun b=>s.next≤b∧b<s'.next)→s.le s'→R (.pointer (some ⟨p,0,none⟩)) s'):QC Tryz.prog w0 94 #[.int .i64 n] s R:=by
 refine wfun2 hmix ok94 func94 rfl ntmps94 results94 (by simp) ?_
 have hb:∀ (m:Nat) (v:Int),cbuild Tryz.prog 237 #[(1,.map (some m)),(2,.int .i64 v)]=some (.agg #[.slice none 0 0,.map (some m),.int .i64 v]):=fun m v=>by kernel_rfl
 have hmx:(if (if (150:Int)<n then (150:Int) else n)>0 then (if (150:Int)<n then (150:Int) else n) else 0)=(((max 0 (min n 150)).toNat:Nat):Int):=oM
 simp only[↓Zd,Zp,Zs,simprocAttr,is237,hb,o_min,o_max,bi_min,bi_max,hmx]
 refine h _ _ ⟨fun b hb=>hb,by simp,.nil,⟨by simp,oM⟩,s.next,.slice none 0 0,[],0,fun _=>none,by simp,by simp,?_,⟨oM,by simp only[nN];omega⟩,by simp,.inl ⟨rfl,rfl,rfl⟩,(fun q n c e=>by cases e),?_⟩ oL
 ·have:(fun x=>shIs [] (x,([]:List Nat)))=fun _=>none:=by funext x;simp[shIs]
  rw[this];exact .nil
 ·exact⟨fun i _ t ht=>by simp at ht,fun i b hb=>by cases hb⟩
end
end Go.Proofs.Tryz
end
section
namespace Go.Proofs.Tryz
open Go.Cs
open Go.RowKit (Below)
set_option maxRecDepth 100000
structure Ob where
 L:List (ByteArray×V3)
 shape:Nat
 proto:Nat
 epoch:Nat
structure Hp where
 obs:List Ob
 F:List Sh
 T:List ByteArray
 most:Nat
 maxO:Nat
 maxP:Nat
def HPro(H:Hp):Prop:=∀ (i:Nat) (o:Ob),H.obs[i]?=some o→0<o.shape→∃ l,H.F[o.shape - 1]?=some (o.proto,l)
def obAt(H:Hp)(o:Int):Option Ob:=if 1≤o then H.obs[o.toNat - 1]? else none
def txt(T:List ByteArray)(i:Nat):ByteArray:=T.getD (i - 1) ⟨#[]⟩
def ofI(T:List ByteArray)(x:ByteArray):Nat:=match idxOf T x with
 |some j=>j+1
 |none=>T.length+1
theorem obAt_get{H:Hp}{j:Nat}:obAt H ((j+1:Nat):Int)=H.obs[j]?:=by
 unfold obAt
 rw[if_pos oM]
 congr 1
theorem obAt_none{H:Hp}{o:Int}:obAt H o=none↔¬ (1≤o∧o≤H.obs.length):=by
 unfold obAt
 split
 ·rw[List.getElem?_eq_none_iff];omega
 ·simp;omega
theorem obAt_some{H:Hp}{o:Int}{ob:Ob}(h:obAt H o=some ob):∃ j:Nat,o=((j+1:Nat):Int)∧j<H.obs.length∧H.obs[j]?=some ob:=by
 unfold obAt at h
 split at h
 ·refine⟨o.toNat - 1,oM,(List.getElem?_eq_some_iff.1 h).1,h⟩
 ·cases h
structure HOk(H:Hp):Prop where
 nodup:H.T.Nodup
 ids:∀ (i:Nat) (t:Sh),H.F[i]?=some t→∀ x∈t.2,1≤x∧x≤H.T.length
 fits:∀ (i:Nat) (o:Ob),H.obs[i]?=some o→0<o.shape→∃ q l,H.F[o.shape - 1]?=some (q,l)∧l.reverse.map (txt H.T)=o.L.map (·.1)
 keys:∀ (i:Nat) (o:Ob),H.obs[i]?=some o→(o.L.map (·.1)).Nodup
 lens:∀ (i:Nat) (o:Ob),H.obs[i]?=some o→o.L.length≤H.maxP
 up:∃ d:Nat→Nat,∀ (i:Nat) (o:Ob),H.obs[i]?=some o→o.proto=0∨o.proto≤H.obs.length∧d o.proto<d (i+1)
 lim:H.maxP≤32∧H.obs.length≤H.maxO∧H.maxO≤200
theorem idx_of_get:∀ {T:List ByteArray},T.Nodup→∀ {j:Nat}{x:ByteArray},T[j]?=some x→idxOf T x=some j:=by
 intro T
 induction T with
 |nil=>intro _ j x h;simp at h
 |cons y T ih =>
  intro hn j x h
  simp only[List.nodup_cons]at hn
  unfold idxOf
  cases j with
  |zero=>simp at h;rw[if_pos h]
  |succ j =>
   have h:T[j]?=some x:=by simpa using h
   rw[if_neg (fun e=>hn.1 (by rw[e];exact List.mem_of_getElem? h)),ih hn.2 h]
   rfl
theorem idx_none:∀ {T:List ByteArray}{x:ByteArray},idxOf T x=none→x ∉ T:=by
 intro T
 induction T with
 |nil=>intro x _;simp
 |cons y T ih =>
  intro x h
  unfold idxOf at h
  split at h
  ·cases h
  ·rename_i e
   have h:=Option.map_eq_none_iff.1 h
   intro hm
   rcases List.mem_cons.1 hm with e2|hm
   ·exact e e2.symm
   ·exact ih h hm
theorem txt_get{T:List ByteArray}{i:Nat}(h1:1≤i)(h2:i≤T.length):T[i - 1]?=some (txt T i):=by
 unfold txt
 rw[List.getElem?_eq_getElem oM,List.getD_eq_getElem?_getD,List.getElem?_eq_getElem oM];rfl
theorem ofT_some{T:List ByteArray}{x:ByteArray}{j:Nat}(h:idxOf T x=some j):ofT T x=T:=by unfold ofT;rw[h]
theorem ofT_none{T:List ByteArray}{x:ByteArray}(h:idxOf T x=none):ofT T x=T ++ [x]:=by unfold ofT;rw[h]
theorem ofN_eq(T:List ByteArray)(x:ByteArray):ofN T x=(ofI T x:Int):=by
 unfold ofN ofI
 cases idxOf T x<;>simp
theorem ofT_nodup{T:List ByteArray}(h:T.Nodup)(x:ByteArray):(ofT T x).Nodup:=by
 cases hi:idxOf T x with
 |some j=>rw[ofT_some hi];exact h
 |none =>
  rw[ofT_none hi,List.nodup_append]
  refine⟨h,by simp,fun a ha b hb e=>?_⟩
  simp at hb
  subst hb;subst e
  exact idx_none hi ha
theorem ofT_len(T:List ByteArray)(x:ByteArray):T.length≤(ofT T x).length∧(ofT T x).length≤T.length+1:=by
 cases hi:idxOf T x with
 |some j=>rw[ofT_some hi];omega
 |none=>rw[ofT_none hi];simp
theorem ofT_get{T:List ByteArray}{j:Nat}{y:ByteArray}(x:ByteArray)(h:T[j]?=some y):(ofT T x)[j]?=some y:=by
 cases hi:idxOf T x with
 |some j=>rw[ofT_some hi];exact h
 |none=>rw[ofT_none hi,List.getElem?_append_left (List.getElem?_eq_some_iff.1 h).1];exact h
theorem ofT_txt{T:List ByteArray}{i:Nat}(x:ByteArray)(h1:1≤i)(h2:i≤T.length):txt (ofT T x) i=txt T i:=by
 have:=txt_get (T:=ofT T x) h1 (by have:=ofT_len T x;omega)
 rw[ofT_get x (txt_get h1 h2)]at this
 exact (Option.some.inj this).symm
theorem ofI_ok(T:List ByteArray)(x:ByteArray):1≤ofI T x∧ofI T x≤(ofT T x).length∧txt (ofT T x) (ofI T x)=x:=by
 unfold ofI
 cases hi:idxOf T x with
 |some j =>
  rw[ofT_some hi]
  have:=idx_lt hi
  refine⟨by simp,by simp only;omega,?_⟩
  unfold txt
  simp only[Nat.add_sub_cancel]
  rw[List.getD_eq_getElem?_getD,this.2];rfl
 |none =>
  rw[ofT_none hi]
  refine⟨by simp,by simp,?_⟩
  unfold txt
  simp
theorem getP_some:∀ {L:List (ByteArray×V3)}{x:ByteArray}{v:V3},getP L x=some v→∃ k:Nat,L[k]?=some (x,v):=by
 intro L
 induction L with
 |nil=>intro x v h;cases h
 |cons p L ih =>
  intro x v h
  obtain⟨y,w⟩:=p
  unfold getP at h
  split at h
  ·rename_i e;cases h;exact⟨0,by simp[e]⟩
  ·obtain⟨k,hk⟩:=ih h
   exact⟨k+1,by simpa using hk⟩
theorem getP_get:∀ {L:List (ByteArray×V3)},(L.map (·.1)).Nodup→∀ {k:Nat}{x:ByteArray}{v:V3},L[k]?=some (x,v)→getP L x=some v:=by
 intro L
 induction L with
 |nil=>intro _ k x v h;simp at h
 |cons p L ih =>
  intro hn k x v h
  obtain⟨y,w⟩:=p
  simp only[List.map_cons,List.nodup_cons]at hn
  unfold getP
  cases k with
  |zero=>simp at h;rw[if_pos h.1,h.2]
  |succ k =>
   have h:L[k]?=some (x,v):=by simpa using h
   rw[if_neg (fun e=>hn.1 (by rw[e];exact List.mem_map_of_mem (f:=(·.1)) (List.mem_of_getElem? h)))]
   exact ih hn.2 h
theorem getP_none{L:List (ByteArray×V3)}{x:ByteArray}:getP L x=none↔x ∉ L.map (·.1):=by
 induction L with
 |nil=>simp[getP]
 |cons p L ih =>
  obtain⟨y,w⟩:=p
  unfold getP
  by_cases e:y=x
  ·simp[e]
  ·rw[if_neg e,ih]
   simp only[List.map_cons,List.mem_cons,not_or]
   exact⟨fun h=>⟨fun e2=>e e2.symm,h⟩,fun h=>h.2⟩
theorem setP_some:∀ {L:List (ByteArray×V3)}{x:ByteArray}{v w:V3}{k:Nat},(L.map (·.1)).Nodup→L[k]?=some (x,w)→setP L x v=L.set k (x,v):=by
 intro L
 induction L with
 |nil=>intro x v w k _ h;simp at h
 |cons p L ih =>
  intro x v w k hn h
  obtain⟨y,u⟩:=p
  simp only[List.map_cons,List.nodup_cons]at hn
  unfold setP
  cases k with
  |zero=>simp at h;rw[if_pos h.1];rfl
  |succ k =>
   have h:L[k]?=some (x,w):=by simpa using h
   rw[if_neg (fun e=>hn.1 (by rw[e];exact List.mem_map_of_mem (f:=(·.1)) (List.mem_of_getElem? h))),ih hn.2 h]
   rfl
theorem keys_set{L:List (ByteArray×V3)}{k:Nat}{x:ByteArray}{w v:V3}(h:L[k]?=some (x,w)):(L.set k (x,v)).map (·.1)=L.map (·.1):=by
 rw[List.map_set]
 apply List.ext_getElem?
 intro i
 rw[List.getElem?_set]
 split
 ·rename_i e
  subst e
  have:=(List.getElem?_eq_some_iff.1 h).1
  rw[List.getElem?_map,h]
  simp[this]
 ·rfl
theorem delP_keys:∀ (L:List (ByteArray×V3)) (x:ByteArray),((delP L x).map (·.1)).Sublist (L.map (·.1)):=by
 intro L x
 induction L with
 |nil=>exact .slnil
 |cons p L ih =>
  obtain⟨y,w⟩:=p
  unfold delP
  split
  ·exact .cons _ (List.Sublist.refl _)
  ·exact .cons_cons _ ih
theorem delP_len:∀ (L:List (ByteArray×V3)) (x:ByteArray),(delP L x).length≤L.length:=by
 intro L x
 have:=(delP_keys L x).length_le
 simpa using this
theorem slotL_get:∀ {l:List Nat}{x k:Nat},slotL l x=(k:Int)→l.reverse[k]?=some x:=by
 intro l
 induction l with
 |nil=>intro x k h;simp only[slotL]at h;omega
 |cons y r ih =>
  intro x k h
  unfold slotL at h
  rw[List.reverse_cons]
  split at h
  ·rename_i e
   have:k=r.length:=oM
   subst this
   rw[List.getElem?_append_right (by simp)]
   simp[e]
  ·have:=ih h
   rw[List.getElem?_append_left (List.getElem?_eq_some_iff.1 this).1]
   exact this
theorem slotL_ge(l:List Nat)(x:Nat) : -1≤slotL l x:=by
 induction l with
 |nil=>simp[slotL]
 |cons y r ih=>unfold slotL;split<;>omega
def slotOf(H:Hp)(id:Int)(x:ByteArray):Int:=match idxOf H.T x with
 |none => -1
 |some j=>slotL (namesOf H.F id) (j+1)
theorem namesOf_at{F:List Sh}{n:Nat}{t:Sh}(hn:0<n)(h:F[n - 1]?=some t):namesOf F (n:Int)=t.2:=by
 unfold namesOf shAt
 rw[if_pos oM,Int.toNat_natCast,h]
theorem shAt_at{F:List Sh}{n:Nat}(hn:0<n):shAt F (n:Int)=F[n - 1]?:=by
 unfold shAt
 rw[if_pos oM,Int.toNat_natCast]
theorem slot_fits{H:Hp}(h:HOk H){i:Nat}{o:Ob}(ho:H.obs[i]?=some o)(hs:0<o.shape)(x:ByteArray) :
  (slotOf H o.shape x = -1∧getP o.L x=none)∨∃ (k:Nat) (v:V3),slotOf H o.shape x=(k:Int)∧o.L[k]?=some (x,v)∧getP o.L x=some v:=by
 obtain⟨q0,l,h1,h2⟩:=h.fits i o ho hs
 have hl:namesOf H.F (o.shape:Int)=l:=namesOf_at hs h1
 have hno:∀ (k:Nat) (v:V3),o.L[k]?=some (x,v)→∃ n,l.reverse[k]?=some n∧idxOf H.T x=some (n - 1)∧1≤n:=by
  intro k v hk
  have:(l.reverse.map (txt H.T))[k]?=some x:=by rw[h2,List.getElem?_map,hk];rfl
  rw[List.getElem?_map]at this
  obtain⟨n,hn,e⟩:=Option.map_eq_some_iff.1 this
  have hm:n∈l:=by
   have:=List.mem_of_getElem? hn
   simpa using this
  obtain⟨g1,g2⟩:=h.ids _ _ h1 n hm
  refine⟨n,hn,idx_of_get h.nodup ?_,g1⟩
  rw[txt_get g1 g2,e]
 unfold slotOf
 cases hi:idxOf H.T x with
 |none =>
  left
  refine⟨rfl,?_⟩
  cases hg:getP o.L x with
  |none=>rfl
  |some v =>
   obtain⟨k,hk⟩:=getP_some hg
   obtain⟨n,_,h3,_⟩:=hno k v hk
   rw[hi]at h3;cases h3
 |some j =>
  simp only
  rw[hl]
  by_cases hneg:slotL l (j+1)<0
  ·left
   refine⟨by have:=slotL_ge l (j+1);omega,?_⟩
   cases hg:getP o.L x with
   |none=>rfl
   |some v =>
    obtain⟨k,hk⟩:=getP_some hg
    obtain⟨n,h3,h4,h5⟩:=hno k v hk
    rw[hi]at h4
    have:n=j+1:=by have:=Option.some.inj h4;omega
    have hm:n∈l:=by
     have:=List.mem_of_getElem? h3
     simpa using this
    exact absurd (this▸hm) ((slotL_neg l (j+1)).1 hneg)
  ·right
   obtain⟨k,hk⟩:∃ k:Nat,slotL l (j+1)=(k:Int):=⟨(slotL l (j+1)).toNat,oM⟩
   have h3:=slotL_get hk
   have h4:(o.L.map (·.1))[k]?=some x:=by
    rw[← h2,List.getElem?_map,h3]
    show some (txt H.T (j+1))=some x
    have:=idx_lt hi
    rw[← txt_get (T:=H.T) oM oM,Nat.add_sub_cancel,this.2]
   rw[List.getElem?_map]at h4
   obtain⟨⟨y,v⟩,h5,h6⟩:=Option.map_eq_some_iff.1 h4
   simp only at h6
   subst h6
   exact⟨k,v,hk,h5,getP_get (h.keys i o ho) h5⟩
theorem up_same{l:List Ob}{i:Nat}{o o':Ob}(hi:l[i]?=some o)(hp:o'.proto=o.proto)(h:∃ d:Nat→Nat,∀ (j:Nat) (o:Ob),l[j]?=some o→o.proto=0∨o.proto≤l.length∧d o.proto<d (j+1)) :
  ∃ d:Nat→Nat,∀ (j:Nat) (u:Ob),(l.set i o')[j]?=some u→u.proto=0∨u.proto≤(l.set i o').length∧d u.proto<d (j+1):=by
 obtain⟨d,h⟩:=h
 refine⟨d,fun j u hu=>?_⟩
 rw[List.length_set]
 rw[List.getElem?_set]at hu
 split at hu
 ·rename_i e
  subst e
  split at hu
  ·cases hu;rw[hp];exact h i o hi
  ·cases hu
 ·exact h j u hu
theorem HOk.upd{H:Hp}(h:HOk H){i:Nat}{o o':Ob}(hi:H.obs[i]?=some o){F':List Sh}{T':List ByteArray}(hF:∀ (j:Nat) (t:Sh),H.F[j]?=some t→F'[j]?=some t)(hT:∀ (j:Nat),1≤j→j≤H.T.length→txt T' j=txt H.T j)(hTl:H.T.length≤T'.length)(hTn:T'.Nodup)
  (hids:∀ (i:Nat) (t:Sh),F'[i]?=some t→∀ x∈t.2,1≤x∧x≤T'.length)(hfit:0<o'.shape→∃ q l,F'[o'.shape - 1]?=some (q,l)∧l.reverse.map (txt T')=o'.L.map (·.1))(hkeys:(o'.L.map (·.1)).Nodup)(hlen:o'.L.length≤H.maxP)
  (hup:∃ d:Nat→Nat,∀ (j:Nat) (u:Ob),(H.obs.set i o')[j]?=some u→u.proto=0∨u.proto≤(H.obs.set i o').length∧d u.proto<d (j+1)) :
  HOk { H with obs:=H.obs.set i o',F:=F',T:=T' }:=by
 refine⟨hTn,hids,fun j u hu hs=>?_,fun j u hu=>?_,fun j u hu=>?_,hup,by simpa using h.lim⟩
 ·simp only[List.getElem?_set]at hu
  split at hu
  ·split at hu
   ·cases hu;exact hfit hs
   ·cases hu
  ·obtain⟨q0,l,h1,h2⟩:=h.fits j u hu hs
   refine⟨q0,l,hF _ _ h1,?_⟩
   rw[← h2]
   apply List.map_congr_left
   intro n hn
   have:=h.ids _ _ h1 n (by simpa using hn)
   exact hT n this.1 this.2
 ·simp only[List.getElem?_set]at hu
  split at hu
  ·split at hu
   ·cases hu;exact hkeys
   ·cases hu
  ·exact h.keys j u hu
 ·simp only[List.getElem?_set]at hu
  split at hu
  ·split at hu
   ·cases hu;exact hlen
   ·cases hu
  ·exact h.lens j u hu
theorem HOk.more{H:Hp}(h:HOk H){F':List Sh}{T':List ByteArray}(hF:∀ (j:Nat) (t:Sh),H.F[j]?=some t→F'[j]?=some t)(hT:∀ (j:Nat),1≤j→j≤H.T.length→txt T' j=txt H.T j)(hTl:H.T.length≤T'.length)(hTn:T'.Nodup)
  (hids:∀ (i:Nat) (t:Sh),F'[i]?=some t→∀ x∈t.2,1≤x∧x≤T'.length):HOk { H with F:=F',T:=T' }:=by
 refine⟨hTn,hids,fun j u hu hs=>?_,h.keys,h.lens,h.up,h.lim⟩
 obtain⟨q0,l,h1,h2⟩:=h.fits j u hu hs
 refine⟨q0,l,hF _ _ h1,?_⟩
 rw[← h2]
 apply List.map_congr_left
 intro n hn
 have:=h.ids _ _ h1 n (by simpa using hn)
 exact hT n this.1 this.2
theorem growF_get{F:List Sh}{most:Nat}{t u:Sh}{j:Nat}(h:F[j]?=some u):(growF F most t)[j]?=some u:=by
 unfold growF
 split
 ·exact h
 ·split
  ·rw[List.getElem?_append_left (List.getElem?_eq_some_iff.1 h).1];exact h
  ·exact h
theorem growF_mem{F:List Sh}{most:Nat}{t u:Sh}{j:Nat}(h:(growF F most t)[j]?=some u):F[j]?=some u∨u=t:=by
 unfold growF at h
 split at h
 ·exact .inl h
 ·split at h
  ·by_cases hj:j<F.length
   ·rw[List.getElem?_append_left hj]at h;exact .inl h
   ·rw[List.getElem?_append_right oM]at h
    have h0:j - F.length=0:=by
     have:=(List.getElem?_eq_some_iff.1 h).1
     simp at this;omega
    rw[h0]at h
    simp at h
    exact .inr h.symm
  ·exact .inl h
theorem growN_get{F:List Sh}{most:Nat}{t:Sh}(h:0<growN F most t):(growF F most t)[growN F most t - 1]?=some t:=by
 unfold growN growF at *
 by_cases hm:t∈F
 ·simp only[if_pos hm,Nat.add_sub_cancel]
  have:=List.idxOf_lt_length_of_mem hm
  rw[List.getElem?_eq_getElem this,List.getElem_idxOf this]
 ·simp only[if_neg hm]at h ⊢
  split at h
  ·rename_i hl;simp[hl]
  ·omega
theorem addF_get{F:List Sh}{most x:Nat}{i:Int}{u:Sh}{j:Nat}(h:F[j]?=some u):(addF F most i x)[j]?=some u:=by
 unfold addF
 split
 ·exact h
 ·split
  ·exact h
  ·exact growF_get h
theorem addF_mem{F:List Sh}{most x:Nat}{i:Int}{u:Sh}{j:Nat}(h:(addF F most i x)[j]?=some u):F[j]?=some u∨∃ t,shAt F i=some t∧u=(t.1,x::t.2):=by
 unfold addF at h
 split at h
 ·exact .inl h
 ·rename_i t ht
  split at h
  ·exact .inl h
  ·rcases growF_mem h with h|h
   ·exact .inl h
   ·exact .inr ⟨t,ht,h⟩
theorem addN_get{F:List Sh}{most x:Nat}{i:Int}(h:0<addN F most i x):∃ t,shAt F i=some t∧(addF F most i x)[addN F most i x - 1]?=some (t.1,x::t.2):=by
 unfold addN addF at *
 split at h
 ·omega
 ·rename_i t ht
  split at h
  ·omega
  ·rename_i hc
   refine⟨t,by first|rfl|exact ht,?_⟩
   simp only[if_neg hc]
   exact growN_get h
theorem shAt_mem{F:List Sh}{i:Int}{t:Sh}(h:shAt F i=some t):∃ j:Nat,F[j]?=some t:=by
 unfold shAt at h
 split at h
 ·exact⟨_,h⟩
 ·cases h
theorem addF_ids{F:List Sh}{most x m:Nat}{i:Int}(h:∀ (j:Nat) (t:Sh),F[j]?=some t→∀ y∈t.2,1≤y∧y≤m)(hx:1≤x∧x≤m):∀ (j:Nat) (t:Sh),(addF F most i x)[j]?=some t→∀ y∈t.2,1≤y∧y≤m:=by
 intro j t ht y hy
 rcases addF_mem ht with h1|⟨u,hu,rfl⟩
 ·exact h j t h1 y hy
 ·rcases List.mem_cons.1 hy with rfl|hy
  ·exact hx
  ·obtain⟨k,hk⟩:=shAt_mem hu
   exact h k u hk y hy
end Go.Proofs.Tryz
namespace Go.Proofs.Tryz
open Go.Cs
open Go.RowKit (Below)
set_option maxRecDepth 100000
attribute [local irreducible] QC WLoop WScope CRound WRange
theorem as_ss(v:Value):cassert Tryz.prog (.iface 185 v) 185 true=some (.tuple #[v,.bool true]):=oK
theorem as_sl(v:Value):cassert Tryz.prog (.iface 185 v) 180 true=some (.tuple #[.agg #[.pointer none],.bool false]):=oK
theorem as_ls(v:Value):cassert Tryz.prog (.iface 180 v) 185 true=some (.tuple #[.pointer none,.bool false]):=oK
theorem as_ll(v:Value):cassert Tryz.prog (.iface 180 v) 180 true=some (.tuple #[v,.bool true]):=oK
theorem bVal0:cbuild Tryz.prog 31 #[]=some (.agg #[.int .i64 0,.int .i64 0,.string ⟨#[]⟩]):=oK
def HEx:=(aI (aI (aI (aI (aI (aI (aI @underlying3 (aI @underlying4 @underlying9)) (aI @underlying31 (aI @is31 @ag31))) (aI (aI @ce31 (aI @fa31x0 @fa31x1)) (aI (aI @fa31x2 @ag3) (aI @ce3 @ag9)))) (aI (aI (aI @ce9 (aI @underlying5 @underlying38)) (aI @underlying0 (aI @be4 @bn4))) (aI (aI @sz3 (aI @sz234 @ce234)) (aI (aI @ze3 @sz268) (aI @underlying306 @underlying235))))) (aI (aI (aI (aI @underlying234 (aI @underlying143 @ag143)) (aI @ag235 (aI @ag234 @nf306))) (aI (aI @nt306 (aI @ng306 @nn306)) (aI (aI @nf143 @nf234) (aI @nt234 @fa237x0)))) (aI (aI (aI @fa237x1 (aI @fa237x2 @fa268x0)) (aI @fa268x1 (aI @fa268x2 @fa268x3))) (aI (aI @fa268x4 (aI @is3 @sz9)) (aI (aI @is9 @ze9) (aI @sz4 @is4)))))) (aI (aI (aI (aI (aI @ce4 (aI @ag4 @ze4)) (aI @sz38 (aI @is38 @ce38))) (aI (aI @ag38 (aI @ze38 @sz31)) (aI (aI @ze31 @underlying149) (aI @sz149 @is149)))) (aI (aI (aI @ce149 (aI @ag149 @ze149)) (aI @fa149x0 (aI @fa149x1 @fa149x2))) (aI (aI @fa149x3 (aI @fa149x4 @underlying80)) (aI (aI @sz80 @is80) (aI @ce80 @ag80))))) (aI (aI (aI (aI @ze80 (aI @nt80 @nn80)) (aI @nf80 (aI @ng80 @underlying147))) (aI (aI @sz147 (aI @is147 @ce147)) (aI (aI @ag147 @ze147) (aI @underlying176 @sz176)))) (aI (aI (aI @is176 (aI @ce176 @ag176)) (aI (aI @ze176 @nt176) (aI @nn176 @nf176))) (aI (aI @ng176 (aI @underlying184 @sz184)) (aI (aI @is184 @ce184) (aI @ag184 @ze184))))))) (aI (aI (aI (aI (aI (aI @fa184x0 (aI @fa184x1 @fa184x2)) (aI @underlying182 (aI @sz182 @is182))) (aI (aI @ce182 (aI @ag182 @ze182)) (aI (aI @underlying185 @sz185) (aI @is185 @ce185)))) (aI (aI (aI @ag185 (aI @ze185 @nt185)) (aI @nn185 (aI @nf185 @ng185))) (aI (aI @underlying187 (aI @sz187 @is187)) (aI (aI @ce187 @ag187) (aI @ze187 @fa187x0))))) (aI (aI (aI (aI @fa187x1 (aI @underlying180 @sz180)) (aI @is180 (aI @ce180 @ag180))) (aI (aI @ze180 (aI @fa180x0 @underlying48)) (aI (aI @sz48 @is48) (aI @ce48 @ag48)))) (aI (aI (aI @ze48 (aI @underlying177 @sz177)) (aI (aI @is177 @ce177) (aI @ag177 @ze177))) (aI (aI @nt177 (aI @nn177 @nf177)) (aI (aI @ng177 @sz143) (aI @is143 @ce143)))))) (aI (aI (aI (aI (aI @ze143 (aI @nt143 @nn143)) (aI @ng143 (aI @underlying145 @sz145))) (aI (aI @is145 (aI @ce145 @ag145)) (aI (aI @ze145 @nt145) (aI @nn145 @nf145)))) (aI (aI (aI @ng145 (aI @underlying220 @sz220)) (aI @is220 (aI @ce220 @ag220))) (aI (aI @underlying290 (aI @sz290 @is290)) (aI (aI @ce290 @ag290) (aI @underlying43 @sz43))))) (aI (aI (aI (aI @is43 (aI @ce43 @ag43)) (aI @underlying167 (aI @sz167 @is167))) (aI (aI @ce167 (aI @ag167 @underlying265)) (aI (aI @sz265 @is265) (aI @ce265 @ag265)))) (aI (aI (aI @underlying115 (aI @sz115 @is115)) (aI (aI @ce115 @ag115) (aI @o_assert @f_assert))) (aI (aI @o_mkIface (aI @f_mkIface @as_ss)) (aI (aI @as_sl @as_ls) (aI @as_ll @bVal0))))))))
def valC(p:ByteArray×V3):List Value:=[.int .i64 p.2.1,.int .i64 p.2.2.1,.string p.2.2.2]
def valsC(L:List (ByteArray×V3)):List Value:=L.flatMap valC
theorem valsC_len(L:List (ByteArray×V3)):(valsC L).length=L.length*3:=by
 induction L with
 |nil=>rfl
 |cons p L ih =>
  show (valC p++valsC L).length=_
  rw[List.length_append,ih,List.length_cons];show 3+_=_;omega
theorem valsC_app(L L2:List (ByteArray×V3)):valsC (L++L2)=valsC L++valsC L2:=by unfold valsC;simp
theorem valsC_cut:∀ (L:List (ByteArray×V3)) (k:Nat) (x:ByteArray) (v:V3) (junk:List Value),L[k]?=some (x,v)→k*3+3≤(valsC L++junk).length∧List.take 3 (List.drop (k*3) (valsC L++junk))=[.int .i64 v.1,.int .i64 v.2.1,.string v.2.2]:=by
 intro L
 induction L with
 |nil=>intro k x v junk h;simp at h
 |cons p L ih =>
  intro k x v junk h
  cases k with
  |zero =>
   simp at h
   subst h
   exact⟨by show 3≤_;rw[List.length_append,valsC_len];simp;omega,rfl⟩
  |succ k =>
   have h:L[k]?=some (x,v):=by simpa using h
   obtain⟨h1,h2⟩:=ih k x v junk h
   have e:valsC (p::L)++junk=valC p++(valsC L++junk):=by show (valC p++valsC L)++junk=_;rw[List.append_assoc]
   rw[e]
   refine⟨by rw[List.length_append];show _≤3+_;omega,?_⟩
   rw[show (k+1)*3=3+k*3 from oM,← List.drop_drop]
   exact h2
theorem valsC_set:∀ (L:List (ByteArray×V3)) (k:Nat) (x:ByteArray) (v w:V3) (junk:List Value),L[k]?=some (x,w)→setCells (valsC L++junk) (k*3) [.int .i64 v.1,.int .i64 v.2.1,.string v.2.2]=valsC (L.set k (x,v))++junk:=by
 intro L k x v w junk h
 have hl:=(List.getElem?_eq_some_iff.1 h).1
 rw[setCells_eq _ _ _ (by rw[List.length_append,valsC_len];simp;omega)]
 have e:L=L.take k++(x,w)::L.drop (k+1):=by
  rw[← (List.getElem?_eq_some_iff.1 h).2];simp
 have e2:L.set k (x,v)=L.take k++(x,v)::L.drop (k+1):=by rw[List.set_eq_take_append_cons_drop,if_pos hl]
 have hk:(valsC (L.take k)).length=k*3:=by rw[valsC_len,List.length_take];congr 1;omega
 have e3:valsC L++junk=valsC (L.take k)++(valC (x,w)++(valsC (L.drop (k+1))++junk)):=by
  conv=>lhs;rw[e]
  rw[valsC_app]
  show valsC (L.take k)++(valC (x,w)++valsC (L.drop (k+1)))++junk=_
  simp only[List.append_assoc]
 rw[e2,valsC_app,e3]
 show _=valsC (L.take k)++(valC (x,v)++valsC (L.drop (k+1)))++junk
 rw[List.take_append_of_le_length oM,List.take_of_length_le oM,show k*3 + [Value.int .i64 v.1,.int .i64 v.2.1,.string v.2.2].length=(valsC (L.take k)).length+3 from by rw[hk];rfl,List.drop_append]
 have hd:List.drop ((valsC (L.take k)).length+3) (valsC (L.take k))=[]:=List.drop_eq_nil_of_le oM
 rw[hd,Nat.add_sub_cancel_left,List.nil_append]
 simp only[List.append_assoc]
 rfl
section
variable {M:Type}[Mem M]{w0:World}{s:St M}{R:Value→St M→Prop}
theorem DictAt.mono{lo:Nat}{s:St M}{p:Nat}{L:List (ByteArray×V3)}{N N':Nat}{O:Nat→Prop}(h:DictAt lo s p L N O)(hN:N≤N'):DictAt lo s p L N' O:=by
 obtain⟨h1,h2,P,m,sl,es,clock,kv,h3,hP,h⟩:=h
 exact⟨h1,h2,P,m,sl,es,clock,kv,h3,oM,h⟩
structure ObAt(lo:Nat)(s:St M)(N:Nat)(b:Nat)(o:Ob)(O:Nat→Prop):Prop where
 own:∀ c,O c→lo≤c∧c<s.next
 pin:O b
 ep:o.epoch≤N
 bl:(o.shape=0∧∃ pd OD,s.at' b=some (.cells [.iface 180 (.agg #[.pointer (some ⟨pd,0,none⟩)]),.int .i64 (o.proto:Int),.int .i64 (o.epoch:Int)] 184 true)∧DictAt lo s pd o.L N OD∧(∀ c,OD c→O c∧c≠b)) ∨
  (0<o.shape∧∃ ps sl,s.at' b=some (.cells [.iface 185 (.pointer (some ⟨ps,0,none⟩)),.int .i64 (o.proto:Int),.int .i64 (o.epoch:Int)] 184 true)∧s.at' ps=some (.cells [.int .i64 (o.shape:Int),sl] 187 true)∧O ps∧ps≠b ∧
   SlU 31 3 s sl (valsC o.L) o.L.length∧(∀ q n c,sl = .slice (some q) n c→O q.block∧q.block≠b∧q.block≠ps))
theorem ObAt.same{lo:Nat}{s s':St M}{N b:Nat}{o:Ob}{O:Nat→Prop}(h:ObAt lo s N b o O)(hn:s.next≤s'.next)(hs:∀ c,O c→s'.at' c=s.at' c):ObAt lo s' N b o O:=by
 obtain⟨h1,h2,h3,h4⟩:=h
 refine⟨fun c hc=>⟨(h1 c hc).1,by have:=(h1 c hc).2;omega⟩,h2,h3,?_⟩
 rcases h4 with ⟨h5,pd,OD,h6,h7,h8⟩|⟨h5,ps,sl,h6,h7,h8,h9,h10,h11⟩
 ·exact .inl ⟨h5,pd,OD,by rw[hs _ h2];exact h6,h7.same hn fun c hc=>hs c (h8 c hc).1,h8⟩
 ·exact .inr ⟨h5,ps,sl,by rw[hs _ h2];exact h6,by rw[hs _ h8];exact h7,h8,h9,h10.same fun q n c e=>hs _ (h11 q n c e).1,h11⟩
theorem ObAt.mono{lo:Nat}{s:St M}{N N' b:Nat}{o:Ob}{O:Nat→Prop}(h:ObAt lo s N b o O)(hN:N≤N'):ObAt lo s N' b o O:=by
 obtain⟨h1,h2,h3,h4⟩:=h
 refine⟨h1,h2,oM,?_⟩
 rcases h4 with ⟨h5,pd,OD,h6,h7,h8⟩|h
 ·exact .inl ⟨h5,pd,OD,h6,h7.mono hN,h8⟩
 ·exact .inr h
def ptrs(l:List Nat):List Value:=l.map fun b => .pointer (some ⟨b,0,none⟩)
theorem ptrs_len(l:List Nat):(ptrs l).length=l.length:=by simp[ptrs]
theorem ptrs_get{l:List Nat}{k b:Nat}(junk:List Value)(h:l[k]?=some b):(ptrs l++junk)[k]?=some (.pointer (some ⟨b,0,none⟩)):=by
 rw[List.getElem?_append_left (by rw[ptrs_len];exact (List.getElem?_eq_some_iff.1 h).1)]
 simp[ptrs,h]
structure HpIn(lo:Nat)(s:St M)(p:Nat)(H:Hp)(N:Nat)(O:Nat→Prop)(tg:Nat→Nat)(pf pn:Nat)(sl:Value)(bs:List Nat):Prop where
 own:∀ b,O b→lo≤b∧b<s.next
 ok:HOk H
 tn:H.T.length≤N
 pin:O p∧tg p=0
 bl:s.at' p=some (.cells [sl,.pointer (some ⟨pf,0,none⟩),.pointer (some ⟨pn,0,none⟩),.int .i64 (H.maxO:Int),.int .i64 (H.maxP:Int)] 149 true)
 row:SlU 176 1 s sl (ptrs bs) bs.length
 rowO:∀ q n c,sl = .slice (some q) n c→O q.block∧tg q.block=0∧q.block≠p
 fo:FAt lo s pf H.F H.most (fun b=>O b∧tg b=1)
 ta:TabAt lo s pn H.T (fun b=>O b∧tg b=2)
 len:bs.length=H.obs.length
 obj:∀ (i b:Nat) (o:Ob),bs[i]?=some b→H.obs[i]?=some o→ObAt lo s N b o (fun c=>O c∧tg c=i+3)
def HpAt(lo:Nat)(s:St M)(p:Nat)(H:Hp)(N:Nat)(O:Nat→Prop):Prop:=HPro H∧∃ tg pf pn sl bs,HpIn lo s p H N O tg pf pn sl bs
theorem HpIn.same{lo:Nat}{s s':St M}{p:Nat}{H:Hp}{N:Nat}{O:Nat→Prop}{tg:Nat→Nat}{pf pn:Nat}{sl:Value}{bs:List Nat}(h:HpIn lo s p H N O tg pf pn sl bs)(hn:s.next≤s'.next)(hs:∀ c,O c→s'.at' c=s.at' c):HpIn lo s' p H N O tg pf pn sl bs:=
 ⟨fun b hb=>⟨(h.own b hb).1,by have:=(h.own b hb).2;omega⟩,h.ok,h.tn,h.pin,by rw[hs _ h.pin.1];exact h.bl,h.row.same fun q n c e=>hs _ (h.rowO q n c e).1,h.rowO,h.fo.same hn fun b hb=>hs b hb.1,h.ta.same hn fun b hb=>hs b hb.1,h.len,fun i b o h1 h2=>(h.obj i b o h1 h2).same hn fun c hc=>hs c hc.1⟩
theorem HpIn.le{lo:Nat}{s s':St M}{p:Nat}{H:Hp}{N:Nat}{O:Nat→Prop}{tg:Nat→Nat}{pf pn:Nat}{sl:Value}{bs:List Nat}(h:HpIn lo s p H N O tg pf pn sl bs)(hs:s.le s'):HpIn lo s' p H N O tg pf pn sl bs:=h.same hs.1 fun c hc=>hs.2 c (h.own c hc).2
theorem HpIn.mono{lo:Nat}{s:St M}{p:Nat}{H:Hp}{N N':Nat}{O:Nat→Prop}{tg:Nat→Nat}{pf pn:Nat}{sl:Value}{bs:List Nat}(h:HpIn lo s p H N O tg pf pn sl bs)(hN:N≤N'):HpIn lo s p H N' O tg pf pn sl bs:=
 ⟨h.own,h.ok,by have:=h.tn;omega,h.pin,h.bl,h.row,h.rowO,h.fo,h.ta,h.len,fun i b o h1 h2=>(h.obj i b o h1 h2).mono hN⟩
theorem HpAt.same{lo:Nat}{s s':St M}{p:Nat}{H:Hp}{N:Nat}{O:Nat→Prop}(h:HpAt lo s p H N O)(hn:s.next≤s'.next)(hs:∀ c,O c→s'.at' c=s.at' c):HpAt lo s' p H N O:=by
 obtain⟨hp,tg,pf,pn,sl,bs,h⟩:=h
 exact⟨hp,tg,pf,pn,sl,bs,h.same hn hs⟩
theorem HpAt.own{lo:Nat}{s:St M}{p:Nat}{H:Hp}{N:Nat}{O:Nat→Prop}(h:HpAt lo s p H N O):∀ b,O b→lo≤b∧b<s.next:=by
 obtain⟨hp,tg,pf,pn,sl,bs,h⟩:=h
 exact h.own
theorem HpAt.ok{lo:Nat}{s:St M}{p:Nat}{H:Hp}{N:Nat}{O:Nat→Prop}(h:HpAt lo s p H N O):HOk H:=by
 obtain⟨hp,tg,pf,pn,sl,bs,h⟩:=h
 exact h.ok
theorem HpAt.fok{lo:Nat}{s:St M}{p:Nat}{H:Hp}{N:Nat}{O:Nat→Prop}(h:HpAt lo s p H N O):FOk H.F:=by
 obtain⟨hp,tg,pf,pn,sl,bs,h⟩:=h
 exact h.fo.ok
theorem HpAt.le{lo:Nat}{s s':St M}{p:Nat}{H:Hp}{N:Nat}{O:Nat→Prop}(h:HpAt lo s p H N O)(hs:s.le s'):HpAt lo s' p H N O:=h.same hs.1 fun c hc=>hs.2 c (h.own c hc).2
theorem HpAt.mono{lo:Nat}{s:St M}{p:Nat}{H:Hp}{N N':Nat}{O:Nat→Prop}(h:HpAt lo s p H N O)(hN:N≤N'):HpAt lo s p H N' O:=by
 obtain⟨hp,tg,pf,pn,sl,bs,h⟩:=h
 exact⟨hp,tg,pf,pn,sl,bs,h.mono hN⟩
def reO(O:Nat→Prop)(tg:Nat→Nat)(k:Nat)(O':Nat→Prop):Nat→Prop:=fun b=>(O b∧tg b≠k)∨O' b
open Classical in
noncomputable def reT (tg:Nat→Nat) (k:Nat) (O':Nat→Prop):Nat→Nat:=fun b=>if O' b then k else tg b
theorem re_same(O:Nat→Prop)(tg:Nat→Nat)(k:Nat)(O':Nat→Prop):(fun b=>reO O tg k O' b∧reT tg k O' b=k)=O':=by
 funext b
 apply propext
 unfold reO reT
 by_cases h:O' b
 ·simp[h]
 ·simp only[h,if_false,or_false,iff_false]
  rintro⟨⟨_,h2⟩,h3⟩
  exact h2 h3
theorem re_other{O:Nat→Prop}{tg:Nat→Nat}{k j n:Nat}{O':Nat→Prop}(hO:∀ b,O b→b<n)(h:∀ b,O' b→(O b∧tg b=k)∨n≤b)(hjk:j≠k):(fun b=>reO O tg k O' b∧reT tg k O' b=j)=fun b=>O b∧tg b=j:=by
 funext b
 apply propext
 unfold reO reT
 by_cases hb:O' b
 ·simp only[hb,or_true,if_true,true_and]
  constructor
  ·intro e;exact absurd e.symm hjk
  ·rintro⟨h1,h2⟩
   rcases h b hb with ⟨_,h3⟩|h3
   ·rw[h2]at h3;exact absurd h3 hjk
   ·have:=hO b h1;omega
 ·simp only[hb,or_false,if_false]
  constructor
  ·rintro⟨⟨h1,_⟩,h2⟩;exact⟨h1,h2⟩
  ·rintro⟨h1,h2⟩;exact⟨⟨h1,by rw[h2];exact hjk⟩,h2⟩
theorem re_own{O:Nat→Prop}{tg:Nat→Nat}{k lo n n':Nat}{O':Nat→Prop}(hO:∀ b,O b→lo≤b∧b<n)(hn:n≤n')(h:∀ b,O' b→lo≤b∧b<n'):∀ b,reO O tg k O' b→lo≤b∧b<n':=by
 intro b hb
 rcases hb with ⟨h1,_⟩|h1
 ·have:=hO b h1;omega
 ·exact h b h1
theorem re_upd{s s':St M}{O:Nat→Prop}{tg:Nat→Nat}{k:Nat}{O':Nat→Prop}(hU:Upd s s' (fun b=>O b∧tg b=k) O'):Upd s s' O (reO O tg k O'):=by
 refine⟨hU.next,fun b hb ho=>hU.keep b hb fun h=>ho h.1,fun b hb=>?_⟩
 rcases hb with ⟨h1,_⟩|h1
 ·exact .inl h1
 ·rcases hU.own b h1 with h|h
  ·exact .inl h.1
  ·exact .inr h
theorem re_keep{s s':St M}{O:Nat→Prop}{tg:Nat→Nat}{k:Nat}{O':Nat→Prop}{lo:Nat}(hO:∀ b,O b→lo≤b∧b<s.next)(hU:Upd s s' (fun b=>O b∧tg b=k) O'):∀ b,O b→tg b≠k→s'.at' b=s.at' b:=
 fun b hb ht=>hU.keep b (hO b hb).2 fun h=>ht h.2
theorem re_tag{O:Nat→Prop}{tg:Nat→Nat}{k j n b:Nat}{O':Nat→Prop}(hO:∀ b,O b→b<n)(h:∀ b,O' b→(O b∧tg b=k)∨n≤b)(hjk:j≠k)(hb:O b∧tg b=j):reO O tg k O' b∧reT tg k O' b=j:=by
 have:=congrFun (re_other hO h hjk) b
 exact this.mpr hb
theorem HpIn.newF{lo:Nat}{s s':St M}{p:Nat}{H:Hp}{N:Nat}{O O':Nat→Prop}{tg:Nat→Nat}{pf pn:Nat}{sl:Value}{bs:List Nat}{F':List Sh}(h:HpIn lo s p H N O tg pf pn sl bs)(hU:Upd s s' (fun b=>O b∧tg b=1) O')(hF:FAt lo s' pf F' H.most O')(hok:HOk { H with F:=F' }) :
  HpIn lo s' p { H with F:=F' } N (reO O tg 1 O') (reT tg 1 O') pf pn sl bs:=by
 have hO:∀ b,O b→b<s.next:=fun b hb=>(h.own b hb).2
 have hw:∀ b,O' b→(O b∧tg b=1)∨s.next≤b:=hU.own
 have hk:=re_keep h.own hU
 refine⟨re_own h.own hU.next hF.own,hok,h.tn,re_tag hO hw oM h.pin,?_,h.row.same fun q n c e=>?_,fun q n c e=>?_,?_,?_,h.len,fun i b o h1 h2=>?_⟩
 ·rw[hk p h.pin.1 (by rw[h.pin.2];omega)];exact h.bl
 ·have:=h.rowO q n c e
  exact hk _ this.1 (by rw[this.2.1];omega)
 ·have:=h.rowO q n c e
  have h2:=re_tag hO hw (j:=0) oM ⟨this.1,this.2.1⟩
  exact⟨h2.1,h2.2,this.2.2⟩
 ·rw[re_same];exact hF
 ·rw[re_other hO hw oM]
  exact h.ta.same hU.next fun b hb=>hk b hb.1 (by rw[hb.2];omega)
 ·rw[re_other hO hw oM]
  exact (h.obj i b o h1 h2).same hU.next fun c hc=>hk c hc.1 (by rw[hc.2];omega)
theorem HpIn.newT{lo:Nat}{s s':St M}{p:Nat}{H:Hp}{N:Nat}{O O':Nat→Prop}{tg:Nat→Nat}{pf pn:Nat}{sl:Value}{bs:List Nat}{T':List ByteArray}(h:HpIn lo s p H N O tg pf pn sl bs)(hU:Upd s s' (fun b=>O b∧tg b=2) O')(hT:TabAt lo s' pn T' O')(hok:HOk { H with T:=T' })(hTN:T'.length≤N) :
  HpIn lo s' p { H with T:=T' } N (reO O tg 2 O') (reT tg 2 O') pf pn sl bs:=by
 have hO:∀ b,O b→b<s.next:=fun b hb=>(h.own b hb).2
 have hw:∀ b,O' b→(O b∧tg b=2)∨s.next≤b:=hU.own
 have hk:=re_keep h.own hU
 refine⟨re_own h.own hU.next hT.own,hok,hTN,re_tag hO hw oM h.pin,?_,h.row.same fun q n c e=>?_,fun q n c e=>?_,?_,?_,h.len,fun i b o h1 h2=>?_⟩
 ·rw[hk p h.pin.1 (by rw[h.pin.2];omega)];exact h.bl
 ·have:=h.rowO q n c e
  exact hk _ this.1 (by rw[this.2.1];omega)
 ·have:=h.rowO q n c e
  have h2:=re_tag hO hw (j:=0) oM ⟨this.1,this.2.1⟩
  exact⟨h2.1,h2.2,this.2.2⟩
 ·rw[re_other hO hw oM]
  exact h.fo.same hU.next fun b hb=>hk b hb.1 (by rw[hb.2];omega)
 ·rw[re_same];exact hT
 ·rw[re_other hO hw oM]
  exact (h.obj i b o h1 h2).same hU.next fun c hc=>hk c hc.1 (by rw[hc.2];omega)
theorem HpIn.newO{lo:Nat}{s s':St M}{p:Nat}{H:Hp}{N:Nat}{O O':Nat→Prop}{tg:Nat→Nat}{pf pn:Nat}{sl:Value}{bs:List Nat}{j b:Nat}{o':Ob}(h:HpIn lo s p H N O tg pf pn sl bs)(hj:j<H.obs.length)(hb:bs[j]?=some b)(hU:Upd s s' (fun b=>O b∧tg b=j+3) O')(hB:ObAt lo s' N b o' O')(hok:HOk { H with obs:=H.obs.set j o' }) :
  HpIn lo s' p { H with obs:=H.obs.set j o' } N (reO O tg (j+3) O') (reT tg (j+3) O') pf pn sl bs:=by
 have hO:∀ b,O b→b<s.next:=fun b hb=>(h.own b hb).2
 have hw:∀ b,O' b→(O b∧tg b=j+3)∨s.next≤b:=hU.own
 have hk:=re_keep h.own hU
 refine⟨re_own h.own hU.next hB.own,hok,h.tn,re_tag hO hw oM h.pin,?_,h.row.same fun q n c e=>?_,fun q n c e=>?_,?_,?_,by simpa using h.len,fun i b2 o h1 h2=>?_⟩
 ·rw[hk p h.pin.1 (by rw[h.pin.2];omega)];exact h.bl
 ·have:=h.rowO q n c e
  exact hk _ this.1 (by rw[this.2.1];omega)
 ·have:=h.rowO q n c e
  have h2:=re_tag hO hw (j:=0) oM ⟨this.1,this.2.1⟩
  exact⟨h2.1,h2.2,this.2.2⟩
 ·rw[re_other hO hw oM]
  exact h.fo.same hU.next fun b hb=>hk b hb.1 (by rw[hb.2];omega)
 ·rw[re_other hO hw oM]
  exact h.ta.same hU.next fun b hb=>hk b hb.1 (by rw[hb.2];omega)
 ·by_cases e:j=i
  ·subst e
   rw[hb]at h1
   cases h1
   simp only[List.getElem?_set,if_true,hj]at h2
   cases h2
   rw[re_same];exact hB
  ·simp only[List.getElem?_set,e,if_false]at h2
   rw[re_other hO hw oM]
   exact (h.obj i b2 o h1 h2).same hU.next fun c hc=>hk c hc.1 (by rw[hc.2];omega)
theorem HpIn.at{lo:Nat}{s:St M}{p:Nat}{H:Hp}{N:Nat}{O:Nat→Prop}{tg:Nat→Nat}{pf pn:Nat}{sl:Value}{bs:List Nat}(h:HpIn lo s p H N O tg pf pn sl bs){j:Nat}{o:Ob}(ho:H.obs[j]?=some o):∃ b,bs[j]?=some b∧ObAt lo s N b o (fun c=>O c∧tg c=j+3):=by
 have hj:=(List.getElem?_eq_some_iff.1 ho).1
 have hb:bs[j]?=some (bs[j]'(by have:=h.len;omega)):=List.getElem?_eq_getElem _
 exact⟨_,hb,h.obj j _ o hb ho⟩
end
end Go.Proofs.Tryz
namespace Go.Proofs.Tryz
open Go.Cs
open Go.RowKit (Below)
set_option maxRecDepth 100000
attribute [local irreducible] QC WLoop WScope CRound WRange
section
variable {M:Type}[Mem M]{w0:World}{s:St M}{R:Value→St M→Prop}{lo p N pf pn:Nat}{H:Hp}{O:Nat→Prop}{tg:Nat→Nat}{sl:Value}{bs:List Nat}
theorem hdead_spec(h:HpIn lo s p H N O tg pf pn sl bs)(hR:R (.bool false) s):QC Tryz.prog w0 133 #[.pointer (some ⟨p,0,none⟩)] s R:=by
 refine wfun2 hmix ok133 func133 rfl ntmps133 results133 (by simp) ?_
 have hb:=h.bl
 simp only[↓Zd,Zp,simprocAttr,cld2,HEx,hb]
 exact hR
theorem hfind_spec(h:HpIn lo s p H N O tg pf pn sl bs){i:Int}(hi : -9223372036854775808≤i∧i≤9223372036854775807)
  (hno:obAt H i=none→R (.pointer none) s)(hyes:∀ (j b:Nat) (o:Ob),i=((j+1:Nat):Int)→bs[j]?=some b→H.obs[j]?=some o→obAt H i=some o→R (.pointer (some ⟨b,0,none⟩)) s) :
  QC Tryz.prog w0 160 #[.pointer (some ⟨p,0,none⟩),.int .i64 i] s R:=by
 refine wfun2 hmix ok160 func160 rfl ntmps160 results160 (by simp) ?_
 have hb:=h.bl
 have hl:=h.len
 by_cases i1:i<1
 ·simp only[↓Zd,Zp,simprocAttr,HEx,i1]
  exact hno (obAt_none.2 oM)
 ·have i2:0<i:=oM
  rcases h.row with ⟨h0,_,rfl⟩|⟨b0,junk,rfl,hb0,_⟩
  ·simp only[↓Zd,Zp,simprocAttr,cld2,HEx,hb,i1,i2]
   exact hno (obAt_none.2 oM)
  ·by_cases i3:(bs.length:Int)<i
   ·simp only[↓Zd,Zp,simprocAttr,cld2,HEx,hb,i1,i3]
    exact hno (obAt_none.2 oM)
   ·obtain⟨j,rfl⟩:∃ j:Nat,i=((j+1:Nat):Int):=⟨(i - 1).toNat,oM⟩
    have w1:IntKind.i64.wrap (((j+1:Nat):Int) - 1)=(j:Int):=by rw[wrap_i64 oM];omega
    have hj:(0:Int)≤(j:Int)∧(j:Int)<(bs.length:Int):=oM
    have hg:bs[j]?=some (bs[j]'oM):=List.getElem?_eq_getElem _
    have ho:H.obs[j]?=some (H.obs[j]'oM):=List.getElem?_eq_getElem _
    have hgc:=ptrs_get junk hg
    simp only[↓Zd,Zp,simprocAttr,cld2,HEx,hb,i1,i3,w1,hj,hb0,hgc]
    exact hyes j _ _ rfl hg ho (by rw[obAt_get,ho])
theorem hlen_spec(h:HpIn lo s p H N O tg pf pn sl bs)(hR:R (.int .i64 (H.obs.length:Int)) s):QC Tryz.prog w0 126 #[.pointer (some ⟨p,0,none⟩)] s R:=by
 refine wfun2 hmix ok126 func126 rfl ntmps126 results126 (by simp) ?_
 have hb:=h.bl
 have hl:=h.len
 rcases h.row with ⟨h0,_,rfl⟩|⟨b0,junk,rfl,hb0,_⟩
 ·have:H.obs.length=0:=oM
  rw[this]at hR
  simp only[↓Zd,Zp,simprocAttr,cld2,HEx,hb]
  exact hR
 ·rw[← hl]at hR
  simp only[↓Zd,Zp,simprocAttr,cld2,HEx,hb]
  exact hR
theorem ObAt.cells{b:Nat}{o:Ob}{OO:Nat→Prop}(h:ObAt lo s N b o OO):∃ t v,s.at' b=some (.cells [.iface t v,.int .i64 (o.proto:Int),.int .i64 (o.epoch:Int)] 184 true):=by
 rcases h.bl with ⟨_,pd,OD,h1,_⟩|⟨_,ps,sl,h1,_⟩
 ·exact⟨_,_,h1⟩
 ·exact⟨_,_,h1⟩
def protoV(H:Hp)(i:Int):Int:=match obAt H i with
 |some o=>(o.proto:Int)
 |none=>0
def epochV(H:Hp)(i:Int):Int:=match obAt H i with
 |some o=>(o.epoch:Int)
 |none=>0
def countV(H:Hp)(i:Int):Int:=match obAt H i with
 |some o=>(o.L.length:Int)
 |none=>0
theorem hproto_spec(h:HpIn lo s p H N O tg pf pn sl bs){i:Int}(hi : -9223372036854775808≤i∧i≤9223372036854775807)(hR:R (.int .i64 (protoV H i)) s):QC Tryz.prog w0 127 #[.pointer (some ⟨p,0,none⟩),.int .i64 i] s R:=by
 refine wfun2 hmix ok127 func127 rfl ntmps127 results127 (by simp) ?_
 unfold protoV at hR
 simp only[↓Zd,Zp,simprocAttr,co160]
 refine hfind_spec h hi (fun hno=>?_) (fun j b o hij hb ho hat=>?_)
 ·rw[hno]at hR
  simp only[↓Zd,Zp,simprocAttr,HEx]
  exact hR
 ·rw[hat]at hR
  obtain⟨t,v,hc⟩:=(h.obj j b o hb ho).cells
  simp only[↓Zd,Zp,simprocAttr,cld2,HEx,hc]
  exact hR
theorem hepoch_spec(h:HpIn lo s p H N O tg pf pn sl bs){i:Int}(hi : -9223372036854775808≤i∧i≤9223372036854775807)(hR:R (.int .i64 (epochV H i)) s):QC Tryz.prog w0 156 #[.pointer (some ⟨p,0,none⟩),.int .i64 i] s R:=by
 refine wfun2 hmix ok156 func156 rfl ntmps156 results156 (by simp) ?_
 unfold epochV at hR
 simp only[↓Zd,Zp,simprocAttr,co160]
 refine hfind_spec h hi (fun hno=>?_) (fun j b o hij hb ho hat=>?_)
 ·rw[hno]at hR
  simp only[↓Zd,Zp,simprocAttr,HEx]
  exact hR
 ·rw[hat]at hR
  obtain⟨t,v,hc⟩:=(h.obj j b o hb ho).cells
  simp only[↓Zd,Zp,simprocAttr,cld2,HEx,hc]
  exact hR
theorem hslotof_spec(h:HpIn lo s p H N O tg pf pn sl bs){i:Int}{x:ByteArray}(hi : -9223372036854775808≤i∧i≤9223372036854775807)(hR:∀ s',s.le s'→R (.int .i64 (slotOf H i x)) s') :
  QC Tryz.prog w0 159 #[.pointer (some ⟨p,0,none⟩),.int .i64 i,.string x] s R:=by
 refine wfun2 hmix ok159 func159 rfl ntmps159 results159 (by simp) ?_
 have hb:=h.bl
 unfold slotOf at hR
 simp only[↓Zd,Zp,simprocAttr,co133]
 refine hdead_spec h ?_
 simp only[↓Zd,Zp,simprocAttr,cld2,HEx,hb,co219]
 refine find_spec h.ta ?_
 cases hx:idxOf H.T x with
 |none =>
  rw[hx]at hR
  simp only[↓Zd,Zp,simprocAttr,HEx]
  exact hR _ (lR _)
 |some j =>
  rw[hx]at hR
  simp only[↓Zd,Zp,simprocAttr,cld2,HEx,hb,co220]
  refine fslot_spec h.fo hi fun s1 hs1=>?_
  simp only[↓Zd,Zp,simprocAttr,HEx]
  exact hR _ hs1
theorem sget_spec(h:HpIn lo s p H N O tg pf pn sl bs){j ps:Nat}{o:Ob}{sv:Value}{x:ByteArray}(ho:H.obs[j]?=some o)(hs0:0<o.shape)(hps:s.at' ps=some (.cells [.int .i64 (o.shape:Int),sv] 187 true))(hpn:ps<s.next)(hsv:SlU 31 3 s sv (valsC o.L) o.L.length)(hsn:∀ q n c,sv = .slice (some q) n c→q.block<s.next)
  (hR:∀ s',s.le s'→R (gotV (getP o.L x)) s'):QC Tryz.prog w0 221 #[.pointer (some ⟨ps,0,none⟩),.pointer (some ⟨p,0,none⟩),.string x] s R:=by
 refine wfun2 hmix ok221 func221 rfl ntmps221 results221 (by simp) ?_
 have hne:¬ ps=s.next:=oM
 have hF12:o.shape≤150:=by
  obtain⟨q0,l,h1,_⟩:=h.ok.fits j o ho hs0
  have:=(List.getElem?_eq_some_iff.1 h1).1
  have:=h.fo.le
  omega
 have hm:o.L.length≤32:=by have:=h.ok.lens j o ho;have:=h.ok.lim;omega
 simp only[↓Zd,Zp,Zs,simprocAttr,HEx,hps,hne,co159]
 refine hslotof_spec (i:=(o.shape:Int)) (h.le (lN (lR _))) oM fun s1 hs1=>?_
 have hn1:=hs1.1
 simp only[nN]at hn1
 have k1:∀ c,c<s.next→s1.at' c=s.at' c:=fun c hc=>by rw[hs1.2 c (by simp only[nN];omega),aN,if_neg oM]
 have e1:s1.at' s.next=some (.cells [.int .i64 0,.int .i64 0,.string ⟨#[]⟩] 31 true):=by rw[hs1.2 _ (by simp only[nN];omega),aN,if_pos rfl]
 rcases slot_fits h.ok ho hs0 x with ⟨g1,g2⟩|⟨k,v,g1,g2,g3⟩
 ·rw[g2]at hR
  rw[g1]
  simp only[↓Zd,Zp,Zs,simprocAttr,HEx,e1]
  exact hR _ (lP (lT (lN (lR _)) hs1) oM)
 ·rw[g3]at hR
  rw[g1]
  have hk0:¬ (k:Int)<0:=oM
  have hkl:=(List.getElem?_eq_some_iff.1 g2).1
  rcases hsv with ⟨e0,_⟩|⟨b,junk,rfl,hb,_⟩
  ·omega
  have hps1:s1.at' ps=some (.cells [.int .i64 (o.shape:Int),.slice (some ⟨b,0,none⟩) o.L.length UNK] 187 true):=by rw[k1 ps hpn];exact hps
  have hb1:s1.at' b=some (.cells (valsC o.L++junk) 31 true):=by rw[k1 b (hsn _ _ _ rfl)];exact hb
  have hbn:¬ b=s.next:=by have:=hsn _ _ _ rfl;simp only at this;omega
  obtain⟨c1,c2⟩:=valsC_cut o.L k x v junk g2
  have hkk:(0:Int)≤(k:Int)∧(k:Int)<(o.L.length:Int):=oM
  simp only[↓Zd,Zp,Zs,simprocAttr,HEx,e1,hk0,hps1,hkk,hb1,c1,c2]
  exact hR _ (lP (lT (lN (lR _)) hs1) oM)
theorem lget_spec{pd:Nat}{L:List (ByteArray×V3)}{OD:Nat→Prop}{hp:Value}{x:ByteArray}(hD:DictAt lo s pd L N OD)(hR:∀ s',s.le s'→R (gotV (getP L x)) s') :
  QC Tryz.prog w0 222 #[.agg #[.pointer (some ⟨pd,0,none⟩)],hp,.string x] s R:=by
 refine wfun2 hmix ok222 func222 rfl ntmps222 results222 (by simp) ?_
 have hn:¬ s.next=s.next+1:=oM
 simp only[↓Zd,Zp,Zs,simprocAttr,HEx,hn,co269]
 refine dget_spec (hD.same (s':=((s.new _).new _)) (by simp only[nN];omega) fun b hb=>by have:=(hD.own b hb).2;rw[aN,if_neg (by simp only[nN];omega),aN,if_neg oM]) fun s1 hs1=>?_
 have hn1:=hs1.1
 simp only[nN]at hn1
 have e1:s1.at' (s.next+1)=some (.cells [.int .i64 0,.int .i64 0,.string ⟨#[]⟩] 31 true):=by rw[hs1.2 _ (by simp only[nN];omega),aN,if_pos (by simp only[nN])]
 cases hg:getP L x with
 |none =>
  rw[hg]at hR
  unfold gotV at *
  simp only[↓Zd,Zp,Zs,simprocAttr,HEx,vA,e1]
  exact hR _ (lP (lT (lN (lN (lR _))) hs1) oM)
 |some v =>
  rw[hg]at hR
  obtain⟨a,b,c⟩:=v
  unfold gotV vOf at *
  simp only[↓Zd,Zp,Zs,simprocAttr,HEx,vA,e1]
  exact hR _ (lP (lT (lN (lN (lR _))) hs1) oM)
theorem hown0_spec(h:HpIn lo s p H N O tg pf pn sl bs){j b:Nat}{o:Ob}{x:ByteArray}(hb:bs[j]?=some b)(ho:H.obs[j]?=some o)
  (hR:∀ s',s.le s'→R (gotV (getP o.L x)) s'):QC Tryz.prog w0 161 #[.pointer (some ⟨p,0,none⟩),.pointer (some ⟨b,0,none⟩),.string x] s R:=by
 refine wfun2 hmix ok161 func161 rfl ntmps161 results161 (by simp) ?_
 have hB:=h.obj j b o hb ho
 have hbn:=(hB.own b hB.pin).2
 have hne:¬ b=s.next:=oM
 rcases hB.bl with ⟨h0,pd,OD,h1,h2,h3⟩|⟨h0,ps,sv,h1,h2,h3,h4,h5,h6⟩
 ·have hn:¬ s.next=s.next+1:=oM
  simp only[↓Zd,Zp,Zs,simprocAttr,HEx,h1,hne,co222]
  refine lget_spec (h2.same (s':=((s.new _).new _).put (s.next+1) _) (by simp only[Sn];omega) fun b hb=>by have:=(h2.own b hb).2;rw[aP,if_neg oM,aN,if_neg (by simp only[nN];omega),aN,if_neg oM]) fun s1 hs1=>?_
  have hn1:=hs1.1
  simp only[Sn]at hn1
  have e1:s1.at' s.next=some (.cells [.int .i64 0,.int .i64 0,.string ⟨#[]⟩] 31 true):=by rw[hs1.2 _ (by simp only[Sn];omega),aP,if_neg oM,aN,if_neg (by simp only[nN];omega),aN,if_pos rfl]
  have hle:s.le s1:=lT (lP (lN (lN (lR _))) oM) hs1
  cases hg:getP o.L x with
  |none =>
   rw[hg]at hR
   unfold gotV at *
   simp only[↓Zd,Zp,Zs,simprocAttr,HEx,vA,e1]
   exact hR _ (lP hle oM)
  |some v =>
   rw[hg]at hR
   obtain⟨a,b,c⟩:=v
   unfold gotV vOf at *
   simp only[↓Zd,Zp,Zs,simprocAttr,HEx,vA,e1]
   exact hR _ (lP hle oM)
 ·simp only[↓Zd,Zp,Zs,simprocAttr,HEx,h1,hne,co221]
  have hpsn:=(hB.own ps h3).2
  refine sget_spec (ps:=ps) (h.le (lN (lR _))) ho h0 (by rw[aN,if_neg oM];exact h2) (by simp only[nN];omega) (h5.same fun q n c e=>by have:=(hB.own _ (h6 q n c e).1).2;rw[aN,if_neg oM]) (fun q n c e=>by have:=(hB.own _ (h6 q n c e).1).2;simp only[nN];omega) fun s1 hs1=>?_
  have hn1:=hs1.1
  simp only[nN]at hn1
  have e1:s1.at' s.next=some (.cells [.int .i64 0,.int .i64 0,.string ⟨#[]⟩] 31 true):=by rw[hs1.2 _ (by simp only[nN];omega),aN,if_pos rfl]
  have hle:s.le s1:=lT (lN (lR _)) hs1
  cases hg:getP o.L x with
  |none =>
   rw[hg]at hR
   unfold gotV at *
   simp only[↓Zd,Zp,Zs,simprocAttr,HEx,vA,e1]
   exact hR _ (lP hle oM)
  |some v =>
   rw[hg]at hR
   obtain⟨a,b,c⟩:=v
   unfold gotV vOf at *
   simp only[↓Zd,Zp,Zs,simprocAttr,HEx,vA,e1]
   exact hR _ (lP hle oM)
end
end Go.Proofs.Tryz
namespace Go.Proofs.Tryz
open Go.Cs
open Go.RowKit (Below)
set_option maxRecDepth 100000
attribute [local irreducible] QC WLoop WScope CRound WRange
inductive GetR (H:Hp) (x:ByteArray):Int→V3→Prop
 |none {i:Int}(h:obAt H i=none):GetR H x i (0,0,⟨#[]⟩)
 |own {i:Int}{o:Ob}{v:V3}(h:obAt H i=some o) (hv:getP o.L x=some v):GetR H x i v
 |up {i:Int}{o:Ob}{v:V3}(h:obAt H i=some o) (hv:getP o.L x=none) (hu:GetR H x o.proto v):GetR H x i v
theorem GetR.one{H:Hp}{x:ByteArray}{i:Int}{v w:V3}(h1:GetR H x i v)(h2:GetR H x i w):v=w:=by
 induction h1 with
 |none h=>cases h2 with
  |none _=>rfl
  |own h' _=>rw[h]at h';cases h'
  |up h' _ _=>rw[h]at h';cases h'
 |own h hv=>cases h2 with
  |none h'=>rw[h]at h';cases h'
  |own h' hv'=>rw[h]at h';cases h';rw[hv]at hv';cases hv';rfl
  |up h' hv' _=>rw[h]at h';cases h';rw[hv]at hv';cases hv'
 |up h hv _ ih=>cases h2 with
  |none h'=>rw[h]at h';cases h'
  |own h' hv'=>rw[h]at h';cases h';rw[hv]at hv';cases hv'
  |up h' _ hu'=>rw[h]at h';cases h';exact ih hu'
section
variable {M:Type}[Mem M]{w0:World}{s:St M}{R:Value→St M→Prop}{lo p N pf pn:Nat}{H:Hp}{O:Nat→Prop}{tg:Nat→Nat}{sl:Value}{bs:List Nat}
theorem hcount0_spec{b:Nat}{o:Ob}{OO:Nat→Prop}(hB:ObAt lo s N b o OO)
  (hR:∀ s',s.le s'→R (.int .i64 (o.L.length:Int)) s'):QC Tryz.prog w0 163 #[.pointer (some ⟨b,0,none⟩)] s R:=by
 refine wfun2 hmix ok163 func163 rfl ntmps163 results163 (by simp) ?_
 have hbn:=(hB.own b hB.pin).2
 have hne:¬ b=s.next:=oM
 rcases hB.bl with ⟨h0,pd,OD,h1,h2,h3⟩|⟨h0,ps,sv,h1,h2,h3,h4,h5,h6⟩
 ·simp only[↓Zd,Zp,Zs,simprocAttr,HEx,h1,co224]
  refine wfun2 hmix ok224 func224 rfl ntmps224 results224 (by simp) ?_
  have hn:¬ s.next+1=s.next:=oM
  simp only[↓Zd,Zp,Zs,simprocAttr,HEx,co270]
  refine dlen_spec (h2.same (s':=((s.new _).put s.next _).new _) (by simp only[Sn];omega) fun b hb=>by have:=(h2.own b hb).2;rw[aN,if_neg (by simp only[Sn];omega),aP,if_neg oM,aN,if_neg oM]) ?_
  simp only[↓Zd,Zp,simprocAttr,HEx]
  exact hR _ oL
 ·simp only[↓Zd,Zp,simprocAttr,cld2,HEx,h1,co223]
  refine wfun2 hmix ok223 func223 rfl ntmps223 results223 (by simp) ?_
  rcases h5 with ⟨e0,_,rfl⟩|⟨b2,junk,rfl,_⟩
  ·rw[e0]at hR
   simp only[↓Zd,Zp,simprocAttr,cld2,HEx,h2]
   exact hR _ (lR _)
  ·simp only[↓Zd,Zp,simprocAttr,cld2,HEx,h2]
   exact hR _ (lR _)
theorem hcount_spec(h:HpIn lo s p H N O tg pf pn sl bs){i:Int}(hi : -9223372036854775808≤i∧i≤9223372036854775807)(hR:∀ s',s.le s'→R (.int .i64 (countV H i)) s'):QC Tryz.prog w0 128 #[.pointer (some ⟨p,0,none⟩),.int .i64 i] s R:=by
 refine wfun2 hmix ok128 func128 rfl ntmps128 results128 (by simp) ?_
 unfold countV at hR
 simp only[↓Zd,Zp,simprocAttr,co160]
 refine hfind_spec h hi (fun hno=>?_) (fun j b o hij hb ho hat=>?_)
 ·rw[hno]at hR
  simp only[↓Zd,Zp,simprocAttr,HEx]
  exact hR _ (lR _)
 ·rw[hat]at hR
  simp only[↓Zd,Zp,simprocAttr,HEx,co163]
  refine hcount0_spec (h.obj j b o hb ho) fun s1 hs1=>?_
  simp only[↓Zd,Zp,simprocAttr,HEx]
  exact hR _ hs1
theorem keyV_fits(h:HOk H)(hF:FOk H.F){j:Nat}{o:Ob}(ho:H.obs[j]?=some o)(hs:0<o.shape){k:Nat}(hk:k<o.L.length) :
  (namesOf H.F (o.shape:Int)).length=o.L.length∧∃ n,(namesOf H.F (o.shape:Int)).reverse[k]?=some n∧txtV H.T (n:Int)=keyV o.L (k:Int):=by
 obtain⟨q0,l,h1,h2⟩:=h.fits j o ho hs
 rw[namesOf_at hs h1]
 have hl:l.length=o.L.length:=by
  have:=congrArg List.length h2
  simpa using this
 refine⟨hl,l.reverse[k]'(by simp;omega),List.getElem?_eq_getElem _,?_⟩
 generalize hn:l.reverse[k]'(by simp;omega)=n
 have hm:n∈l:=by
  have:n∈l.reverse:=by rw[← hn];exact List.getElem_mem _
  simpa using this
 obtain⟨g1,g2⟩:=h.ids _ _ h1 n hm
 have hx:txt H.T n=(o.L[k]).1:=by
  have:(l.reverse.map (txt H.T))[k]?=(o.L.map (·.1))[k]?:=by rw[h2]
  rw[List.getElem?_map,List.getElem?_map,List.getElem?_eq_getElem (by simp;omega),List.getElem?_eq_getElem hk,hn]at this
  simpa using this
 unfold txtV keyV
 rw[if_pos oM,if_pos oM]
 simp only[Int.toNat_natCast]
 rw[List.getD_eq_getElem?_getD (l:=o.L),List.getElem?_eq_getElem hk]
 simp only[Option.getD_some]
 rw[← hx]
 rfl
theorem hkey_spec(h:HpIn lo s p H N O tg pf pn sl bs){i k:Int}(hN:N≤1000000)(hi : -9223372036854775808≤i∧i≤9223372036854775807)(hk : -9223372036854775808≤k∧k≤9223372036854775807)
  (hR:∀ s',s.le s'→R (match obAt H i with|some o=>keyV o.L k|none => .tuple #[.string ⟨#[]⟩,.bool false]) s'):QC Tryz.prog w0 129 #[.pointer (some ⟨p,0,none⟩),.int .i64 i,.int .i64 k] s R:=by
 refine wfun2 hmix ok129 func129 rfl ntmps129 results129 (by simp) ?_
 simp only[↓Zd,Zp,simprocAttr,co160]
 refine hfind_spec h hi (fun hno=>?_) (fun j b o hij hb ho hat=>?_)
 ·rw[hno]at hR
  simp only[↓Zd,Zp,simprocAttr,HEx]
  exact hR _ (lR _)
 ·rw[hat]at hR
  simp only at hR
  have hB:=h.obj j b o hb ho
  have hbn:=(hB.own b hB.pin).2
  have hne:¬ b=s.next:=oM
  rcases hB.bl with ⟨h0,pd,OD,h1,h2,h3⟩|⟨h0,ps,sv,h1,h2,h3,h4,h5,h6⟩
  ·simp only[↓Zd,Zp,Zs,simprocAttr,HEx,h1,co200]
   refine wfun2 hmix ok200 func200 rfl ntmps200 results200 (by simp) ?_
   have hn:¬ s.next+1=s.next:=oM
   simp only[↓Zd,Zp,Zs,simprocAttr,HEx,co261]
   refine dkey_spec (h2.same (s':=((s.new _).put s.next _).new _) (by simp only[Sn];omega) fun b hb=>by have:=(h2.own b hb).2;rw[aN,if_neg (by simp only[Sn];omega),aP,if_neg oM,aN,if_neg oM]) hN hk fun s1 hs1=>?_
   have hle:s.le s1:=lT (lN (lP (lN (lR _)) oM)) hs1
   unfold keyV at *
   split at hR
   ·rename_i hc
    simp only[if_pos hc]
    simp only[↓Zd,Zp,simprocAttr,HEx]
    exact hR _ hle
   ·rename_i hc
    simp only[if_neg hc]
    simp only[↓Zd,Zp,simprocAttr,HEx]
    exact hR _ hle
  ·simp only[↓Zd,Zp,simprocAttr,cld2,HEx,h1,co199]
   refine wfun2 hmix ok199 func199 rfl ntmps199 results199 (by simp) ?_
   have hpsn:=(hB.own ps h3).2
   have hhb:=h.bl
   have hF12:o.shape≤150:=by
    obtain⟨q0,l,h1,_⟩:=h.ok.fits j o ho h0
    have:=(List.getElem?_eq_some_iff.1 h1).1
    have:=h.fo.le
    omega
   have hm:o.L.length≤32:=by have:=h.ok.lens j o ho;have:=h.ok.lim;omega
   have hNl:(namesOf H.F (o.shape:Int)).length=o.L.length:=by
    obtain⟨q0,l,g1,g2⟩:=h.ok.fits j o ho h0
    rw[namesOf_at h0 g1]
    have:=congrArg List.length g2
    simpa using this
   simp only[↓Zd,Zp,simprocAttr,cld2,HEx,hhb,h2,ord199,co259]
   refine fnames_spec h.fo oM fun s1 sn hs1 hsn hsb=>?_
   rw[hNl]at hsn
   have hn1:=hs1.1
   have hb1:s1.at' p=_:=(hs1.2 p (h.own p h.pin.1).2).trans hhb
   obtain⟨an,cn,rfl⟩:∃ a c,sn = .slice a o.L.length c:=by
    rcases hsn with ⟨e1,_,rfl⟩|⟨b2,junk,rfl,_⟩
    ·exact⟨none,0,by rw[e1]⟩
    ·exact⟨_,_,rfl⟩
   by_cases k1:k<0
   ·have hkV:keyV o.L k = .tuple #[.string ⟨#[]⟩,.bool false]:=by unfold keyV;rw[if_neg oM]
    rw[hkV]at hR
    simp only[↓Zd,Zp,simprocAttr,underlying88,k1]
    exact hR _ hs1
   ·by_cases k2:(o.L.length:Int)≤k
    ·have hkV:keyV o.L k = .tuple #[.string ⟨#[]⟩,.bool false]:=by unfold keyV;rw[if_neg oM]
     rw[hkV]at hR
     simp only[↓Zd,Zp,simprocAttr,underlying88,k1,k2]
     exact hR _ hs1
    ·obtain⟨m,rfl⟩:∃ m:Nat,k=(m:Int):=⟨k.toNat,oM⟩
     obtain⟨_,n,g1,g2⟩:=keyV_fits h.ok h.fo.ok ho h0 (k:=m) oM
     rw[← g2]at hR
     have hnT:1≤n∧n≤H.T.length:=by
      have hm2:=List.mem_of_getElem? g1
      obtain⟨q0,l,q1,q2⟩:=h.ok.fits j o ho h0
      rw[namesOf_at h0 q1]at hm2
      exact h.ok.ids _ _ q1 n (by simpa using hm2)
     have htn:=h.tn
     rcases hsn with ⟨e0,_⟩|⟨b2,junk,e2,hb2,_⟩
     ·omega
     cases e2
     have hkk:(0:Int)≤(m:Int)∧(m:Int)<(o.L.length:Int):=oM
     have hg:=ints_get (l:=(namesOf H.F (o.shape:Int)).reverse) (k:=m) junk (by simp;omega)
     have hgn:(namesOf H.F (o.shape:Int)).reverse[m]'(by simp;omega)=n:=(List.getElem?_eq_some_iff.1 g1).2
     rw[hgn]at hg
     simp only[↓Zd,Zp,simprocAttr,cld2,HEx,underlying88,k1,k2,hb1,hb2,hkk,hg,co260]
     refine text_spec oM ((h.le hs1).ta) ?_
     unfold txtV at *
     split at hR
     ·rename_i hc
      simp only[if_pos hc]
      simp only[↓Zd,Zp,simprocAttr,HEx]
      exact hR _ hs1
     ·rename_i hc
      simp only[if_neg hc]
      simp only[↓Zd,Zp,simprocAttr,HEx]
      exact hR _ hs1
theorem hown_spec(h:HpIn lo s p H N O tg pf pn sl bs){i:Int}{x:ByteArray}(hi : -9223372036854775808≤i∧i≤9223372036854775807)
  (hR:∀ s',s.le s'→R (gotV ((obAt H i).bind fun o=>getP o.L x)) s'):QC Tryz.prog w0 130 #[.pointer (some ⟨p,0,none⟩),.int .i64 i,.string x] s R:=by
 refine wfun2 hmix ok130 func130 rfl ntmps130 results130 (by simp) ?_
 have l1:s.le (s.new (.cells [.int .i64 0,.int .i64 0,.string ⟨#[]⟩] 31 true)):=lN (lR _)
 simp only[↓Zd,Zp,Zs,simprocAttr,HEx,co160]
 refine hfind_spec (h.le l1) hi (fun hno=>?_) (fun j b o hij hb ho hat=>?_)
 ·rw[hno]at hR
  simp only[Option.bind_none,gotV]at hR
  simp only[↓Zd,Zp,Zs,simprocAttr,HEx]
  exact hR _ oL
 ·rw[hat]at hR
  simp only[Option.bind_some]at hR
  simp only[↓Zd,Zp,simprocAttr,HEx,co161]
  refine hown0_spec (h.le l1) hb ho fun s1 hs1=>?_
  have hn1:=hs1.1
  simp only[nN]at hn1
  have e1:s1.at' s.next=some (.cells [.int .i64 0,.int .i64 0,.string ⟨#[]⟩] 31 true):=by rw[hs1.2 _ (by simp only[nN];omega),aN,if_pos rfl]
  have hle:s.le s1:=lT l1 hs1
  cases hg:getP o.L x with
  |none =>
   rw[hg]at hR
   unfold gotV at *
   simp only[↓Zd,Zp,Zs,simprocAttr,HEx,vA,e1]
   exact hR _ (lP hle oM)
  |some v =>
   rw[hg]at hR
   obtain⟨a,b,c⟩:=v
   unfold gotV vOf at *
   simp only[↓Zd,Zp,Zs,simprocAttr,HEx,vA,e1]
   exact hR _ (lP hle oM)
end
end Go.Proofs.Tryz
namespace Go.Proofs.Tryz
open Go.Cs
open Go.RowKit (Below)
set_option maxRecDepth 100000
attribute [local irreducible] QC WLoop WScope CRound WRange
def Deep(H:Hp)(d:Nat→Nat):Prop:=∀ (i:Nat) (o:Ob),H.obs[i]?=some o→o.proto=0∨o.proto≤H.obs.length∧d o.proto<d (i+1)
def Way(H:Hp)(d:Nat→Nat)(bs:List Nat)(v:Value)(i:Int)(fuel:Nat):Prop:=
 (obAt H i=none∧v = .pointer none∧fuel=0)∨∃ (j b:Nat) (o:Ob),i=((j+1:Nat):Int)∧bs[j]?=some b∧H.obs[j]?=some o∧v = .pointer (some ⟨b,0,none⟩)∧fuel=d (j+1)+1
theorem Way.up{H:Hp}{d:Nat→Nat}(hd:Deep H d){j b2 j2:Nat}{o o2:Ob}{bs:List Nat}(ho:H.obs[j]?=some o)(hij:(o.proto:Int)=((j2+1:Nat):Int))(hb:bs[j2]?=some b2)(ho2:H.obs[j2]?=some o2) :
  d (j2+1)+1<d (j+1)+1∧Way H d bs (.pointer (some ⟨b2,0,none⟩)) (o.proto:Int) (d (j2+1)+1):=by
 refine⟨?_,.inr ⟨j2,b2,o2,hij,hb,ho2,rfl,rfl⟩⟩
 rcases hd j o ho with h|⟨_,h⟩
 ·omega
 ·have:o.proto=j2+1:=oM
  rw[this]at h;omega
inductive OnR (H:Hp) (o:Int):Int→Bool→Prop
 |here:OnR H o o true
 |zero (h:¬ 0=o):OnR H o 0 false
 |up {p:Int}{b:Bool}(h0:¬ p=0) (h1:¬ p=o) (hu:OnR H o (protoV H p) b):OnR H o p b
section
variable {M:Type}[Mem M]{w0:World}{s:St M}{R:Value→St M→Prop}{lo p N pf pn:Nat}{H:Hp}{O:Nat→Prop}{tg:Nat→Nat}{sl:Value}{bs:List Nat}
theorem hget_spec(h:HpIn lo s p H N O tg pf pn sl bs){i:Int}{x:ByteArray}(hi : -9223372036854775808≤i∧i≤9223372036854775807)
  (hR:∀ s' v,s.le s'→GetR H x i v→R (vOf v) s'):QC Tryz.prog w0 109 #[.pointer (some ⟨p,0,none⟩),.int .i64 i,.string x] s R:=by
 refine wfun2 hmix ok109 func109 rfl ntmps109 results109 (by simp) ?_
 have l1:s.le (s.new (.cells [.int .i64 0,.int .i64 0,.string ⟨#[]⟩] 31 true)):=lN (lR _)
 obtain⟨d,hd⟩:=h.ok.up
 have hd:Deep H d:=hd
 have hplim:∀ (i:Nat) (o:Ob),H.obs[i]?=some o→o.proto≤200:=fun i o ho=>by
  have:=h.ok.lim
  rcases hd i o ho with h|⟨h,_⟩<;>omega
 simp only[↓Zd,Zp,Zs,simprocAttr,HEx,co160]
 refine hfind_spec (h.le l1) hi (fun hno=>?_) (fun j b o hij hb ho hat=>?_)
 ·simp only[↓Zd,Zp,simprocAttr,HEx]
  refine wloop_fix hmix [8,9,13,14,15,16,17,18,19,20,21,22,23,24,25,26,27,28,29,7] (fun fuel env s1=>(s.new (.cells [.int .i64 0,.int .i64 0,.string ⟨#[]⟩] 31 true)).le s1∧env 7 = .pointer none) 0 ⟨lR _,rfl⟩ ?_
  rintro fuel env s1 hFx ⟨hs1,e7⟩
  have e6:env 6 = .pointer (some ⟨s.next,0,none⟩):=by rw[hFx 6 rfl];rfl
  have hn1:=hs1.1
  simp only[nN]at hn1
  have c6:s1.at' s.next=some (.cells [.int .i64 0,.int .i64 0,.string ⟨#[]⟩] 31 true):=by rw[hs1.2 _ (by simp only[nN];omega),aN,if_pos rfl]
  simp only[↓Zd,Zp,Zs,simprocAttr,HEx,e6,e7,c6]
  exact hR _ (0,0,⟨#[]⟩) (lP (lT l1 hs1) oM) (.none hno)
 ·simp only[↓Zd,Zp,simprocAttr,HEx]
  refine wloop_fix hmix [8,9,13,14,15,16,17,18,19,20,21,22,23,24,25,26,27,28,29,7] (fun fuel env s1=>(s.new (.cells [.int .i64 0,.int .i64 0,.string ⟨#[]⟩] 31 true)).le s1∧∃ i',Way H d bs (env 7) i' fuel∧∀ v,GetR H x i' v→GetR H x i v) (d (j+1)+1) ⟨lR _,i,.inr ⟨j,b,o,hij,hb,ho,rfl,rfl⟩,fun v h=>h⟩ ?_
  rintro fuel env s1 hFx ⟨hs1,i',hway,himp⟩
  have e0:env 0 = .pointer (some ⟨p,0,none⟩):=by rw[hFx 0 rfl];rfl
  have e2:env 2 = .string x:=by rw[hFx 2 rfl];rfl
  have e6:env 6 = .pointer (some ⟨s.next,0,none⟩):=by rw[hFx 6 rfl];rfl
  have hn1:=hs1.1
  simp only[nN]at hn1
  have c6:s1.at' s.next=some (.cells [.int .i64 0,.int .i64 0,.string ⟨#[]⟩] 31 true):=by rw[hs1.2 _ (by simp only[nN];omega),aN,if_pos rfl]
  have hle1:=lT l1 hs1
  rcases hway with ⟨hno,e7,rfl⟩|⟨j1,b1,o1,rfl,hb1,ho1,e7,rfl⟩
  ·simp only[↓Zd,Zp,Zs,simprocAttr,HEx,e6,e7,c6]
   exact hR _ (0,0,⟨#[]⟩) (lP hle1 oM) (himp _ (.none hno))
  ·simp only[↓Zd,Zp,simprocAttr,HEx,e0,e2,e7,co161]
   refine hown0_spec (h.le hle1) hb1 ho1 fun s2 hs2=>?_
   have hn2:=hs2.1
   have hle2:=lT hle1 hs2
   have c62:s2.at' s.next=some (.cells [.int .i64 0,.int .i64 0,.string ⟨#[]⟩] 31 true):=by rw[hs2.2 _ oM];exact c6
   have hne:¬ s.next=s2.next:=oM
   cases hg:getP o1.L x with
   |some v =>
    obtain⟨a1,a2,a3⟩:=v
    unfold gotV vOf
    simp only[↓Zd,Zp,Zs,simprocAttr,HEx,vA,e6,c62,hne]
    exact hR _ (a1,a2,a3) (lP (lP (lN hle2) oM) oM) (himp _ (.own (by rw[obAt_get];exact ho1) hg))
   |none =>
    obtain⟨t7,v7,hc⟩:=(h.obj j1 b1 o1 hb1 ho1).cells
    have hb1n:b1<s.next:=by have hB:=h.obj j1 b1 o1 hb1 ho1;exact (hB.own b1 hB.pin).2
    have hc2:s2.at' b1=_:=(hle2.2 b1 hb1n).trans hc
    have hne2:¬ b1=s2.next:=oM
    have hpl:=hplim j1 o1 ho1
    unfold gotV
    simp only[↓Zd,Zp,Zs,simprocAttr,HEx,vA,e0,e7,hne2,hc2,co160]
    have hle3:s.le ((s2.new (.cells [.int .i64 0,.int .i64 0,.string ⟨#[]⟩] 31 true)).put s2.next (.cells [.int .i64 0,.int .i64 0,.string ⟨#[]⟩] 31 true)):=lP (lN hle2) oM
    have hs3:(s.new (.cells [.int .i64 0,.int .i64 0,.string ⟨#[]⟩] 31 true)).le ((s2.new (.cells [.int .i64 0,.int .i64 0,.string ⟨#[]⟩] 31 true)).put s2.next (.cells [.int .i64 0,.int .i64 0,.string ⟨#[]⟩] 31 true)):=lP (lN (lT hs1 hs2)) (by simp only[nN];omega)
    refine hfind_spec (i:=(o1.proto:Int)) (h.le hle3) oM (fun hno=>?_) (fun j2 b2 o2 hij2 hb2 ho2 hat2=>?_)
    ·simp only[↓Zd,Zp,simprocAttr,HEx]
     refine⟨by repeat (first|exact hFx|refine Fix.upd (by decide) ?_),0,oM,hs3,(o1.proto:Int),.inl ⟨hno,rfl,rfl⟩,fun v hv=>himp v (.up (by rw[obAt_get];exact ho1) hg hv)⟩
    ·have hw:=Way.up hd ho1 hij2 hb2 ho2
     simp only[↓Zd,Zp,simprocAttr,HEx]
     refine⟨by repeat (first|exact hFx|refine Fix.upd (by decide) ?_),d (j2+1)+1,hw.1,hs3,(o1.proto:Int),hw.2,fun v hv=>himp v (.up (by rw[obAt_get];exact ho1) hg hv)⟩
theorem hon_spec(h:HpIn lo s p H N O tg pf pn sl bs){o i:Int}(ho:¬ 0=o)(hi:i=0∨1≤i∧i≤H.obs.length)
  (hR:∀ b,OnR H o i b→R (.bool b) s):QC Tryz.prog w0 216 #[.pointer (some ⟨p,0,none⟩),.int .i64 o,.int .i64 i] s R:=by
 refine wfun2 hmix ok216 func216 rfl ntmps216 results216 (by simp) ?_
 obtain⟨d,hd⟩:=h.ok.up
 have hd:Deep H d:=hd
 have hlim:=h.ok.lim
 simp only[↓Zd,Zp,simprocAttr]
 refine wloop_fix hmix [7,8,9,10,11,12,13,14,15,16,2] (fun fuel env s1=>s1=s∧∃ i':Int,env 2 = .int .i64 i'∧(i'=0∨1≤i'∧i'≤H.obs.length)∧fuel=(if i'=0 then 0 else d i'.toNat+1)∧∀ b,OnR H o i' b→OnR H o i b) (if i=0 then 0 else d i.toNat+1) ⟨rfl,i,rfl,hi,rfl,fun b h=>h⟩ ?_
 rintro fuel env s1 hFx ⟨rfl,i',e2,hi',rfl,himp⟩
 have e0:env 0 = .pointer (some ⟨p,0,none⟩):=by rw[hFx 0 rfl];rfl
 have e1:env 1 = .int .i64 o:=by rw[hFx 1 rfl];rfl
 by_cases h0:i'=0
 ·subst h0
  have hb:((0:Int) == o)=false:=by rw[Bool.eq_false_iff];intro h;exact ho (eq_of_beq h)
  simp only[↓Zd,Zp,simprocAttr,e1,e2,ho]
  exact hR _ (himp _ (.zero ho))
 ·by_cases h1:i'=o
  ·subst h1
   simp only[↓Zd,Zp,simprocAttr,e1,e2,h0]
   exact hR _ (himp _ .here)
  ·have hi1:1≤i'∧i'≤H.obs.length:=oM
   simp only[↓Zd,Zp,simprocAttr,e0,e1,e2,h0,h1,co127]
   refine hproto_spec h oM ?_
   simp only[↓Zd,Zp,simprocAttr,HEx]
   obtain⟨j,rfl⟩:∃ j:Nat,i'=((j+1:Nat):Int):=⟨(i' - 1).toNat,oM⟩
   have hob:H.obs[j]?=some (H.obs[j]'oM):=List.getElem?_eq_getElem _
   have hpv:protoV H ((j+1:Nat):Int)=((H.obs[j]'oM).proto:Int):=by unfold protoV;rw[obAt_get,hob]
   have hup:=hd j _ hob
   refine⟨by repeat (first|exact hFx|refine Fix.upd (by decide) ?_),(if protoV H ((j+1:Nat):Int)=0 then 0 else d (protoV H ((j+1:Nat):Int)).toNat+1),?_,_,rfl,?_,rfl,fun b hb=>himp b (.up h0 h1 hb)⟩
   ·rw[if_neg h0,hpv,Int.toNat_natCast,Int.toNat_natCast]
    split
    ·omega
    ·rcases hup with h|⟨_,h⟩<;>omega
   ·rw[hpv]
    rcases hup with h|⟨h,_⟩<;>omega
end
end Go.Proofs.Tryz
namespace Go.Proofs.Tryz
open Go.Cs
open Go.RowKit (Below)
set_option maxRecDepth 100000
attribute [local irreducible] QC WLoop WScope CRound WRange
def nextH(H:Hp)(i:Int)(x:ByteArray):Hp:=if (shAt H.F i).isSome then { H with F:=addF H.F H.most i (ofI H.T x),T:=ofT H.T x } else H
def nextN(H:Hp)(i:Int)(x:ByteArray):Nat:=if (shAt H.F i).isSome then addN H.F H.most i (ofI H.T x) else 0
theorem next_ok{H:Hp}(h:HOk H)(i:Int)(x:ByteArray):HOk (nextH H i x):=by
 unfold nextH
 split
 ·refine h.more (fun j t ht=>addF_get ht) (fun j h1 h2=>ofT_txt x h1 h2) (ofT_len _ _).1 (ofT_nodup h.nodup x) (addF_ids (fun j t ht y hy=>?_) ?_)
  ·have:=h.ids j t ht y hy
   have:=ofT_len H.T x
   omega
  ·have:=ofI_ok H.T x
   omega
 ·exact h
theorem text_ok{H:Hp}(h:HOk H)(x:ByteArray):HOk { H with T:=ofT H.T x }:=by
 refine h.more (F':=H.F) (fun j t ht=>ht) (fun j h1 h2=>ofT_txt x h1 h2) (ofT_len _ _).1 (ofT_nodup h.nodup x) (fun j t ht y hy=>?_)
 have:=h.ids j t ht y hy
 have:=ofT_len H.T x
 omega
section
variable {M:Type}[Mem M]{w0:World}{s:St M}{R:Value→St M→Prop}{lo p N pf pn:Nat}{H:Hp}{O:Nat→Prop}{tg:Nat→Nat}{sl:Value}{bs:List Nat}
def Rest(s s':St M)(O O':Nat→Prop)(tg tg':Nat→Nat):Prop:=∀ c,O c→tg c≠1→tg c≠2→s'.at' c=s.at' c∧O' c∧tg' c=tg c
theorem hnext_spec(h:HpIn lo s p H N O tg pf pn sl bs)(hlo:lo≤s.next){i:Int}{x:ByteArray}(hN:N≤1000000)(hi : -9223372036854775808≤i∧i≤9223372036854775807)
  (hR:∀ s' O' tg',HpIn lo s' p (nextH H i x) (N+1) O' tg' pf pn sl bs→Upd s s' O O'→Rest s s' O O' tg tg'→R (.int .i64 (nextN H i x:Int)) s'):QC Tryz.prog w0 164 #[.pointer (some ⟨p,0,none⟩),.int .i64 i,.string x] s R:=by
 refine wfun2 hmix ok164 func164 rfl ntmps164 results164 (by simp) ?_
 have hb:=h.bl
 have hm:=h.mono (N':=N+1) oM
 simp only[↓Zd,Zp,simprocAttr,co133]
 refine hdead_spec h ?_
 simp only[↓Zd,Zp,simprocAttr,cld2,HEx,hb,co225]
 refine fproto_spec h.fo hi ?_
 cases hsh:shAt H.F i with
 |none =>
  have e1:nextH H i x=H:=by unfold nextH;rw[hsh];rfl
  have e2:nextN H i x=0:=by unfold nextN;rw[hsh];rfl
  rw[e1,e2]at hR
  simp only[↓Zd,Zp,simprocAttr,HEx]
  exact hR _ _ _ hm .refl fun c h1 _ _=>⟨rfl,h1,rfl⟩
 |some t =>
  have e1:nextH H i x={ H with F:=addF H.F H.most i (ofI H.T x),T:=ofT H.T x }:=by unfold nextH;rw[hsh];rfl
  have e2:nextN H i x=addN H.F H.most i (ofI H.T x):=by unfold nextN;rw[hsh];rfl
  have hok:=next_ok h.ok i x
  rw[e1]at hR hok
  rw[e2]at hR
  have htn:=h.tn
  simp only[↓Zd,Zp,simprocAttr,cld2,HEx,hb,ord164,co227]
  refine of_spec h.ta hlo oM fun s1 O1 hT1 hn1 hk1 ho1=>?_
  have hU1:Upd s s1 (fun b=>O b∧tg b=2) O1:=⟨hn1,hk1,ho1⟩
  have h1:=hm.newT hU1 hT1 (text_ok h.ok x) (by have:=ofT_len H.T x;omega)
  have hUr1:Upd s s1 O (reO O tg 2 O1):=re_upd hU1
  rw[ofN_eq]
  have hb1:=h1.bl
  simp only[↓Zd,Zp,simprocAttr,cld2,HEx,hb1,co226]
  refine fadd_spec h1.fo oM hi fun s2 O2 hF2 hU2=>?_
  have h2:=h1.newF hU2 hF2 hok
  have hUr2:=re_upd hU2
  simp only[↓Zd,Zp,simprocAttr,HEx]
  refine hR _ _ _ h2 (hUr1.trans hUr2) fun c hc t1 t2=>?_
  have a1:reO O tg 2 O1 c∧reT tg 2 O1 c=tg c:=re_tag (fun b hb=>(h.own b hb).2) hU1.own t2 ⟨hc,rfl⟩
  have a2:=re_tag (fun b hb=>(h1.own b hb).2) hU2.own (j:=tg c) t1 a1
  refine⟨?_,a2.1,a2.2⟩
  rw[re_keep h1.own hU2 c a1.1 (by rw[a1.2];exact t1),re_keep h.own hU1 c hc t2]
theorem skey_spec(h:HpIn lo s p H N O tg pf pn sl bs){j ps m:Nat}{o:Ob}{sv:Value}(hN:N≤1000000)(ho:H.obs[j]?=some o)(h0:0<o.shape)(h2:s.at' ps=some (.cells [.int .i64 (o.shape:Int),sv] 187 true))(hm:m<o.L.length)
  (hR:∀ s',s.le s'→R (keyV o.L (m:Int)) s'):QC Tryz.prog w0 199 #[.pointer (some ⟨ps,0,none⟩),.pointer (some ⟨p,0,none⟩),.int .i64 (m:Int)] s R:=by
 refine wfun2 hmix ok199 func199 rfl ntmps199 results199 (by simp) ?_
 have hhb:=h.bl
 have hF12:o.shape≤150:=by
  obtain⟨q0,l,h1,_⟩:=h.ok.fits j o ho h0
  have:=(List.getElem?_eq_some_iff.1 h1).1
  have:=h.fo.le
  omega
 have hml:o.L.length≤32:=by have:=h.ok.lens j o ho;have:=h.ok.lim;omega
 obtain⟨hNl,n,g1,g2⟩:=keyV_fits h.ok h.fo.ok ho h0 hm
 simp only[↓Zd,Zp,simprocAttr,cld2,HEx,hhb,h2,ord199,co259]
 refine fnames_spec h.fo oM fun s1 sn hs1 hsn hsb=>?_
 rw[hNl]at hsn
 have hn1:=hs1.1
 have hb1:s1.at' p=_:=(hs1.2 p (h.own p h.pin.1).2).trans hhb
 obtain⟨an,cn,rfl⟩:∃ a c,sn = .slice a o.L.length c:=by
  rcases hsn with ⟨e1,_,rfl⟩|⟨b2,junk,rfl,_⟩
  ·exact⟨none,0,by rw[e1]⟩
  ·exact⟨_,_,rfl⟩
 have k1:¬ (m:Int)<0:=oM
 have k2:¬ (o.L.length:Int)≤(m:Int):=oM
 rw[← g2]at hR
 have hnT:1≤n∧n≤H.T.length:=by
  have hm2:=List.mem_of_getElem? g1
  obtain⟨q0,l,q1,q2⟩:=h.ok.fits j o ho h0
  rw[namesOf_at h0 q1]at hm2
  exact h.ok.ids _ _ q1 n (by simpa using hm2)
 have htn:=h.tn
 rcases hsn with ⟨e0,_⟩|⟨b2,junk,e2,hb2,_⟩
 ·omega
 cases e2
 have hkk:(0:Int)≤(m:Int)∧(m:Int)<(o.L.length:Int):=oM
 have hg:=ints_get (l:=(namesOf H.F (o.shape:Int)).reverse) (k:=m) junk (by simp;omega)
 have hgn:(namesOf H.F (o.shape:Int)).reverse[m]'(by simp;omega)=n:=(List.getElem?_eq_some_iff.1 g1).2
 rw[hgn]at hg
 simp only[↓Zd,Zp,simprocAttr,cld2,HEx,underlying88,k1,k2,hb1,hb2,hkk,hg,co260]
 refine text_spec oM ((h.le hs1).ta) ?_
 unfold txtV at *
 split at hR
 ·rename_i hc
  simp only[if_pos hc]
  simp only[↓Zd,Zp,simprocAttr,HEx]
  exact hR _ hs1
 ·rename_i hc
  simp only[if_neg hc]
  simp only[↓Zd,Zp,simprocAttr,HEx]
  exact hR _ hs1
theorem DictAt.low{lo lo':Nat}{s:St M}{p:Nat}{L:List (ByteArray×V3)}{N:Nat}{O:Nat→Prop}(h:DictAt lo s p L N O)(hl:lo'≤lo):DictAt lo' s p L N O:=
 ⟨fun b hb=>⟨by have:=(h.own b hb).1;omega,(h.own b hb).2⟩,h.pin,h.bl⟩
theorem take_set{L:List (ByteArray×V3)}(hn:(L.map (·.1)).Nodup){k:Nat}{x:ByteArray}{v:V3}(hk:L[k]?=some (x,v)):setP (L.take k) x v=L.take (k+1):=by
 have hl:=(List.getElem?_eq_some_iff.1 hk).1
 have e:L.take (k+1)=L.take k ++ [(x,v)]:=by
  rw[List.take_add_one,hk];rfl
 rw[setP_none,e]
 rw[getP_none]
 intro hm
 obtain⟨⟨y,w⟩,h1,h2⟩:=List.mem_map.1 hm
 simp only at h2
 subst h2
 obtain⟨i,hi,h3⟩:=List.getElem_of_mem h1
 have hik:i<k:=by simp at hi;omega
 rw[List.getElem_take]at h3
 have e1:(L.map (·.1))[i]'(by simp;omega)=(L.map (·.1))[k]'(by simp;omega):=by
  simp only[List.getElem_map]
  rw[h3,(List.getElem?_eq_some_iff.1 hk).2]
 have:=(List.getElem_inj hn).1 e1
 omega
set_option maxHeartbeats 4000000 in
theorem hloosen_spec(h:HpIn lo s p H N O tg pf pn sl bs)(hlo:lo≤s.next){j b:Nat}{o:Ob}(hN:N≤1000000)(hN2:32≤N)(hb:bs[j]?=some b)(ho:H.obs[j]?=some o)
  (hR:∀ s' pd OD,s'.at' b=some (.cells [.iface 180 (.agg #[.pointer (some ⟨pd,0,none⟩)]),.int .i64 (o.proto:Int),.int .i64 (o.epoch:Int)] 184 true)→DictAt lo s' pd o.L N OD→(∀ c,OD c→(O c∧tg c=j+3)∨s.next≤c)→(∀ c,OD c→c≠b)→s.next≤s'.next →
   (∀ c,c<s.next→¬ (O c∧tg c=j+3)→s'.at' c=s.at' c)→R (.pointer (some ⟨pd,0,none⟩)) s'):QC Tryz.prog w0 165 #[.pointer (some ⟨p,0,none⟩),.pointer (some ⟨b,0,none⟩)] s R:=by
 refine wfun2 hmix ok165 func165 rfl ntmps165 results165 (by simp) ?_
 have hB:=h.obj j b o hb ho
 have hbn:=(hB.own b hB.pin).2
 have hne:¬ b=s.next:=oM
 have hml:o.L.length≤32:=by have:=h.ok.lens j o ho;have:=h.ok.lim;omega
 rcases hB.bl with ⟨h0,pd,OD,h1,h2,h3⟩|⟨h0,ps,sv,h1,h2,h3,h4,h5,h6⟩
 ·simp only[↓Zd,Zp,Zs,simprocAttr,HEx,h1]
  refine hR _ pd OD ?_ (h2.same (by simp only[Sn];omega) fun c hc=>by have:=(h2.own c hc).2;rw[aP,if_neg oM,aN,if_neg oM]) (fun c hc => .inl (h3 c hc).1) (fun c hc=>(h3 c hc).2) (by simp only[Sn];omega) (fun c hc _=>by rw[aP,if_neg oM,aN,if_neg oM])
  rw[aP,if_neg hne,aN,if_neg hne];exact h1
 ·simp only[↓Zd,Zp,simprocAttr,cld2,HEx,h1,co134]
  refine dnew_spec fun s1 pd hD1 hs1=>?_
  have hn1:=hs1.1
  have hpsn:=(hB.own ps h3).2
  have h21:s1.at' ps=_:=(hs1.2 ps hpsn).trans h2
  obtain⟨an,cn,rfl⟩:∃ a c,sv = .slice a o.L.length c:=by
   rcases h5 with ⟨e1,_,rfl⟩|⟨b2,junk,rfl,_⟩
   ·exact⟨none,0,by rw[e1]⟩
   ·exact⟨_,_,rfl⟩
  simp only[↓Zd,Zp,simprocAttr,cld2,HEx,h21]
  refine wloop_fix hmix [41,42,43,44,11,10,45,46,47,48,49,50,51,12,13,52,53,54,55,56,40] (fun fuel env s3=>∃ (k:Nat) (OD:Nat→Prop),fuel=o.L.length - k∧k≤o.L.length∧env 40 = .int .i64 (k:Int)∧DictAt s.next s3 pd (o.L.take k) k OD∧s.next≤s3.next∧∀ c,c<s.next→s3.at' c=s.at' c) o.L.length ⟨0,_,rfl,oM,rfl,hD1,hn1,hs1.2⟩ ?_
  rintro fuel env s3 hFx ⟨k,OD,rfl,hk,e40,hD3,hn3,hk3⟩
  have e0:env 0 = .pointer (some ⟨p,0,none⟩):=by rw[hFx 0 rfl];rfl
  have e1:env 1 = .pointer (some ⟨b,0,none⟩):=by rw[hFx 1 rfl];rfl
  have e5:env 5 = .pointer (some ⟨ps,0,none⟩):=by rw[hFx 5 rfl];rfl
  have e9:env 9 = .pointer (some ⟨pd,0,none⟩):=by rw[hFx 9 rfl];rfl
  have e38:env 38 = .slice an o.L.length cn:=by rw[hFx 38 rfl];rfl
  have e39:env 39 = .int .i64 (o.L.length:Int):=by rw[hFx 39 rfl];rfl
  have h13:s3.at' b=_:=(hk3 b hbn).trans h1
  have hpdn:=(hD3.own pd hD3.pin).1
  by_cases hkl:(k:Int)<(o.L.length:Int)
  ·rcases h5 with ⟨e,_⟩|⟨b2,junk,e2,hb2,_⟩
   ·omega
   cases e2
   have hb2n:=h6 _ _ _ rfl
   simp only at hb2n
   have hb2n:=(h.own b2 hb2n.1.1).2
   have hb23:s3.at' b2=_:=(hk3 b2 hb2n).trans hb2
   have hkk:(0:Int)≤(k:Int)∧(k:Int)<(o.L.length:Int):=oM
   have hklt:k<o.L.length:=oM
   obtain⟨x,v,hLk⟩:∃ x v,o.L[k]?=some (x,v):=⟨o.L[k].1,o.L[k].2,by simp[hklt]⟩
   obtain⟨v1,v2,v3⟩:=v
   obtain⟨c1,c2⟩:=valsC_cut o.L k x _ junk hLk
   have w1:IntKind.i64.wrap ((k:Int)+1)=((k+1:Nat):Int):=by rw[wrap_i64 oM];omega
   have hnn:¬ b2=s3.next:=oM
   simp only[↓Zd,Zp,Zs,simprocAttr,HEx,e0,e5,e38,e39,e40,hkl,hkk,hb23,c1,c2,co199]
   have hps3:((s3.new (.cells [.int .i64 0,.int .i64 0,.string ⟨#[]⟩] 31 true)).put s3.next (.cells [.int .i64 v1,.int .i64 v2,.string v3] 31 true)).at' ps=some (.cells [.int .i64 (o.shape:Int),.slice (some ⟨b2,0,none⟩) o.L.length UNK] 187 true):=by
    rw[aP,if_neg oM,aN,if_neg oM,hk3 ps hpsn];exact h2
   refine skey_spec (ps:=ps) (h.same (by simp only[Sn];omega) fun c hc=>by
    have:=(h.own c hc).2
    rw[aP,if_neg oM,aN,if_neg oM,hk3 c this]) hN ho h0 hps3 hklt fun s4 hs4=>?_
   have hn4:=hs4.1
   simp only[Sn]at hn4
   have hkV:keyV o.L (k:Int) = .tuple #[.string x,.bool true]:=by
    unfold keyV
    rw[if_pos oM,Int.toNat_natCast,List.getD_eq_getElem?_getD,hLk];rfl
   rw[hkV]
   have h11:s4.at' s3.next=some (.cells [.int .i64 v1,.int .i64 v2,.string v3] 31 true):=by rw[hs4.2 _ (by simp only[Sn];omega),aP,if_pos rfl]
   simp only[↓Zd,Zp,Zs,simprocAttr,HEx,e9,h11,co166]
   refine dset_spec (hD3.same oM fun c hc=>by
    have:=(hD3.own c hc).2
    rw[hs4.2 c (by simp only[Sn];omega),aP,if_neg oM,aN,if_neg oM]) oM oM fun s5 OD5 hD5 hn5 hk5 ho5=>?_
   rw[take_set (h.ok.keys j o ho) hLk]at hD5
   simp only[↓Zd,Zp,simprocAttr,HEx,e40,w1]
   refine⟨by repeat (first|exact hFx|refine Fix.upd (by decide) ?_),o.L.length - (k+1),oM,k+1,OD5,rfl,oM,rfl,hD5,oM,fun c hc=>?_⟩
   rw[hk5 c oM (fun hc2=>by have:=(hD3.own c hc2).1;omega),hs4.2 c (by simp only[Sn];omega),aP,if_neg oM,aN,if_neg oM,hk3 c hc]
  ·have:k=o.L.length:=oM
   subst this
   rw[List.take_length]at hD3
   have hbl:∀ (m:Nat),cbuild Tryz.prog 180 #[(0,.pointer (some ⟨m,0,none⟩))]=some (.agg #[.pointer (some ⟨m,0,none⟩)]):=fun m=>by kernel_rfl
   have hmk:∀ v,cmkI Tryz.prog 180 v=some (.iface 180 v):=fun v=>mkI_s underlying180
   simp only[↓Zd,Zp,Zs,simprocAttr,HEx,e1,e9,e39,e40,hkl,h13,hbl,hmk]
   refine hR _ pd OD ?_ (((hD3.low hlo).mono oM).same (by simp only[nU];omega) fun c hc=>by
    have:=(hD3.own c hc).1
    rw[aP,if_neg oM]) (fun c hc => .inr (hD3.own c hc).1) (fun c hc e=>by have:=(hD3.own c hc).1;omega) (by simp only[nU];omega) (fun c hc hno=>?_)
   ·rw[aP,if_pos rfl]
   ·rw[aP,if_neg (fun e:c=b=>hno (e▸hB.pin)),hk3 c hc]
end
end Go.Proofs.Tryz
namespace Go.Proofs.Tryz
open Go.Cs
set_option maxRecDepth 100000
def putO(H:Hp)(i:Int)(o:Ob):Hp:={ H with obs:=H.obs.set (i.toNat - 1) o }
def setH(H:Hp)(i:Int)(x:ByteArray)(v:V3):Hp:=match obAt H i with
 |none=>H
 |some o=>if (getP o.L x).isSome then putO H i { o with L:=setP o.L x v }
  else if H.maxP≤o.L.length then H
  else if o.shape=0 then putO H i { L:=setP o.L x v,shape:=0,proto:=o.proto,epoch:=o.epoch+1 }
  else putO (nextH H o.shape x) i { L:=setP o.L x v,shape:=nextN H o.shape x,proto:=o.proto,epoch:=o.epoch+1 }
def setE(H:Hp)(i:Int)(x:ByteArray):Int:=match obAt H i with
 |none=>4
 |some o=>if (getP o.L x).isSome then 0 else if H.maxP≤o.L.length then 42 else 0
def delH(H:Hp)(i:Int)(x:ByteArray):Hp:=match obAt H i with
 |none=>H
 |some o=>if (getP o.L x).isSome then putO H i { L:=delP o.L x,shape:=0,proto:=o.proto,epoch:=o.epoch+1 } else H
def delB(H:Hp)(i:Int)(x:ByteArray):Bool:=((obAt H i).bind fun o=>getP o.L x).isSome
def makeH(H:Hp):Hp:=if H.maxO≤H.obs.length then H else { H with obs:=H.obs ++ [{ L:=[],shape:=growN H.F H.most (0,[]),proto:=0,epoch:=0 }],F:=growF H.F H.most (0,[]) }
def makeV(H:Hp):Value:=if H.maxO≤H.obs.length then .tuple #[.int .i64 0,.int .i64 40] else .tuple #[.int .i64 ((H.obs.length+1:Nat):Int),.int .i64 0]
def growE(H:Hp)(i to:Int):Int:=match obAt H i with
 |none=>4
 |some o=>if o.shape=0 then 2 else if (match shAt H.F to with|some t=>parId H.F t|none=>0)≠o.shape then 2 else if H.maxP≤o.L.length then 42 else 0
def growH(H:Hp)(i to:Int)(v:V3):Hp:=match obAt H i with
 |none=>H
 |some o=>if growE H i to=0 then putO H i { L:=o.L ++ [(txt H.T ((namesOf H.F to).headD 0),v)],shape:=to.toNat,proto:=o.proto,epoch:=o.epoch+1 } else H
theorem OnR.one{H:Hp}{o p:Int}{a b:Bool}(h1:OnR H o p a)(h2:OnR H o p b):a=b:=by
 induction h1 with
 |here=>cases h2 with
  |here=>rfl
  |zero h=>exact absurd rfl h
  |up _ h _=>exact absurd rfl h
 |zero h=>cases h2 with
  |here=>exact absurd rfl h
  |zero _=>rfl
  |up h _ _=>exact absurd rfl h
 |up h0 h1 _ ih=>cases h2 with
  |here=>exact absurd rfl h1
  |zero _=>exact absurd rfl h0
  |up _ _ hu=>exact ih hu
open Classical in
noncomputable def onB (H:Hp) (o p:Int):Bool:=if OnR H o p true then true else false
theorem OnR.eq{H:Hp}{o p:Int}{b:Bool}(h:OnR H o p b):onB H o p=b:=by
 unfold onB
 cases b with
 |true=>rw[if_pos h]
 |false=>rw[if_neg (fun h2=>by have:=h.one h2;cases this)]
noncomputable def protoE (H:Hp) (i q:Int):Int:=if obAt H i=none∨(q≠0∧obAt H q=none) then 4 else if onB H i q=true then 32 else 0
noncomputable def protoH (H:Hp) (i q:Int):Hp:=if protoE H i q=0 then (match obAt H i with
 |none=>H
 |some o=>if o.shape=0 then putO H i { o with proto:=q.toNat,epoch:=o.epoch+1 }
  else putO { H with F:=moveF H.F H.most o.shape q.toNat } i { o with proto:=q.toNat,epoch:=o.epoch+1,shape:=moveN H.F H.most o.shape q.toNat }) else H
theorem putO_ok{H:Hp}(h:HOk H){i:Int}{o o':Ob}(hi:obAt H i=some o)(hfit:0<o'.shape→∃ q l,H.F[o'.shape - 1]?=some (q,l)∧l.reverse.map (txt H.T)=o'.L.map (·.1))(hkeys:(o'.L.map (·.1)).Nodup)(hlen:o'.L.length≤H.maxP)(hp:o'.proto=o.proto):HOk (putO H i o'):=by
 obtain⟨j,rfl,hj,ho⟩:=obAt_some hi
 have e:(((j+1:Nat):Int).toNat - 1)=j:=oM
 unfold putO
 rw[e]
 exact h.upd (F':=H.F) (T':=H.T) ho (fun _ _ h=>h) (fun _ _ _=>rfl) (Nat.le_refl _) h.nodup h.ids hfit hkeys hlen (up_same ho hp h.up)
theorem putO_pro{H:Hp}(h:HPro H){i:Int}{o':Ob}(hp:0<o'.shape→∃ l,H.F[o'.shape - 1]?=some (o'.proto,l)):HPro (putO H i o'):=by
 intro j u hu hs
 simp only[putO,List.getElem?_set]at hu
 split at hu
 ·split at hu
  ·cases hu;exact hp hs
  ·cases hu
 ·exact h j u hu hs
theorem keys_app{L:List (ByteArray×V3)}{x:ByteArray}{v:V3}(h:(L.map (·.1)).Nodup)(hx:getP L x=none):((L ++ [(x,v)]).map (·.1)).Nodup:=by
 rw[List.map_append,List.nodup_append]
 refine⟨h,by simp,fun a ha b hb e=>?_⟩
 simp at hb
 subst hb;subst e
 exact getP_none.1 hx ha
theorem setP_keys{L:List (ByteArray×V3)}{x:ByteArray}{v w:V3}(h:(L.map (·.1)).Nodup)(hx:getP L x=some w):(setP L x v).map (·.1)=L.map (·.1):=by
 obtain⟨k,hk⟩:=getP_some hx
 rw[setP_some h hk,keys_set hk]
theorem next_pro{H:Hp}(h:HPro H)(i:Int)(x:ByteArray):HPro (nextH H i x):=by
 unfold nextH
 split
 ·intro j u hu hs
  obtain⟨l,hl⟩:=h j u hu hs
  exact⟨l,addF_get hl⟩
 ·exact h
theorem next_obs(H:Hp)(i:Int)(x:ByteArray):(nextH H i x).obs=H.obs∧(nextH H i x).maxP=H.maxP∧(nextH H i x).most=H.most∧(nextH H i x).maxO=H.maxO:=by
 unfold nextH;split<;>exact⟨rfl,rfl,rfl,rfl⟩
theorem nextN_get{H:Hp}(h:HOk H){n q:Nat}{l:List Nat}{x:ByteArray}(hn:0<n)(hF:H.F[n - 1]?=some (q,l))(hp:0<nextN H n x) :
  (nextH H n x).F[nextN H n x - 1]?=some (q,ofI H.T x::l)∧(ofI H.T x::l).reverse.map (txt (nextH H n x).T)=l.reverse.map (txt H.T) ++ [x]:=by
 have hsh:shAt H.F (n:Int)=some (q,l):=by rw[shAt_at hn,hF]
 unfold nextN at hp
 rw[hsh]at hp
 simp only[Option.isSome_some,if_true]at hp
 obtain⟨t,ht,h2⟩:=addN_get hp
 rw[hsh]at ht
 cases ht
 have e1:nextH H n x={ H with F:=addF H.F H.most n (ofI H.T x),T:=ofT H.T x }:=by unfold nextH;rw[hsh];rfl
 have e2:nextN H n x=addN H.F H.most n (ofI H.T x):=by unfold nextN;rw[hsh];rfl
 rw[e1,e2]
 refine⟨h2,?_⟩
 rw[List.reverse_cons,List.map_append]
 congr 1
 ·apply List.map_congr_left
  intro y hy
  have:=h.ids _ _ hF y (by simpa using hy)
  exact ofT_txt x this.1 this.2
 ·simp only[List.map_cons,List.map_nil,(ofI_ok H.T x).2.2]
theorem set_ok{H:Hp}(h:HOk H)(i:Int)(x:ByteArray)(v:V3):HOk (setH H i x v):=by
 unfold setH
 cases ho:obAt H i with
 |none=>exact h
 |some o =>
  obtain⟨j,rfl,hj,hoj⟩:=obAt_some ho
  simp only
  cases hg:getP o.L x with
  |some w =>
   simp only[Option.isSome_some,if_true]
   have hk:=setP_keys (v:=v) (h.keys j o hoj) hg
   have hl:(setP o.L x v).length=o.L.length:=by simpa using congrArg List.length hk
   refine putO_ok h ho (fun hs=>?_) (by rw[hk];exact h.keys j o hoj) (by rw[hl];exact h.lens j o hoj) rfl
   obtain⟨q,l,h1,h2⟩:=h.fits j o hoj hs
   exact⟨q,l,h1,by rw[h2];exact hk.symm⟩
  |none =>
   simp only[Option.isSome_none,Bool.false_eq_true,if_false]
   have hsp:=setP_none o.L x v hg
   have hkn:=keys_app (v:=v) (h.keys j o hoj) hg
   split
   ·exact h
   ·rename_i hlt
    have hlen:(setP o.L x v).length≤H.maxP:=by rw[hsp];simp;omega
    split
    ·exact putO_ok h ho (fun hs=>by simp at hs) (by rw[hsp];exact hkn) hlen rfl
    ·rename_i hs0
     have hob:obAt (nextH H o.shape x) ((j+1:Nat):Int)=some o:=by rw[obAt_get,(next_obs H o.shape x).1];exact hoj
     refine putO_ok (next_ok h o.shape x) hob (fun hs=>?_) (by rw[hsp];exact hkn) (by rw[(next_obs H o.shape x).2.1];exact hlen) rfl
     obtain⟨q,l,h1,h2⟩:=h.fits j o hoj oM
     obtain⟨g1,g2⟩:=nextN_get h (x:=x) oM h1 hs
     refine⟨q,_,g1,?_⟩
     rw[g2,h2,hsp]
     simp
theorem set_pro{H:Hp}(h:HOk H)(hp:HPro H)(i:Int)(x:ByteArray)(v:V3):HPro (setH H i x v):=by
 unfold setH
 cases ho:obAt H i with
 |none=>exact hp
 |some o =>
  obtain⟨j,rfl,hj,hoj⟩:=obAt_some ho
  simp only
  split
  ·exact putO_pro hp (fun hs=>hp j o hoj hs)
  ·split
   ·exact hp
   ·split
    ·exact putO_pro hp (fun hs=>by simp at hs)
    ·rename_i hs0
     refine putO_pro (next_pro hp _ _) fun hs=>?_
     obtain⟨l,h1⟩:=hp j o hoj oM
     exact⟨_,(nextN_get h (x:=x) oM h1 hs).1⟩
theorem del_ok{H:Hp}(h:HOk H)(i:Int)(x:ByteArray):HOk (delH H i x):=by
 unfold delH
 cases ho:obAt H i with
 |none=>exact h
 |some o =>
  obtain⟨j,rfl,hj,hoj⟩:=obAt_some ho
  simp only
  split
  ·exact putO_ok h ho (fun hs=>by simp at hs) ((delP_keys _ _).nodup (h.keys j o hoj)) (Nat.le_trans (delP_len _ _) (h.lens j o hoj)) rfl
  ·exact h
theorem del_pro{H:Hp}(hp:HPro H)(i:Int)(x:ByteArray):HPro (delH H i x):=by
 unfold delH
 cases ho:obAt H i with
 |none=>exact hp
 |some o =>
  simp only
  split
  ·exact putO_pro hp (fun hs=>by simp at hs)
  ·exact hp
theorem txt_inj{T:List ByteArray}(h:T.Nodup){a b:Nat}(h1:1≤a∧a≤T.length)(h2:1≤b∧b≤T.length)(e:txt T a=txt T b):a=b:=by
 have g1:=txt_get h1.1 h1.2
 have g2:=txt_get h2.1 h2.2
 rw[e]at g1
 obtain⟨l1,e1⟩:=List.getElem?_eq_some_iff.1 g1
 obtain⟨l2,e2⟩:=List.getElem?_eq_some_iff.1 g2
 have:=(List.getElem_inj h).1 (e1.trans e2.symm)
 omega
theorem grow_fits{H:Hp}(h:HOk H)(hF:FOk H.F){j n:Nat}{o:Ob}{to:Int}{t:Sh}(ho:H.obs[j]?=some o)(hs:0<o.shape)(ht:shAt H.F to=some t)(hp:parId H.F t=o.shape) :
  ∃ q x l,t=(q,x::l)∧H.F[to.toNat - 1]?=some (q,x::l)∧1≤to∧H.F[o.shape - 1]?=some (q,l)∧(x::l).reverse.map (txt H.T)=o.L.map (·.1) ++ [txt H.T x]∧getP o.L (txt H.T x)=none:=by
 obtain⟨q,l0⟩:=t
 have hto:1≤to∧H.F[to.toNat - 1]?=some (q,l0):=by
  unfold shAt at ht
  split at ht
  ·exact⟨by assumption,ht⟩
  ·cases ht
 cases l0 with
 |nil=>simp only[parId]at hp;omega
 |cons x l =>
  obtain⟨k,hk,h2,h3⟩:=hF.par hto.2
  rw[h3]at hp
  have h4:H.F[o.shape - 1]?=some (q,l):=by rw[← hp,Nat.add_sub_cancel];exact h2
  obtain⟨q',l',h5,h6⟩:=h.fits j o ho hs
  rw[h4]at h5
  cases h5
  refine⟨q,x,l,rfl,hto.2,hto.1,h4,by rw[List.reverse_cons,List.map_append,h6];rfl,?_⟩
  rw[getP_none,← h6]
  intro hm
  obtain⟨y,hy,e⟩:=List.mem_map.1 hm
  have hy:y∈l:=by simpa using hy
  have:=txt_inj h.nodup (h.ids _ _ hto.2 y (List.mem_cons_of_mem _ hy)) (h.ids _ _ hto.2 x (List.mem_cons_self)) e
  subst this
  exact (List.nodup_cons.1 (hF.names _ _ _ hto.2).1).1 hy
theorem grow_go{H:Hp}{i to:Int}(he:growE H i to=0):∃ o t,obAt H i=some o∧0<o.shape∧shAt H.F to=some t∧parId H.F t=o.shape∧o.L.length<H.maxP:=by
 unfold growE at he
 cases ho:obAt H i with
 |none=>rw[ho]at he;simp at he
 |some o =>
  rw[ho]at he
  simp only at he
  by_cases h1:o.shape=0
  ·rw[if_pos h1]at he;omega
  ·rw[if_neg h1]at he
   cases ht:shAt H.F to with
   |none=>rw[ht]at he;simp only at he;rw[if_pos oM]at he;omega
   |some t =>
    rw[ht]at he
    simp only at he
    by_cases h2:parId H.F t=o.shape
    ·rw[if_neg oM]at he
     by_cases h3:H.maxP≤o.L.length
     ·rw[if_pos h3]at he;omega
     ·exact⟨o,t,rfl,oM,rfl,h2,oM⟩
    ·rw[if_pos h2]at he;omega
theorem grow_ok{H:Hp}(h:HOk H)(hF:FOk H.F)(i to:Int)(v:V3):HOk (growH H i to v):=by
 unfold growH
 cases ho:obAt H i with
 |none=>exact h
 |some o =>
  simp only
  split
  ·rename_i he
   obtain⟨o',t,h1,h2,h3,h4,h5⟩:=grow_go he
   rw[ho]at h1
   cases h1
   obtain⟨j,rfl,hj,hoj⟩:=obAt_some ho
   obtain⟨q,x,l,rfl,g1,g2,g3,g4,g5⟩:=grow_fits (n:=0) h hF hoj h2 h3 h4
   have hn:namesOf H.F to=x::l:=by unfold namesOf;rw[h3]
   refine putO_ok h ho (fun hs=>⟨q,x::l,g1,?_⟩) ?_ ?_ rfl
   ·rw[g4,hn];simp
   ·rw[hn];exact keys_app (h.keys j o hoj) g5
   ·simp;omega
  ·exact h
theorem grow_pro{H:Hp}(h:HOk H)(hF:FOk H.F)(hp:HPro H)(i to:Int)(v:V3):HPro (growH H i to v):=by
 unfold growH
 cases ho:obAt H i with
 |none=>exact hp
 |some o =>
  simp only
  split
  ·rename_i he
   obtain⟨o',t,h1,h2,h3,h4,h5⟩:=grow_go he
   rw[ho]at h1
   cases h1
   obtain⟨j,rfl,hj,hoj⟩:=obAt_some ho
   obtain⟨q,x,l,rfl,g1,g2,g3,g4,g5⟩:=grow_fits (n:=0) h hF hoj h2 h3 h4
   obtain⟨l2,h6⟩:=hp j o hoj h2
   rw[g3]at h6
   cases h6
   exact putO_pro hp (fun hs=>⟨x::l,g1⟩)
  ·exact hp
theorem make_ok{H:Hp}(h:HOk H):HOk (makeH H):=by
 unfold makeH
 split
 ·exact h
 ·rename_i hlt
  have hlim:=h.lim
  have hm:=h.more (F':=growF H.F H.most (0,[])) (T':=H.T) (fun j t ht=>growF_get ht) (fun _ _ _=>rfl) (Nat.le_refl _) h.nodup (fun j t ht y hy=>by
   rcases growF_mem ht with h1|rfl
   ·exact h.ids j t h1 y hy
   ·cases hy)
  have hlast:∀ (j:Nat) (u:Ob),(H.obs ++ [{ L:=[],shape:=growN H.F H.most (0,[]),proto:=0,epoch:=0 }])[j]?=some u→H.obs[j]?=some u∨u={ L:=[],shape:=growN H.F H.most (0,[]),proto:=0,epoch:=0 }:=by
   intro j u hu
   by_cases h1:j<H.obs.length
   ·rw[List.getElem?_append_left h1]at hu;exact .inl hu
   ·rw[List.getElem?_append_right oM]at hu
    have h0:j - H.obs.length=0:=by
     have:=(List.getElem?_eq_some_iff.1 hu).1
     simp at this;omega
    rw[h0]at hu
    simp at hu
    exact .inr hu.symm
  refine⟨hm.nodup,hm.ids,fun j u hu hs=>?_,fun j u hu=>?_,fun j u hu=>?_,?_,⟨hlim.1,by simp;omega,hlim.2.2⟩⟩
  ·rcases hlast j u hu with h1|rfl
   ·exact hm.fits j u h1 hs
   ·exact⟨0,[],growN_get hs,rfl⟩
  ·rcases hlast j u hu with h1|rfl
   ·exact h.keys j u h1
   ·exact List.nodup_nil
  ·rcases hlast j u hu with h1|rfl
   ·exact h.lens j u h1
   ·exact Nat.zero_le _
  ·obtain⟨d,hd⟩:=h.up
   refine⟨d,fun j u hu=>?_⟩
   rcases hlast j u hu with h1|rfl
   ·rcases hd j u h1 with h2|⟨h2,h3⟩
    ·exact .inl h2
    ·exact .inr ⟨by simp;omega,h3⟩
   ·exact .inl rfl
theorem make_pro{H:Hp}(hp:HPro H):HPro (makeH H):=by
 unfold makeH
 split
 ·exact hp
 ·intro j u hu hs
  simp only at hu
  by_cases h1:j<H.obs.length
  ·rw[List.getElem?_append_left h1]at hu
   obtain⟨l,hl⟩:=hp j u hu hs
   exact⟨l,growF_get hl⟩
  ·rw[List.getElem?_append_right oM]at hu
   have h0:j - H.obs.length=0:=by
    have:=(List.getElem?_eq_some_iff.1 hu).1
    simp at this;omega
   rw[h0]at hu
   simp at hu
   subst hu
   exact⟨[],growN_get hs⟩
theorem moveL_pre{most:Nat}:∀ (xs:List Nat) (F:List Sh) (t:Nat) {j:Nat}{u:Sh},F[j]?=some u→(moveL most xs F t).1[j]?=some u:=by
 intro xs
 induction xs with
 |nil=>intro F t j u h;exact h
 |cons x r ih=>intro F t j u h;exact ih _ _ (addF_get h)
theorem moveL_ids{most m:Nat}:∀ (xs:List Nat) (F:List Sh) (t:Nat),(∀ (j:Nat) (t:Sh),F[j]?=some t→∀ y∈t.2,1≤y∧y≤m)→(∀ x∈xs,1≤x∧x≤m)→∀ (j:Nat) (u:Sh),(moveL most xs F t).1[j]?=some u→∀ y∈u.2,1≤y∧y≤m:=by
 intro xs
 induction xs with
 |nil=>intro F t h _ j u hu;exact h j u hu
 |cons x r ih=>intro F t h hx j u hu;exact ih _ _ (addF_ids h (hx x (List.mem_cons_self))) (fun y hy=>hx y (List.mem_cons_of_mem _ hy)) j u hu
theorem moveL_get{most q:Nat}:∀ (xs:List Nat) (F:List Sh) (t:Nat) (acc:List Nat),(0<t→F[t - 1]?=some (q,acc))→0<(moveL most xs F t).2→(moveL most xs F t).1[(moveL most xs F t).2 - 1]?=some (q,xs.reverse++acc):=by
 intro xs
 induction xs with
 |nil=>intro F t acc h h2;exact h h2
 |cons x r ih =>
  intro F t acc h h2
  have:=ih (addF F most (t:Int) x) (addN F most (t:Int) x) (x::acc) (fun h3=>by
   obtain⟨u,h4,h5⟩:=addN_get h3
   have ht:0<t:=by
    unfold shAt at h4
    split at h4
    ·omega
    ·cases h4
   rw[shAt_at ht,h ht]at h4
   cases h4
   exact h5) h2
  rw[List.reverse_cons,List.append_assoc]
  exact this
theorem move_get{F:List Sh}{most n q q0:Nat}{l:List Nat}(hn:0<n)(hF:F[n - 1]?=some (q0,l))(hp:0<moveN F most n q):(moveF F most n q)[moveN F most n q - 1]?=some (q,l):=by
 have hsh:shAt F (n:Int)=some (q0,l):=by rw[shAt_at hn,hF]
 have e1:moveF F most n q=(moveL most l.reverse (growF F most (q,[])) (growN F most (q,[]))).1:=by unfold moveF;rw[hsh]
 have e2:moveN F most n q=(moveL most l.reverse (growF F most (q,[])) (growN F most (q,[]))).2:=by unfold moveN;rw[hsh]
 rw[e2]at hp
 rw[e1,e2]
 have:=moveL_get (q:=q) l.reverse (growF F most (q,[])) (growN F most (q,[])) [] (fun h=>growN_get h) hp
 simpa using this
theorem move_pre{F:List Sh}{most q j:Nat}{i:Int}{u:Sh}(h:F[j]?=some u):(moveF F most i q)[j]?=some u:=by
 unfold moveF
 split
 ·exact h
 ·exact moveL_pre _ _ _ (growF_get h)
theorem move_ids{F:List Sh}{most q m:Nat}{i:Int}(h:∀ (j:Nat) (t:Sh),F[j]?=some t→∀ y∈t.2,1≤y∧y≤m):∀ (j:Nat) (t:Sh),(moveF F most i q)[j]?=some t→∀ y∈t.2,1≤y∧y≤m:=by
 unfold moveF
 split
 ·exact h
 ·rename_i u hu
  obtain⟨k,hk⟩:=shAt_mem hu
  refine moveL_ids _ _ _ (fun j t ht=>?_) (fun x hx=>h k u hk x (by simpa using hx))
  rcases growF_mem ht with h1|rfl
  ·exact h j t h1
  ·intro y hy;cases hy
theorem proto_go{H:Hp}{i q:Int}(he:protoE H i q=0):(∃ o,obAt H i=some o)∧(q=0∨∃ o,obAt H q=some o)∧onB H i q=false:=by
 unfold protoE at he
 split at he
 ·omega
 ·rename_i h1
  split at he
  ·omega
  ·rename_i h2
   refine⟨?_,?_,by simpa using h2⟩
   ·cases h:obAt H i with
    |none=>exact absurd (.inl h) h1
    |some o=>exact⟨o,rfl⟩
   ·by_cases h0:q=0
    ·exact .inl h0
    ·cases h:obAt H q with
     |none=>exact absurd (.inr ⟨h0,h⟩) h1
     |some o=>exact .inr ⟨o,rfl⟩
open Classical in
theorem proto_up{H:Hp}(h:HOk H){j:Nat}{o o':Ob}{q:Nat}(ho:H.obs[j]?=some o)(hq:q=0∨q≤H.obs.length)(hon:onB H ((j+1:Nat):Int) (q:Int)=false)(hp:o'.proto=q) :
  ∃ d:Nat→Nat,∀ (k:Nat) (u:Ob),(H.obs.set j o')[k]?=some u→u.proto=0∨u.proto≤(H.obs.set j o').length∧d u.proto<d (k+1):=by
 obtain⟨d,hd⟩:=h.up
 have hne:¬ (0:Int)=((j+1:Nat):Int):=oM
 refine⟨fun x=>if OnR H ((j+1:Nat):Int) (x:Int) true then d x+d q+1 else d x,fun k u hu=>?_⟩
 rw[List.length_set]
 rw[List.getElem?_set]at hu
 split at hu
 ·rename_i e
  subst e
  split at hu
  ·cases hu
   rw[hp]
   by_cases h0:q=0
   ·exact .inl h0
   ·refine .inr ⟨oM,?_⟩
    simp only
    rw[if_neg (fun hc=>by rw[hc.eq]at hon;cases hon),if_pos OnR.here]
    omega
  ·cases hu
 ·rename_i hjk
  rcases hd k u hu with h1|⟨h1,h2⟩
  ·exact .inl h1
  ·refine .inr ⟨h1,?_⟩
   simp only
   have hpv:protoV H ((k+1:Nat):Int)=(u.proto:Int):=by unfold protoV;rw[obAt_get,hu]
   by_cases hc:OnR H ((j+1:Nat):Int) (u.proto:Int) true
   ·rw[if_pos hc,if_pos (.up oM oM (by rw[hpv];exact hc))]
    omega
   ·rw[if_neg hc,if_neg]
    ·exact h2
    ·intro hc2
     generalize hk1:((k+1:Nat):Int)=kk at hc2 hpv
     generalize hb:true=bb at hc2
     cases hc2 with
     |here=>omega
     |zero _=>cases hb
     |up _ _ hu2=>subst hb;rw[hpv]at hu2;exact hc hu2
theorem proto_ok{H:Hp}(h:HOk H)(i q:Int):HOk (protoH H i q):=by
 unfold protoH
 split
 ·rename_i he
  obtain⟨⟨o,ho⟩,hq,hon⟩:=proto_go he
  rw[ho]
  simp only
  obtain⟨j,rfl,hj,hoj⟩:=obAt_some ho
  have hq0:0≤q:=by
   rcases hq with h|⟨u,h⟩
   ·omega
   ·obtain⟨m,hm,_⟩:=obAt_some h;omega
  have hq1:q.toNat=0∨q.toNat≤H.obs.length:=by
   rcases hq with h|⟨u,h⟩
   ·omega
   ·obtain⟨m,hm,_⟩:=obAt_some h;omega
  have e:(((j+1:Nat):Int).toNat - 1)=j:=oM
  have eq:((q.toNat:Nat):Int)=q:=oM
  split
  ·rename_i hs
   unfold putO
   rw[e]
   exact h.upd (F':=H.F) (T':=H.T) hoj (fun _ _ h=>h) (fun _ _ _=>rfl) (Nat.le_refl _) h.nodup h.ids (fun h2=>by simp only at h2;omega) (h.keys j o hoj) (h.lens j o hoj) (proto_up h hoj hq1 (by rw[eq];exact hon) rfl)
  ·rename_i hs
   unfold putO
   rw[e]
   refine h.upd (F':=moveF H.F H.most o.shape q.toNat) (T':=H.T) hoj (fun _ _ h=>move_pre h) (fun _ _ _=>rfl) (Nat.le_refl _) h.nodup (move_ids h.ids) (fun h2=>?_) (h.keys j o hoj) (h.lens j o hoj) (proto_up h hoj hq1 (by rw[eq];exact hon) rfl)
   obtain⟨q0,l,h3,h4⟩:=h.fits j o hoj oM
   exact⟨_,l,move_get oM h3 h2,h4⟩
 ·exact h
theorem proto_pro{H:Hp}(h:HOk H)(hp:HPro H)(i q:Int):HPro (protoH H i q):=by
 unfold protoH
 split
 ·rename_i he
  obtain⟨⟨o,ho⟩,hq,hon⟩:=proto_go he
  rw[ho]
  simp only
  obtain⟨j,rfl,hj,hoj⟩:=obAt_some ho
  split
  ·rename_i hs
   exact putO_pro hp (fun h2=>by simp only at h2;omega)
  ·rename_i hs
   refine putO_pro (H:={ H with F:=moveF H.F H.most o.shape q.toNat }) (fun k u hu hsu=>?_) (fun h2=>?_)
   ·obtain⟨l,hl⟩:=hp k u hu hsu
    exact⟨l,move_pre hl⟩
   ·obtain⟨q0,l,h3,h4⟩:=h.fits j o hoj oM
    exact⟨l,move_get oM h3 h2⟩
 ·exact hp
end Go.Proofs.Tryz
namespace Go.Proofs.Tryz
open Go.Cs
open Go.RowKit (Below)
set_option maxRecDepth 100000
attribute [local irreducible] QC WLoop WScope CRound WRange
theorem rowVal(k n:Int)(y:ByteArray):crow Tryz.prog 48 1 #[(0,.agg #[.int .i64 k,.int .i64 n,.string y])]=some (.cells [.int .i64 k,.int .i64 n,.string y] 31 true):=oK
theorem infoVal:∃ ie,Tryz.prog.info? 31=some ie∧ie.size=3∧0<ie.bytes∧ie.bytes≤100:=by
 obtain⟨ie,h⟩:=Option.isSome_iff_exists.1 is31
 have h1:=ce31
 have h2:decide (0<Tryz.prog.bytesOf 31∧Tryz.prog.bytesOf 31≤100)=true:=oK
 rw[cellsOf_info h]at h1
 simp only[Program.bytesOf,h,decide_eq_true_eq]at h2
 exact⟨ie,h,h1,h2.1,h2.2⟩
section
variable {M:Type}[Mem M]{w0:World}{s:St M}{R:Value→St M→Prop}{lo p N pf pn:Nat}{H:Hp}{O:Nat→Prop}{tg:Nat→Nat}{sl:Value}{bs:List Nat}
theorem app_val{s:St M}{sl:Value}{cs:List Value}{k:Nat}{a b:Int}{y:ByteArray}(hlen:k≤1000000)(hsl:SlU 31 3 s sl cs k)(hfr:∀ q m c,sl = .slice (some q) m c→q.block<s.next) :
  ∃ s',capp Tryz.prog #[48,48] #[sl,.slice (some ⟨s.next,0,none⟩) 1 1] (s.new (.cells [.int .i64 a,.int .i64 b,.string y] 31 true))=some (.slice (some ⟨s.next+1,0,none⟩) (k+1) UNK,s')∧s'.next=s.next+2 ∧
   s'.at' (s.next+1)=some (.cells (cs ++ [.int .i64 a,.int .i64 b,.string y]) 31 true)∧(∀ b,b<s.next→(∀ q n c,sl = .slice (some q) n c→b≠q.block)→s'.at' b=s.at' b):=by
 obtain⟨ie,hie,h1,h2,h3⟩:=infoVal
 have hcapp:capp Tryz.prog #[48,48] #[sl,.slice (some ⟨s.next,0,none⟩) 1 1] (s.new (.cells [.int .i64 a,.int .i64 b,.string y] 31 true))=capp3 Tryz.prog 31 ie sl (s.new (.cells [.int .i64 a,.int .i64 b,.string y] 31 true)) (cmore ie.size (.slice (some ⟨s.next,0,none⟩) 1 1) (s.new (.cells [.int .i64 a,.int .i64 b,.string y] 31 true))):=
  app_eq underlying48 underlying48 hie
 have hv:cmore ie.size (.slice (some ⟨s.next,0,none⟩) 1 1) (s.new (.cells [.int .i64 a,.int .i64 b,.string y] 31 true))=some (1,[.int .i64 a,.int .i64 b,.string y]):=by
  simp only[more_at,aN,if_true,more2,h1];rfl
 obtain⟨s',h3,h4,h5,h6⟩:=app_rowU (n:=k) (k:=1) hie ze31 (by rw[h1];rfl) h2 hcapp oM (by
  have:(k+1)*ie.bytes≤1000001*100:=Nat.mul_le_mul oM h3
  omega) rfl hv (by rw[h1];exact hsl.same fun q m c e=>by rw[aN,if_neg (by have:=hfr q m c e;omega)])
 refine⟨s',by simpa using h3,by simp at h4;omega,h5,fun b hb hq=>?_⟩
 rw[h6 b (by simp;omega) hq,aN,if_neg oM]
theorem wch_app_val{s:St M}{sl:Value}{cs:List Value}{k:Nat}{a b:Int}{y:ByteArray}{K:Value→St M→Prop}(hlen:k≤1000000)(hsl:SlU 31 3 s sl cs k)(hfr:∀ q m c,sl = .slice (some q) m c→q.block<s.next)
  (h:∀ s',s'.next=s.next+2→s'.at' (s.next+1)=some (.cells (cs ++ [.int .i64 a,.int .i64 b,.string y]) 31 true)→(∀ b,b<s.next→(∀ q n c,sl = .slice (some q) n c→b≠q.block)→s'.at' b=s.at' b)→K (.slice (some ⟨s.next+1,0,none⟩) (k+1) UNK) s') :
  wch (capp Tryz.prog #[48,48] #[sl,.slice (some ⟨s.next,0,none⟩) 1 1] (s.new (.cells [.int .i64 a,.int .i64 b,.string y] 31 true))) K:=by
 obtain⟨s',h1,h2,h3,h4⟩:=app_val (a:=a) (b:=b) (y:=y) hlen hsl hfr
 exact⟨_,_,h1,h s' h2 h3 h4⟩
theorem ObAt.head{b:Nat}{o:Ob}{OO:Nat→Prop}{t:TypeId}{v:Value}{N':Nat}(h:ObAt lo s N b o OO)(hc:s.at' b=some (.cells [.iface t v,.int .i64 (o.proto:Int),.int .i64 (o.epoch:Int)] 184 true))(q e:Nat)(he:e≤N')(hN:N≤N') :
  ObAt lo (s.put b (.cells [.iface t v,.int .i64 (q:Int),.int .i64 (e:Int)] 184 true)) N' b { o with proto:=q,epoch:=e } OO:=by
 obtain⟨h1,h2,h3,h4⟩:=h
 refine⟨h1,h2,he,?_⟩
 rcases h4 with ⟨h5,pd,OD,h6,h7,h8⟩|⟨h5,ps,sl,h6,h7,h8,h9,h10,h11⟩
 ·rw[h6]at hc
  cases hc
  refine .inl ⟨h5,pd,OD,by rw[aP,if_pos rfl],(h7.mono hN).same (Nat.le_refl _) fun c hc=>?_,h8⟩
  rw[aP,if_neg (h8 c hc).2]
 ·rw[h6]at hc
  cases hc
  refine .inr ⟨h5,ps,sl,by rw[aP,if_pos rfl],by rw[aP,if_neg h9];exact h7,h8,h9,h10.same fun q n c e=>?_,h11⟩
  rw[aP,if_neg (h11 q n c e).2.1]
theorem ObAt.loose{s':St M}{b pd:Nat}{o:Ob}{OD:Nat→Prop}{N':Nat}(hb:s'.at' b=some (.cells [.iface 180 (.agg #[.pointer (some ⟨pd,0,none⟩)]),.int .i64 (o.proto:Int),.int .i64 (o.epoch:Int)] 184 true))(hs:o.shape=0)(hD:DictAt lo s' pd o.L N' OD)(hne:∀ c,OD c→c≠b)(hlo:lo≤b∧b<s'.next)(he:o.epoch≤N'):ObAt lo s' N' b o (fun c=>c=b∨OD c):=by
 refine⟨?_,.inl rfl,he,.inl ⟨hs,pd,OD,hb,hD,fun c hc=>⟨.inr hc,hne c hc⟩⟩⟩
 rintro c (rfl|hc)
 ·exact hlo
 ·exact hD.own c hc
set_option maxHeartbeats 4000000 in
theorem hset0_spec(h:HpIn lo s p H N O tg pf pn sl bs)(hlo:lo≤s.next){j b:Nat}{o:Ob}{x y:ByteArray}{k n:Int}{w:V3}(hN:N≤1000000)(hN2:32≤N)(hb:bs[j]?=some b)(ho:H.obs[j]?=some o)(hx:getP o.L x=some w)
  (hR:∀ s' O',ObAt lo s' (N+1) b { o with L:=setP o.L x (k,n,y) } O'→Upd s s' (fun c=>O c∧tg c=j+3) O'→R (.tuple #[]) s'):QC Tryz.prog w0 162 #[.pointer (some ⟨p,0,none⟩),.pointer (some ⟨b,0,none⟩),.string x,vA k n y] s R:=by
 refine wfun2 hmix ok162 func162 rfl ntmps162 results162 (by simp) ?_
 have hB:=h.obj j b o hb ho
 have hbn:=(hB.own b hB.pin).2
 have hne:¬ b=s.next:=oM
 have hml:o.L.length≤32:=by have:=h.ok.lens j o ho;have:=h.ok.lim;omega
 have l1:s.le (s.new (.cells [.int .i64 k,.int .i64 n,.string y] 31 true)):=lN (lR _)
 rcases hB.bl with ⟨h0,pd,OD,h1,h2,h3⟩|⟨h0,ps,sv,h1,h2,h3,h4,h5,h6⟩
 ·simp only[↓Zd,Zp,Zs,simprocAttr,HEx,vA,h1,hne,ord162,co165]
  refine hloosen_spec (h.le l1) (by have:=l1.1;omega) hN hN2 hb ho fun s1 pd1 OD1 hb1 hD1 ho1 hne1 hn1 hk1=>?_
  simp only[nN]at hn1 hk1 ho1
  have c7:s1.at' s.next=some (.cells [.int .i64 k,.int .i64 n,.string y] 31 true):=by
   rw[hk1 _ oM (fun hc=>by have:=(h.own _ hc.1).2;omega),aN,if_pos rfl]
  have hpdn:=hne1 pd1 hD1.pin
  simp only[↓Zd,Zp,Zs,simprocAttr,HEx,c7,co166]
  refine dset_spec (k:=k) (n:=n) (y:=y) hD1 oM hN fun s2 OD2 hD2 hn2 hk2 ho2=>?_
  simp only[↓Zd,Zp,simprocAttr,HEx]
  have hb2:s2.at' b=_:=(hk2 b oM (fun hc=>hne1 b hc rfl)).trans hb1
  refine hR _ _ (ObAt.loose (o:={ o with L:=setP o.L x (k,n,y) }) hb2 h0 hD2 (fun c hc e=>?_) ⟨(hB.own b hB.pin).1,oM⟩ (by have:=hB.ep;show o.epoch≤N+1;omega)) ⟨oM,fun c hc hno=>?_,fun c hc=>?_⟩
  ·subst e
   rcases ho2 c hc with h|h
   ·exact hne1 c h rfl
   ·omega
  ·rw[hk2 c oM (fun hc2=>by rcases ho1 c hc2 with h|h;exact hno h;omega),hk1 c oM hno,aN,if_neg oM]
  ·rcases hc with rfl|hc
   ·exact .inl hB.pin
   ·rcases ho2 c hc with h|h
    ·rcases ho1 c h with h|h
     ·exact .inl h
     ·exact .inr oM
    ·exact .inr oM
 ·have hpsn:=(hB.own ps h3).2
  have hpse:¬ ps=s.next:=oM
  have hF12:o.shape≤150:=by
   obtain⟨q0,l,h1,_⟩:=h.ok.fits j o ho h0
   have:=(List.getElem?_eq_some_iff.1 h1).1
   have:=h.fo.le
   omega
  rcases slot_fits h.ok ho h0 x with ⟨_,g2⟩|⟨m,v,g1,g2,g3⟩
  ·rw[g2]at hx;cases hx
  have hml2:=(List.getElem?_eq_some_iff.1 g2).1
  rcases h5 with ⟨e0,_⟩|⟨b2,junk,rfl,hb2,hl2⟩
  ·omega
  have hb2O:=h6 _ _ _ rfl
  simp only at hb2O
  have hb2n:=(hB.own b2 hb2O.1).2
  simp only[↓Zd,Zp,Zs,simprocAttr,HEx,vA,h1,h2,hne,hpse,ord162,co159]
  refine hslotof_spec (i:=(o.shape:Int)) (h.le l1) oM fun s1 hs1=>?_
  rw[g1]
  have hn1:=hs1.1
  simp only[nN]at hn1
  have k1:∀ c,c<s.next→s1.at' c=s.at' c:=fun c hc=>by rw[hs1.2 c (by simp only[nN];omega),aN,if_neg oM]
  have c7:s1.at' s.next=some (.cells [.int .i64 k,.int .i64 n,.string y] 31 true):=by rw[hs1.2 _ (by simp only[nN];omega),aN,if_pos rfl]
  have hb21:=(k1 b2 hb2n).trans hb2
  have hkk:(0:Int)≤(m:Int)∧(m:Int)<(o.L.length:Int):=oM
  have hset:=valsC_set o.L m x (k,n,y) _ junk g2
  obtain⟨cc1,cc2⟩:=valsC_cut o.L m x _ junk g2
  have hps1:=(k1 ps hpsn).trans h2
  have hsp:=setP_some (v:=(k,n,y)) (h.ok.keys j o ho) g2
  simp only[↓Zd,Zp,Zs,simprocAttr,HEx,c7,hkk,hb21,hset,cc1,hps1]
  refine hR _ (fun c=>O c∧tg c=j+3) ⟨fun c hc=>⟨(hB.own c hc).1,by have:=(hB.own c hc).2;simp only[nU];omega⟩,hB.pin,by have:=hB.ep;show o.epoch≤N+1;omega,.inr ⟨h0,ps,_,?_,?_,h3,h4,.inr ⟨b2,junk,by rw[hsp,List.length_set],?_,valsC_len _⟩,fun q n c e=>?_⟩⟩ ⟨by simp only[nU];omega,fun c hc hno=>?_,fun c hc => .inl hc⟩
  ·rw[aP,if_neg (fun e:b=b2=>hb2O.2.1 e.symm),k1 b hbn];exact h1
  ·rw[aP,if_neg (fun e:ps=b2=>hb2O.2.2 e.symm)];exact hps1
  ·rw[aP,if_pos rfl,hsp]
  ·cases e
   exact⟨hb2O.1,hb2O.2⟩
  ·rw[aP,if_neg (fun e:c=b2=>hno (e▸hb2O.1)),k1 c hc]
theorem HpIn.setO{s':St M}{O':Nat→Prop}{i:Int}{j b:Nat}{o':Ob}(h:HpIn lo s p H N O tg pf pn sl bs)(hi:i=((j+1:Nat):Int))(hj:j<H.obs.length)(hb:bs[j]?=some b)(hU:Upd s s' (fun b=>O b∧tg b=j+3) O')(hB:ObAt lo s' N b o' O')(hok:HOk (putO H i o')) :
  HpIn lo s' p (putO H i o') N (reO O tg (j+3) O') (reT tg (j+3) O') pf pn sl bs:=by
 have e:i.toNat - 1=j:=oM
 unfold putO at *
 rw[e]at hok ⊢
 exact h.newO hj hb hU hB hok
end
end Go.Proofs.Tryz
namespace Go.Proofs.Tryz
open Go.Cs
open Go.RowKit (Below)
set_option maxRecDepth 100000
attribute [local irreducible] QC WLoop WScope CRound WRange
theorem putO_put(H:Hp)(i:Int)(a b:Ob):putO (putO H i a) i b=putO H i b:=by
 unfold putO;simp only[List.set_set]
theorem next_put(H:Hp)(i k:Int)(a:Ob)(x:ByteArray):nextH (putO H i a) k x=putO (nextH H k x) i a:=by
 unfold nextH putO
 by_cases h:(shAt H.F k).isSome
 ·simp only[h,if_true]
 ·rw[if_neg h,if_neg h]
theorem nextN_put(H:Hp)(i k:Int)(a:Ob)(x:ByteArray):nextN (putO H i a) k x=nextN H k x:=rfl
theorem putO_at{H:Hp}{i:Int}{o a:Ob}{j:Nat}(hi:i=((j+1:Nat):Int))(hj:j<H.obs.length):(putO H i a).obs[j]?=some a:=by
 have e:i.toNat - 1=j:=oM
 unfold putO
 simp only[e]
 rw[List.getElem?_set]
 simp[hj]
theorem bump_ok{H:Hp}(h:HOk H){i:Int}{o:Ob}(hi:obAt H i=some o)(e:Nat):HOk (putO H i { o with epoch:=e }):=by
 obtain⟨j,rfl,hj,ho⟩:=obAt_some hi
 exact putO_ok h hi (fun hs=>h.fits j o ho hs) (h.keys j o ho) (h.lens j o ho) rfl
section
variable {M:Type}[Mem M]{w0:World}{s:St M}{R:Value→St M→Prop}{lo p N pf pn:Nat}{H:Hp}{O:Nat→Prop}{tg:Nat→Nat}{sl:Value}{bs:List Nat}
theorem upd_put{b:Nat}{B:Blk}{OO:Nat→Prop}(hb:OO b):Upd s (s.put b B) OO OO:=
 ⟨Nat.le_refl _,fun c _ hno=>by rw[aP,if_neg (fun e:c=b=>hno (e▸hb))],fun c hc => .inl hc⟩
theorem loose_end{s3 s4 s5:St M}{O3 OD4 OD5:Nat→Prop}{tg3:Nat→Nat}{j b pd q e N5:Nat}{L':List (ByteArray×V3)}(hb:O3 b∧tg3 b=j+3)(hbl:lo≤b∧b<s3.next)
  (hb4:s4.at' b=some (.cells [.iface 180 (.agg #[.pointer (some ⟨pd,0,none⟩)]),.int .i64 (q:Int),.int .i64 (e:Int)] 184 true))(ho4:∀ c,OD4 c→(O3 c∧tg3 c=j+3)∨s3.next≤c)(hne4:∀ c,OD4 c→c≠b)(hn4:s3.next≤s4.next)
  (hk4:∀ c,c<s3.next→¬ (O3 c∧tg3 c=j+3)→s4.at' c=s3.at' c)(hD5:DictAt lo s5 pd L' N5 OD5)(hn5:s4.next≤s5.next)(hk5:∀ c,c<s4.next→¬ OD4 c→s5.at' c=s4.at' c)(ho5:∀ c,OD5 c→OD4 c∨s4.next≤c)(he:e≤N5) :
  ObAt lo s5 N5 b { L:=L',shape:=0,proto:=q,epoch:=e } (fun c=>c=b∨OD5 c)∧Upd s3 s5 (fun c=>O3 c∧tg3 c=j+3) (fun c=>c=b∨OD5 c):=by
 have hne5:∀ c,OD5 c→c≠b:=fun c hc e=>by
  subst e
  rcases ho5 c hc with h|h
  ·exact hne4 c h rfl
  ·omega
 refine⟨ObAt.loose (o:={ L:=L',shape:=0,proto:=q,epoch:=e }) ((hk5 b oM (fun hc=>hne4 b hc rfl)).trans hb4) rfl hD5 hne5 ⟨hbl.1,oM⟩ he,oM,fun c hc hno=>?_,fun c hc=>?_⟩
 ·rw[hk5 c oM (fun hc2=>by rcases ho4 c hc2 with h|h;exact hno h;omega),hk4 c hc hno]
 ·rcases hc with rfl|hc
  ·exact .inl hb
  ·rcases ho5 c hc with h|h
   ·exact ho4 c h
   ·exact .inr oM
theorem re_pin{b j:Nat}{O':Nat→Prop}(hb:O' b):reO O tg j O' b∧reT tg j O' b=j:=by
 have:=congrFun (re_same O tg j O') b
 exact this.mpr hb
set_option maxHeartbeats 8000000 in
theorem hset_spec(h:HpAt lo s p H N O)(hlo:lo≤s.next){i:Int}{x y:ByteArray}{k n:Int}(hN:N+3≤1000000)(hN2:32≤N)(hi : -9223372036854775808≤i∧i≤9223372036854775807)
  (hR:∀ s' O',HpAt lo s' p (setH H i x (k,n,y)) (N+3) O'→Upd s s' O O'→R (.int .i64 (setE H i x)) s'):QC Tryz.prog w0 78 #[.pointer (some ⟨p,0,none⟩),.int .i64 i,.string x,vA k n y] s R:=by
 refine wfun2 hmix ok78 func78 rfl ntmps78 results78 (by simp) ?_
 obtain⟨hpro,tg,pf,pn,sl,bs,h⟩:=h
 have l1:s.le (s.new (.cells [.int .i64 k,.int .i64 n,.string y] 31 true)):=lN (lR _)
 simp only[↓Zd,Zp,Zs,simprocAttr,HEx,vA,co133]
 refine hdead_spec (h.le l1) ?_
 simp only[↓Zd,Zp,simprocAttr,HEx,vA,co160]
 refine hfind_spec (h.le l1) hi (fun hno=>?_) (fun j b o hij hb ho hat=>?_)
 ·have e1:setH H i x (k,n,y)=H:=by unfold setH;rw[hno]
  have e2:setE H i x=4:=by unfold setE;rw[hno]
  rw[e1,e2]at hR
  simp only[↓Zd,Zp,simprocAttr,HEx,vA]
  exact hR _ _ ⟨hpro,tg,pf,pn,sl,bs,(h.le l1).mono oM⟩ (.of_le l1)
 ·have hj:=(List.getElem?_eq_some_iff.1 ho).1
  have hhb:=h.bl
  have hlim:=h.ok.lim
  have hml:o.L.length≤32:=by have:=h.ok.lens j o ho;omega
  simp only[↓Zd,Zp,simprocAttr,HEx,vA,co161]
  refine hown0_spec (h.le l1) hb ho fun s1 hs1=>?_
  have hl1:=lT l1 hs1
  have hn1:=hs1.1
  simp only[nN]at hn1
  have c7:s1.at' s.next=some (.cells [.int .i64 k,.int .i64 n,.string y] 31 true):=by rw[hs1.2 _ (by simp only[nN];omega),aN,if_pos rfl]
  have n7:¬ s.next=s1.next:=oM
  have hpn:=(h.own p h.pin.1).2
  have np7:¬ p=s1.next:=oM
  have hhb1:=(h.le hl1).bl
  cases hg:getP o.L x with
  |some w =>
   obtain⟨w1,w2,w3⟩:=w
   have e1:setH H i x (k,n,y)=putO H i { o with L:=setP o.L x (k,n,y) }:=by unfold setH;rw[hat];simp only[hg,Option.isSome_some,if_true]
   have e2:setE H i x=0:=by unfold setE;rw[hat];simp only[hg,Option.isSome_some,if_true]
   rw[e1,e2]at hR
   have hok:=set_ok h.ok i x (k,n,y)
   have hpr:=set_pro h.ok hpro i x (k,n,y)
   rw[e1]at hok hpr
   simp only[gotV,vOf]
   simp only[↓Zd,Zp,Zs,simprocAttr,HEx,vA,c7,n7,co162]
   have l2:s.le ((s1.new (.cells [.int .i64 0,.int .i64 0,.string ⟨#[]⟩] 31 true)).put s1.next (.cells [.int .i64 w1,.int .i64 w2,.string w3] 31 true)):=lP (lN hl1) oM
   have h2:=h.le l2
   refine hset0_spec (k:=k) (n:=n) (y:=y) h2 (by have:=l2.1;omega) oM hN2 hb ho hg fun s2 O2 hB2 hU2=>?_
   simp only[↓Zd,Zp,simprocAttr,HEx,vA]
   have h3:=(h2.mono (N':=N+1) oM).setO hij hj hb hU2 hB2 hok
   exact hR _ _ ⟨hpr,_,_,_,_,_,h3.mono oM⟩ ((Upd.of_le l2).trans (re_upd hU2))
  |none =>
   simp only[gotV]
   simp only[↓Zd,Zp,Zs,simprocAttr,HEx,vA,np7,hhb1,ord78,co163]
   have l2:s.le ((s1.new (.cells [.int .i64 0,.int .i64 0,.string ⟨#[]⟩] 31 true)).put s1.next (.cells [.int .i64 0,.int .i64 0,.string ⟨#[]⟩] 31 true)):=lP (lN hl1) oM
   refine hcount0_spec ((h.le l2).obj j b o hb ho) fun s2 hs2=>?_
   have hl2:=lT l2 hs2
   have hn2:=hs2.1
   simp only[Sn]at hn2
   have h2:=h.le hl2
   have hhb2:=h2.bl
   have c72:s2.at' s.next=some (.cells [.int .i64 k,.int .i64 n,.string y] 31 true):=by rw[hs2.2 _ (by simp only[Sn];omega),aP,if_neg oM,aN,if_neg oM];exact c7
   by_cases hmx:(H.maxP:Int)≤(o.L.length:Int)
   ·have e1:setH H i x (k,n,y)=H:=by unfold setH;rw[hat];simp only[hg,Option.isSome_none,Bool.false_eq_true,if_false];rw[if_pos oM]
    have e2:setE H i x=42:=by unfold setE;rw[hat];simp only[hg,Option.isSome_none,Bool.false_eq_true,if_false];rw[if_pos oM]
    rw[e1,e2]at hR
    simp only[↓Zd,Zp,simprocAttr,cld2,HEx,hhb2,hmx]
    exact hR _ _ ⟨hpro,tg,pf,pn,sl,bs,h2.mono oM⟩ (.of_le hl2)
   ·have e2:setE H i x=0:=by unfold setE;rw[hat];simp only[hg,Option.isSome_none,Bool.false_eq_true,if_false];rw[if_neg oM]
    rw[e2]at hR
    have hB:=h2.obj j b o hb ho
    have hbn:=(hB.own b hB.pin).2
    have hep:=hB.ep
    have w1:IntKind.i64.wrap ((o.epoch:Int)+1)=((o.epoch+1:Nat):Int):=by rw[wrap_i64 oM];omega
    have hsp:=setP_none o.L x (k,n,y) hg
    have hb7:¬ s.next=b:=by have:=(h.own b hB.pin.1).2;omega
    have hok1:=bump_ok h.ok hat (o.epoch+1)
    rcases hB.bl with ⟨h0,pd,OD,g1,g2,g3⟩|⟨h0,ps,sv,g1,g2,g3,g4,g5,g6⟩
    ·have e1:setH H i x (k,n,y)=putO H i { L:=setP o.L x (k,n,y),shape:=0,proto:=o.proto,epoch:=o.epoch+1 }:=by unfold setH;rw[hat];simp only[hg,Option.isSome_none,Bool.false_eq_true,if_false];rw[if_neg oM,if_pos h0]
     rw[e1]at hR
     have hok:=set_ok h.ok i x (k,n,y)
     have hpr:=set_pro h.ok hpro i x (k,n,y)
     rw[e1]at hok hpr
     simp only[↓Zd,Zp,Zs,simprocAttr,HEx,hhb2,hmx,g1,w1,c72,hb7,co165]
     have hB1:=hB.head g1 o.proto (o.epoch+1) (N':=N+1) oM oM
     have h3:=(h2.mono (N':=N+1) oM).setO hij hj hb (upd_put hB.pin) hB1 hok1
     have hU3:=re_upd (tg:=tg) (k:=j+3) (upd_put (s:=s2) (B := .cells [.iface 180 (.agg #[.pointer (some ⟨pd,0,none⟩)]),.int .i64 (o.proto:Int),.int .i64 ((o.epoch+1:Nat):Int)] 184 true) hB.pin)
     have ho3:(putO H i { o with epoch:=o.epoch+1 }).obs[j]?=some { o with epoch:=o.epoch+1 }:=putO_at (o:=o) hij hj
     refine hloosen_spec h3 (by simp only[nU];omega) oM oM hb ho3 fun s4 pd4 OD4 hb4 hD4 ho4 hne4 hn4 hk4=>?_
     have hno7:¬ O s.next:=fun hc=>by have:=(h.own _ hc).2;omega
     have hno7':¬ reO O tg (j+3) (fun c=>O c∧tg c=j+3) s.next:=fun hc=>by rcases hc with h|h;exact hno7 h.1;exact hno7 h.1
     have c74:s4.at' s.next=some (.cells [.int .i64 k,.int .i64 n,.string y] 31 true):=by
      rw[hk4 _ (by simp only[nU];omega) (fun hc=>hno7' hc.1),aP,if_neg hb7];exact c72
     simp only[↓Zd,Zp,Zs,simprocAttr,HEx,c74,co166]
     refine dset_spec (k:=k) (n:=n) (y:=y) hD4 (by simp only[nU]at hn4;omega) oM fun s5 OD5 hD5 hn5 hk5 ho5=>?_
     simp only[↓Zd,Zp,simprocAttr,HEx]
     obtain⟨hB5,hU5⟩:=loose_end (O3:=reO O tg (j+3) (fun c=>O c∧tg c=j+3)) (tg3:=reT tg (j+3) (fun c=>O c∧tg c=j+3)) (re_pin hB.pin) ⟨(hB.own b hB.pin).1,by simp only[nU];omega⟩ hb4 ho4 hne4 hn4 hk4 hD5 hn5 hk5 ho5 (by show o.epoch+1≤_;omega)
     have h5:=(h3.mono (N':=N+1+1) oM).setO hij (by simp only[putO,List.length_set];exact hj) hb hU5 hB5 (by rw[putO_put];exact hok)
     rw[putO_put]at h5
     exact hR _ _ ⟨hpr,_,_,_,_,_,h5.mono oM⟩ ((Upd.of_le hl2).trans (hU3.trans (re_upd hU5)))
    ·have hpsn:=(hB.own ps g3).2
     have hgs:¬ ps=b:=g4
     have h7ps:¬ s.next=ps:=by have:=(h.own _ g3.1).2;omega
     have hF12:o.shape≤150:=by
      obtain⟨q0,l,h1,_⟩:=h.ok.fits j o ho h0
      have:=(List.getElem?_eq_some_iff.1 h1).1
      have:=h.fo.le
      omega
     simp only[↓Zd,Zp,Zs,simprocAttr,HEx,hhb2,hmx,g1,g2,hgs,w1,co164]
     have hB1:=hB.head g1 o.proto (o.epoch+1) (N':=N+1) oM oM
     have h3:=(h2.mono (N':=N+1) oM).setO hij hj hb (upd_put hB.pin) hB1 hok1
     have hU3:=re_upd (tg:=tg) (k:=j+3) (upd_put (s:=s2) (B := .cells [.iface 185 (.pointer (some ⟨ps,0,none⟩)),.int .i64 (o.proto:Int),.int .i64 ((o.epoch+1:Nat):Int)] 184 true) hB.pin)
     have ho3:(putO H i { o with epoch:=o.epoch+1 }).obs[j]?=some { o with epoch:=o.epoch+1 }:=putO_at (o:=o) hij hj
     have hno7:¬ O s.next:=fun hc=>by have:=(h.own _ hc).2;omega
     have hno7':¬ reO O tg (j+3) (fun c=>O c∧tg c=j+3) s.next:=fun hc=>by rcases hc with h|h;exact hno7 h.1;exact hno7 h.1
     refine hnext_spec (i:=(o.shape:Int)) h3 (by simp only[nU];omega) oM oM fun s4 O4 tg4 h4 hU4 hT4=>?_
     rw[next_put]at h4
     rw[nextN_put]
     have hn4:=hU4.next
     simp only[nU]at hn4
     have c74:s4.at' s.next=some (.cells [.int .i64 k,.int .i64 n,.string y] 31 true):=by
      rw[hU4.keep _ (by simp only[nU];omega) hno7',aP,if_neg hb7];exact c72
     have e1:setH H i x (k,n,y)=putO (nextH H o.shape x) i { L:=setP o.L x (k,n,y),shape:=nextN H o.shape x,proto:=o.proto,epoch:=o.epoch+1 }:=by unfold setH;rw[hat];simp only[hg,Option.isSome_none,Bool.false_eq_true,if_false];rw[if_neg oM,if_neg oM]
     rw[e1]at hR
     have hok:=set_ok h.ok i x (k,n,y)
     have hpr:=set_pro h.ok hpro i x (k,n,y)
     rw[e1]at hok hpr
     have hin3:∀ c,O c∧tg c=j+3→s4.at' c=(s2.put b (.cells [.iface 185 (.pointer (some ⟨ps,0,none⟩)),.int .i64 (o.proto:Int),.int .i64 ((o.epoch+1:Nat):Int)] 184 true)).at' c∧O4 c∧tg4 c=j+3:=fun c hc=>by
      have hp3:=re_pin (O:=O) (tg:=tg) (j:=j+3) (O':=fun c=>O c∧tg c=j+3) hc
      obtain⟨a1,a2,a3⟩:=hT4 c hp3.1 (by rw[hp3.2];omega) (by rw[hp3.2];omega)
      exact⟨a1,a2,a3.trans hp3.2⟩
     have ho4:(putO (nextH H (o.shape:Int) x) i { o with epoch:=o.epoch+1 }).obs[j]?=some { o with epoch:=o.epoch+1 }:=putO_at (o:=o) hij (by rw[(next_obs _ _ _).1];exact hj)
     have hlt4:j<(nextH H (o.shape:Int) x).obs.length:=by rw[(next_obs _ _ _).1];exact hj
     have hUall:Upd s s4 O O4:=(Upd.of_le hl2).trans (hU3.trans hU4)
     by_cases hpos:(0:Int)<((nextN H (o.shape:Int) x:Nat):Int)
     ·have hps4:s4.at' ps=some (.cells [.int .i64 (o.shape:Int),sv] 187 true):=by
       rw[(hin3 ps g3).1,aP,if_neg g4];exact g2
      have hb4:s4.at' b=some (.cells [.iface 185 (.pointer (some ⟨ps,0,none⟩)),.int .i64 (o.proto:Int),.int .i64 ((o.epoch+1:Nat):Int)] 184 true):=by
       rw[(hin3 b hB.pin).1,aP,if_pos rfl]
      have hsl4:SlU 31 3 s4 sv (valsC o.L) o.L.length:=g5.same fun q n c e=>by
       have:=g6 q n c e
       rw[(hin3 _ this.1).1,aP,if_neg this.2.1]
      have hfr4:∀ q m c,sv = .slice (some q) m c→q.block<s4.next:=fun q m c e=>(h4.own _ (hin3 _ (g6 q m c e).1).2.1).2
      have hpsn4:=(h4.own _ (hin3 ps g3).2.1).2
      have hbn4:=(h4.own _ (hin3 b hB.pin).2.1).2
      simp only[↓Zd,Zp,Zs,simprocAttr,HEx,hpos,hps4,c74,rowVal]
      refine wch_app_val oM hsl4 hfr4 fun s5 hn5 hb5 hk5=>?_
      have hps5:s5.at' ps=some (.cells [.int .i64 (o.shape:Int),sv] 187 true):=by
       rw[hk5 ps hpsn4 (fun q n c e e2=>(g6 q n c e).2.2 e2.symm)];exact hps4
      have c75:s5.at' s.next=some (.cells [.int .i64 k,.int .i64 n,.string y] 31 true):=by
       rw[hk5 _ oM (fun q m c e e2=>hno7 (by have:=(g6 q m c e).1.1;rw[← e2]at this;exact this))];exact c74
      simp only[↓Zd,Zp,Zs,simprocAttr,HEx,hps5]
      have hne5:¬ b=ps:=fun e=>g4 e.symm
      have hB6:ObAt lo ((s5.put ps (.cells [.int .i64 ((nextN H (o.shape:Int) x:Nat):Int),sv] 187 true)).put ps (.cells [.int .i64 ((nextN H (o.shape:Int) x:Nat):Int),.slice (some ⟨s4.next+1,0,none⟩) (o.L.length+1) UNK] 187 true)) (N+1+1) b { L:=setP o.L x (k,n,y),shape:=nextN H (o.shape:Int) x,proto:=o.proto,epoch:=o.epoch+1 } (fun c=>(O4 c∧tg4 c=j+3)∨c=s4.next+1):=by
       refine⟨fun c hc=>?_,.inl (hin3 b hB.pin).2,by show o.epoch+1≤_;omega,.inr ⟨by show 0<nextN H (o.shape:Int) x;omega,ps,_,?_,by rw[aP,if_pos rfl],.inl (hin3 ps g3).2,g4,.inr ⟨s4.next+1,[],by rw[hsp];simp,?_,valsC_len _⟩,fun q m c e=>?_⟩⟩
       ·rcases hc with hc|rfl
        ·have:=h4.own c hc.1
         simp only[nU];omega
        ·simp only[nU];omega
       ·rw[aP,if_neg hne5,aP,if_neg hne5,hk5 b hbn4 (fun q m c e e2=>(g6 q m c e).2.1 e2.symm)];exact hb4
       ·rw[aP,if_neg oM,aP,if_neg oM,hb5,hsp,valsC_app,List.append_nil];rfl
       ·cases e
        exact⟨.inr rfl,by show s4.next+1≠b;omega,by show s4.next+1≠ps;omega⟩
      have hU6:Upd s4 ((s5.put ps (.cells [.int .i64 ((nextN H (o.shape:Int) x:Nat):Int),sv] 187 true)).put ps (.cells [.int .i64 ((nextN H (o.shape:Int) x:Nat):Int),.slice (some ⟨s4.next+1,0,none⟩) (o.L.length+1) UNK] 187 true)) (fun c=>O4 c∧tg4 c=j+3) (fun c=>(O4 c∧tg4 c=j+3)∨c=s4.next+1):=by
       refine⟨by simp only[nU];omega,fun c hc hno=>?_,fun c hc=>?_⟩
       ·have hcp:¬ c=ps:=fun e=>hno (e▸(hin3 ps g3).2)
        rw[aP,if_neg hcp,aP,if_neg hcp,hk5 c hc (fun q m k e e2=>hno (by rw[e2];exact (hin3 _ (g6 q m k e).1).2))]
       ·rcases hc with hc|rfl
        ·exact .inl hc
        ·exact .inr oM
      have h6:=h4.setO hij (by simp only[putO,List.length_set];exact hlt4) hb hU6 hB6 (by rw[putO_put];exact hok)
      rw[putO_put]at h6
      exact hR _ _ ⟨hpr,_,_,_,_,_,h6.mono oM⟩ (hUall.trans (re_upd hU6))
     ·have hz:nextN H (o.shape:Int) x=0:=oM
      simp only[↓Zd,Zp,Zs,simprocAttr,HEx,hpos,c74,co165]
      refine hloosen_spec h4 oM oM oM hb ho4 fun s5 pd5 OD5 hb5 hD5 ho5 hne5 hn5 hk5=>?_
      have hno4:¬ O4 s.next:=fun hc=>by
       rcases hU4.own _ hc with h|h
       ·exact hno7' h
       ·simp only[nU]at h;omega
      have c75:s5.at' s.next=some (.cells [.int .i64 k,.int .i64 n,.string y] 31 true):=by
       rw[hk5 _ oM (fun hc=>hno4 hc.1)];exact c74
      simp only[↓Zd,Zp,Zs,simprocAttr,HEx,c75,co166]
      refine dset_spec (k:=k) (n:=n) (y:=y) hD5 oM oM fun s6 OD6 hD6 hn6 hk6 ho6=>?_
      simp only[↓Zd,Zp,simprocAttr,HEx]
      have hpin4:=(hin3 b hB.pin).2
      obtain⟨hB6,hU6⟩:=loose_end (L':=setP o.L x (k,n,y)) hpin4 (h4.own b hpin4.1) hb5 ho5 hne5 hn5 hk5 hD6 hn6 hk6 ho6 (by show o.epoch+1≤_;omega)
      rw[hz]at hok hpr hR
      have h6:=(h4.mono (N':=N+1+1+1) oM).setO hij (by simp only[putO,List.length_set];exact hlt4) hb hU6 hB6 (by rw[putO_put];exact hok)
      rw[putO_put]at h6
      exact hR _ _ ⟨hpr,_,_,_,_,_,h6⟩ (hUall.trans (re_upd hU6))
end
end Go.Proofs.Tryz
end
