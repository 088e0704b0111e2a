/- Lemmas, laid one behind the other by squeeze2.py. -/
import Derived.Test.YtnkichmojbanlaaGreatyC
import Derived.SliceStrings
import Derived.Carry
import Derived.ChangeMaps5
import Derived.ChangeSame
set_option linter.unusedSimpArgs false
set_option linter.unusedVariables false
set_option linter.unusedSectionVars false
set_option linter.defProp false
section
namespace Go.Proofs.Tryz
open Go.Cs
open Go.RowKit (Below)
set_option maxRecDepth 100000
structure Ob where
 L:List (ByteArray×V3)
 shape:Nat
 proto:Nat
 epoch:Nat
structure Hp where
 obs:List Ob
 F:List Sh
 T:List ByteArray
 most:Nat
 maxO:Nat
 maxP:Nat
def HPro(H:Hp):Prop:=∀ (i:Nat) (o:Ob),H.obs[i]?=some o→0<o.shape→∃ l,H.F[o.shape - 1]?=some (o.proto,l)
def obAt(H:Hp)(o:Int):Option Ob:=if 1≤o then H.obs[o.toNat - 1]? else none
def txt(T:List ByteArray)(i:Nat):ByteArray:=T.getD (i - 1) ⟨#[]⟩
def ofI(T:List ByteArray)(x:ByteArray):Nat:=match idxOf T x with
 |some j=>j+1
 |none=>T.length+1
theorem obAt_get{H:Hp}{j:Nat}:obAt H ((j+1:Nat):Int)=H.obs[j]?:=by
 unfold obAt
 rw[if_pos (by omega)]
 congr 1
theorem obAt_none{H:Hp}{o:Int}:obAt H o=none↔¬ (1≤o∧o≤H.obs.length):=by
 unfold obAt
 split
 ·rw[List.getElem?_eq_none_iff];omega
 ·simp;omega
theorem obAt_some{H:Hp}{o:Int}{ob:Ob}(h:obAt H o=some ob):∃ j:Nat,o=((j+1:Nat):Int)∧j<H.obs.length∧H.obs[j]?=some ob:=by
 unfold obAt at h
 split at h
 ·refine⟨o.toNat - 1,by omega,(List.getElem?_eq_some_iff.1 h).1,h⟩
 ·cases h
structure HOk(H:Hp):Prop where
 nodup:H.T.Nodup
 ids:∀ (i:Nat) (t:Sh),H.F[i]?=some t→∀ x∈t.2,1≤x∧x≤H.T.length
 fits:∀ (i:Nat) (o:Ob),H.obs[i]?=some o→0<o.shape→∃ q l,H.F[o.shape - 1]?=some (q,l)∧l.reverse.map (txt H.T)=o.L.map (·.1)
 keys:∀ (i:Nat) (o:Ob),H.obs[i]?=some o→(o.L.map (·.1)).Nodup
 lens:∀ (i:Nat) (o:Ob),H.obs[i]?=some o→o.L.length≤H.maxP
 up:∃ d:Nat→Nat,∀ (i:Nat) (o:Ob),H.obs[i]?=some o→o.proto=0∨o.proto≤H.obs.length∧d o.proto<d (i+1)
 lim:H.maxP≤32∧H.obs.length≤H.maxO∧H.maxO≤200
theorem idx_of_get:∀ {T:List ByteArray},T.Nodup→∀ {j:Nat}{x:ByteArray},T[j]?=some x→idxOf T x=some j:=by
 intro T
 induction T with
 |nil=>intro _ j x h;simp at h
 |cons y T ih =>
  intro hn j x h
  simp only[List.nodup_cons]at hn
  unfold idxOf
  cases j with
  |zero=>simp at h;rw[if_pos h]
  |succ j =>
   have h:T[j]?=some x:=by simpa using h
   rw[if_neg (fun e=>hn.1 (by rw[e];exact List.mem_of_getElem? h)),ih hn.2 h]
   rfl
theorem idx_none:∀ {T:List ByteArray}{x:ByteArray},idxOf T x=none→x ∉ T:=by
 intro T
 induction T with
 |nil=>intro x _;simp
 |cons y T ih =>
  intro x h
  unfold idxOf at h
  split at h
  ·cases h
  ·rename_i e
   have h:=Option.map_eq_none_iff.1 h
   intro hm
   rcases List.mem_cons.1 hm with e2|hm
   ·exact e e2.symm
   ·exact ih h hm
theorem txt_get{T:List ByteArray}{i:Nat}(h1:1≤i)(h2:i≤T.length):T[i - 1]?=some (txt T i):=by
 unfold txt
 rw[List.getElem?_eq_getElem (by omega),List.getD_eq_getElem?_getD,List.getElem?_eq_getElem (by omega)];rfl
theorem ofT_some{T:List ByteArray}{x:ByteArray}{j:Nat}(h:idxOf T x=some j):ofT T x=T:=by unfold ofT;rw[h]
theorem ofT_none{T:List ByteArray}{x:ByteArray}(h:idxOf T x=none):ofT T x=T ++ [x]:=by unfold ofT;rw[h]
theorem ofN_eq(T:List ByteArray)(x:ByteArray):ofN T x=(ofI T x:Int):=by
 unfold ofN ofI
 cases idxOf T x<;>simp
theorem ofT_nodup{T:List ByteArray}(h:T.Nodup)(x:ByteArray):(ofT T x).Nodup:=by
 cases hi:idxOf T x with
 |some j=>rw[ofT_some hi];exact h
 |none =>
  rw[ofT_none hi,List.nodup_append]
  refine⟨h,by simp,fun a ha b hb e=>?_⟩
  simp at hb
  subst hb;subst e
  exact idx_none hi ha
theorem ofT_len(T:List ByteArray)(x:ByteArray):T.length≤(ofT T x).length∧(ofT T x).length≤T.length+1:=by
 cases hi:idxOf T x with
 |some j=>rw[ofT_some hi];omega
 |none=>rw[ofT_none hi];simp
theorem ofT_get{T:List ByteArray}{j:Nat}{y:ByteArray}(x:ByteArray)(h:T[j]?=some y):(ofT T x)[j]?=some y:=by
 cases hi:idxOf T x with
 |some j=>rw[ofT_some hi];exact h
 |none=>rw[ofT_none hi,List.getElem?_append_left (List.getElem?_eq_some_iff.1 h).1];exact h
theorem ofT_txt{T:List ByteArray}{i:Nat}(x:ByteArray)(h1:1≤i)(h2:i≤T.length):txt (ofT T x) i=txt T i:=by
 have:=txt_get (T:=ofT T x) h1 (by have:=ofT_len T x;omega)
 rw[ofT_get x (txt_get h1 h2)]at this
 exact (Option.some.inj this).symm
theorem ofI_ok(T:List ByteArray)(x:ByteArray):1≤ofI T x∧ofI T x≤(ofT T x).length∧txt (ofT T x) (ofI T x)=x:=by
 unfold ofI
 cases hi:idxOf T x with
 |some j =>
  rw[ofT_some hi]
  have:=idx_lt hi
  refine⟨by simp,by simp only;omega,?_⟩
  unfold txt
  simp only[Nat.add_sub_cancel]
  rw[List.getD_eq_getElem?_getD,this.2];rfl
 |none =>
  rw[ofT_none hi]
  refine⟨by simp,by simp,?_⟩
  unfold txt
  simp
theorem getP_some:∀ {L:List (ByteArray×V3)}{x:ByteArray}{v:V3},getP L x=some v→∃ k:Nat,L[k]?=some (x,v):=by
 intro L
 induction L with
 |nil=>intro x v h;cases h
 |cons p L ih =>
  intro x v h
  obtain⟨y,w⟩:=p
  unfold getP at h
  split at h
  ·rename_i e;cases h;exact⟨0,by simp[e]⟩
  ·obtain⟨k,hk⟩:=ih h
   exact⟨k+1,by simpa using hk⟩
theorem getP_get:∀ {L:List (ByteArray×V3)},(L.map (·.1)).Nodup→∀ {k:Nat}{x:ByteArray}{v:V3},L[k]?=some (x,v)→getP L x=some v:=by
 intro L
 induction L with
 |nil=>intro _ k x v h;simp at h
 |cons p L ih =>
  intro hn k x v h
  obtain⟨y,w⟩:=p
  simp only[List.map_cons,List.nodup_cons]at hn
  unfold getP
  cases k with
  |zero=>simp at h;rw[if_pos h.1,h.2]
  |succ k =>
   have h:L[k]?=some (x,v):=by simpa using h
   rw[if_neg (fun e=>hn.1 (by rw[e];exact List.mem_map_of_mem (f:=(·.1)) (List.mem_of_getElem? h)))]
   exact ih hn.2 h
theorem getP_none{L:List (ByteArray×V3)}{x:ByteArray}:getP L x=none↔x ∉ L.map (·.1):=by
 induction L with
 |nil=>simp[getP]
 |cons p L ih =>
  obtain⟨y,w⟩:=p
  unfold getP
  by_cases e:y=x
  ·simp[e]
  ·rw[if_neg e,ih]
   simp only[List.map_cons,List.mem_cons,not_or]
   exact⟨fun h=>⟨fun e2=>e e2.symm,h⟩,fun h=>h.2⟩
theorem setP_some:∀ {L:List (ByteArray×V3)}{x:ByteArray}{v w:V3}{k:Nat},(L.map (·.1)).Nodup→L[k]?=some (x,w)→setP L x v=L.set k (x,v):=by
 intro L
 induction L with
 |nil=>intro x v w k _ h;simp at h
 |cons p L ih =>
  intro x v w k hn h
  obtain⟨y,u⟩:=p
  simp only[List.map_cons,List.nodup_cons]at hn
  unfold setP
  cases k with
  |zero=>simp at h;rw[if_pos h.1];rfl
  |succ k =>
   have h:L[k]?=some (x,w):=by simpa using h
   rw[if_neg (fun e=>hn.1 (by rw[e];exact List.mem_map_of_mem (f:=(·.1)) (List.mem_of_getElem? h))),ih hn.2 h]
   rfl
theorem keys_set{L:List (ByteArray×V3)}{k:Nat}{x:ByteArray}{w v:V3}(h:L[k]?=some (x,w)):(L.set k (x,v)).map (·.1)=L.map (·.1):=by
 rw[List.map_set]
 apply List.ext_getElem?
 intro i
 rw[List.getElem?_set]
 split
 ·rename_i e
  subst e
  have:=(List.getElem?_eq_some_iff.1 h).1
  rw[List.getElem?_map,h]
  simp[this]
 ·rfl
theorem delP_keys:∀ (L:List (ByteArray×V3)) (x:ByteArray),((delP L x).map (·.1)).Sublist (L.map (·.1)):=by
 intro L x
 induction L with
 |nil=>exact .slnil
 |cons p L ih =>
  obtain⟨y,w⟩:=p
  unfold delP
  split
  ·exact .cons _ (List.Sublist.refl _)
  ·exact .cons_cons _ ih
theorem delP_len:∀ (L:List (ByteArray×V3)) (x:ByteArray),(delP L x).length≤L.length:=by
 intro L x
 have:=(delP_keys L x).length_le
 simpa using this
theorem slotL_get:∀ {l:List Nat}{x k:Nat},slotL l x=(k:Int)→l.reverse[k]?=some x:=by
 intro l
 induction l with
 |nil=>intro x k h;simp only[slotL]at h;omega
 |cons y r ih =>
  intro x k h
  unfold slotL at h
  rw[List.reverse_cons]
  split at h
  ·rename_i e
   have:k=r.length:=by omega
   subst this
   rw[List.getElem?_append_right (by simp)]
   simp[e]
  ·have:=ih h
   rw[List.getElem?_append_left (List.getElem?_eq_some_iff.1 this).1]
   exact this
theorem slotL_ge(l:List Nat)(x:Nat) : -1≤slotL l x:=by
 induction l with
 |nil=>simp[slotL]
 |cons y r ih=>unfold slotL;split<;>omega
def slotOf(H:Hp)(id:Int)(x:ByteArray):Int:=match idxOf H.T x with
 |none => -1
 |some j=>slotL (namesOf H.F id) (j+1)
theorem namesOf_at{F:List Sh}{n:Nat}{t:Sh}(hn:0<n)(h:F[n - 1]?=some t):namesOf F (n:Int)=t.2:=by
 unfold namesOf shAt
 rw[if_pos (by omega),Int.toNat_natCast,h]
theorem shAt_at{F:List Sh}{n:Nat}(hn:0<n):shAt F (n:Int)=F[n - 1]?:=by
 unfold shAt
 rw[if_pos (by omega),Int.toNat_natCast]
theorem slot_fits{H:Hp}(h:HOk H){i:Nat}{o:Ob}(ho:H.obs[i]?=some o)(hs:0<o.shape)(x:ByteArray) :
  (slotOf H o.shape x = -1∧getP o.L x=none)∨∃ (k:Nat) (v:V3),slotOf H o.shape x=(k:Int)∧o.L[k]?=some (x,v)∧getP o.L x=some v:=by
 obtain⟨q0,l,h1,h2⟩:=h.fits i o ho hs
 have hl:namesOf H.F (o.shape:Int)=l:=namesOf_at hs h1
 have hno:∀ (k:Nat) (v:V3),o.L[k]?=some (x,v)→∃ n,l.reverse[k]?=some n∧idxOf H.T x=some (n - 1)∧1≤n:=by
  intro k v hk
  have:(l.reverse.map (txt H.T))[k]?=some x:=by rw[h2,List.getElem?_map,hk];rfl
  rw[List.getElem?_map]at this
  obtain⟨n,hn,e⟩:=Option.map_eq_some_iff.1 this
  have hm:n∈l:=by
   have:=List.mem_of_getElem? hn
   simpa using this
  obtain⟨g1,g2⟩:=h.ids _ _ h1 n hm
  refine⟨n,hn,idx_of_get h.nodup ?_,g1⟩
  rw[txt_get g1 g2,e]
 unfold slotOf
 cases hi:idxOf H.T x with
 |none =>
  left
  refine⟨rfl,?_⟩
  cases hg:getP o.L x with
  |none=>rfl
  |some v =>
   obtain⟨k,hk⟩:=getP_some hg
   obtain⟨n,_,h3,_⟩:=hno k v hk
   rw[hi]at h3;cases h3
 |some j =>
  simp only
  rw[hl]
  by_cases hneg:slotL l (j+1)<0
  ·left
   refine⟨by have:=slotL_ge l (j+1);omega,?_⟩
   cases hg:getP o.L x with
   |none=>rfl
   |some v =>
    obtain⟨k,hk⟩:=getP_some hg
    obtain⟨n,h3,h4,h5⟩:=hno k v hk
    rw[hi]at h4
    have:n=j+1:=by have:=Option.some.inj h4;omega
    have hm:n∈l:=by
     have:=List.mem_of_getElem? h3
     simpa using this
    exact absurd (this▸hm) ((slotL_neg l (j+1)).1 hneg)
  ·right
   obtain⟨k,hk⟩:∃ k:Nat,slotL l (j+1)=(k:Int):=⟨(slotL l (j+1)).toNat,by omega⟩
   have h3:=slotL_get hk
   have h4:(o.L.map (·.1))[k]?=some x:=by
    rw[← h2,List.getElem?_map,h3]
    show some (txt H.T (j+1))=some x
    have:=idx_lt hi
    rw[← txt_get (T:=H.T) (by omega) (by omega),Nat.add_sub_cancel,this.2]
   rw[List.getElem?_map]at h4
   obtain⟨⟨y,v⟩,h5,h6⟩:=Option.map_eq_some_iff.1 h4
   simp only at h6
   subst h6
   exact⟨k,v,hk,h5,getP_get (h.keys i o ho) h5⟩
theorem up_same{l:List Ob}{i:Nat}{o o':Ob}(hi:l[i]?=some o)(hp:o'.proto=o.proto)(h:∃ d:Nat→Nat,∀ (j:Nat) (o:Ob),l[j]?=some o→o.proto=0∨o.proto≤l.length∧d o.proto<d (j+1)) :
  ∃ d:Nat→Nat,∀ (j:Nat) (u:Ob),(l.set i o')[j]?=some u→u.proto=0∨u.proto≤(l.set i o').length∧d u.proto<d (j+1):=by
 obtain⟨d,h⟩:=h
 refine⟨d,fun j u hu=>?_⟩
 rw[List.length_set]
 rw[List.getElem?_set]at hu
 split at hu
 ·rename_i e
  subst e
  split at hu
  ·cases hu;rw[hp];exact h i o hi
  ·cases hu
 ·exact h j u hu
theorem HOk.upd{H:Hp}(h:HOk H){i:Nat}{o o':Ob}(hi:H.obs[i]?=some o){F':List Sh}{T':List ByteArray}(hF:∀ (j:Nat) (t:Sh),H.F[j]?=some t→F'[j]?=some t)(hT:∀ (j:Nat),1≤j→j≤H.T.length→txt T' j=txt H.T j)(hTl:H.T.length≤T'.length)(hTn:T'.Nodup)
  (hids:∀ (i:Nat) (t:Sh),F'[i]?=some t→∀ x∈t.2,1≤x∧x≤T'.length)(hfit:0<o'.shape→∃ q l,F'[o'.shape - 1]?=some (q,l)∧l.reverse.map (txt T')=o'.L.map (·.1))(hkeys:(o'.L.map (·.1)).Nodup)(hlen:o'.L.length≤H.maxP)
  (hup:∃ d:Nat→Nat,∀ (j:Nat) (u:Ob),(H.obs.set i o')[j]?=some u→u.proto=0∨u.proto≤(H.obs.set i o').length∧d u.proto<d (j+1)) :
  HOk { H with obs:=H.obs.set i o',F:=F',T:=T' }:=by
 refine⟨hTn,hids,fun j u hu hs=>?_,fun j u hu=>?_,fun j u hu=>?_,hup,by simpa using h.lim⟩
 ·simp only[List.getElem?_set]at hu
  split at hu
  ·split at hu
   ·cases hu;exact hfit hs
   ·cases hu
  ·obtain⟨q0,l,h1,h2⟩:=h.fits j u hu hs
   refine⟨q0,l,hF _ _ h1,?_⟩
   rw[← h2]
   apply List.map_congr_left
   intro n hn
   have:=h.ids _ _ h1 n (by simpa using hn)
   exact hT n this.1 this.2
 ·simp only[List.getElem?_set]at hu
  split at hu
  ·split at hu
   ·cases hu;exact hkeys
   ·cases hu
  ·exact h.keys j u hu
 ·simp only[List.getElem?_set]at hu
  split at hu
  ·split at hu
   ·cases hu;exact hlen
   ·cases hu
  ·exact h.lens j u hu
theorem HOk.more{H:Hp}(h:HOk H){F':List Sh}{T':List ByteArray}(hF:∀ (j:Nat) (t:Sh),H.F[j]?=some t→F'[j]?=some t)(hT:∀ (j:Nat),1≤j→j≤H.T.length→txt T' j=txt H.T j)(hTl:H.T.length≤T'.length)(hTn:T'.Nodup)
  (hids:∀ (i:Nat) (t:Sh),F'[i]?=some t→∀ x∈t.2,1≤x∧x≤T'.length):HOk { H with F:=F',T:=T' }:=by
 refine⟨hTn,hids,fun j u hu hs=>?_,h.keys,h.lens,h.up,h.lim⟩
 obtain⟨q0,l,h1,h2⟩:=h.fits j u hu hs
 refine⟨q0,l,hF _ _ h1,?_⟩
 rw[← h2]
 apply List.map_congr_left
 intro n hn
 have:=h.ids _ _ h1 n (by simpa using hn)
 exact hT n this.1 this.2
theorem growF_get{F:List Sh}{most:Nat}{t u:Sh}{j:Nat}(h:F[j]?=some u):(growF F most t)[j]?=some u:=by
 unfold growF
 split
 ·exact h
 ·split
  ·rw[List.getElem?_append_left (List.getElem?_eq_some_iff.1 h).1];exact h
  ·exact h
theorem growF_mem{F:List Sh}{most:Nat}{t u:Sh}{j:Nat}(h:(growF F most t)[j]?=some u):F[j]?=some u∨u=t:=by
 unfold growF at h
 split at h
 ·exact .inl h
 ·split at h
  ·by_cases hj:j<F.length
   ·rw[List.getElem?_append_left hj]at h;exact .inl h
   ·rw[List.getElem?_append_right (by omega)]at h
    have h0:j - F.length=0:=by
     have:=(List.getElem?_eq_some_iff.1 h).1
     simp at this;omega
    rw[h0]at h
    simp at h
    exact .inr h.symm
  ·exact .inl h
theorem growN_get{F:List Sh}{most:Nat}{t:Sh}(h:0<growN F most t):(growF F most t)[growN F most t - 1]?=some t:=by
 unfold growN growF at *
 by_cases hm:t∈F
 ·simp only[if_pos hm,Nat.add_sub_cancel]
  have:=List.idxOf_lt_length_of_mem hm
  rw[List.getElem?_eq_getElem this,List.getElem_idxOf this]
 ·simp only[if_neg hm]at h ⊢
  split at h
  ·rename_i hl;simp[hl]
  ·omega
theorem addF_get{F:List Sh}{most x:Nat}{i:Int}{u:Sh}{j:Nat}(h:F[j]?=some u):(addF F most i x)[j]?=some u:=by
 unfold addF
 split
 ·exact h
 ·split
  ·exact h
  ·exact growF_get h
theorem addF_mem{F:List Sh}{most x:Nat}{i:Int}{u:Sh}{j:Nat}(h:(addF F most i x)[j]?=some u):F[j]?=some u∨∃ t,shAt F i=some t∧u=(t.1,x::t.2):=by
 unfold addF at h
 split at h
 ·exact .inl h
 ·rename_i t ht
  split at h
  ·exact .inl h
  ·rcases growF_mem h with h|h
   ·exact .inl h
   ·exact .inr ⟨t,ht,h⟩
theorem addN_get{F:List Sh}{most x:Nat}{i:Int}(h:0<addN F most i x):∃ t,shAt F i=some t∧(addF F most i x)[addN F most i x - 1]?=some (t.1,x::t.2):=by
 unfold addN addF at *
 split at h
 ·omega
 ·rename_i t ht
  split at h
  ·omega
  ·rename_i hc
   refine⟨t,by first|rfl|exact ht,?_⟩
   simp only[if_neg hc]
   exact growN_get h
theorem shAt_mem{F:List Sh}{i:Int}{t:Sh}(h:shAt F i=some t):∃ j:Nat,F[j]?=some t:=by
 unfold shAt at h
 split at h
 ·exact⟨_,h⟩
 ·cases h
theorem addF_ids{F:List Sh}{most x m:Nat}{i:Int}(h:∀ (j:Nat) (t:Sh),F[j]?=some t→∀ y∈t.2,1≤y∧y≤m)(hx:1≤x∧x≤m):∀ (j:Nat) (t:Sh),(addF F most i x)[j]?=some t→∀ y∈t.2,1≤y∧y≤m:=by
 intro j t ht y hy
 rcases addF_mem ht with h1|⟨u,hu,rfl⟩
 ·exact h j t h1 y hy
 ·rcases List.mem_cons.1 hy with rfl|hy
  ·exact hx
  ·obtain⟨k,hk⟩:=shAt_mem hu
   exact h k u hk y hy
end Go.Proofs.Tryz
namespace Go.Proofs.Tryz
open Go.Cs
open Go.RowKit (Below)
set_option maxRecDepth 100000
attribute [local irreducible] QC WLoop WScope CRound WRange
theorem as_ss(v:Value):cassert Tryz.prog (.iface 88 v) 88 true=some (.tuple #[v,.bool true]):=by kernel_rfl
theorem as_sl(v:Value):cassert Tryz.prog (.iface 88 v) 115 true=some (.tuple #[.agg #[.pointer none],.bool false]):=by kernel_rfl
theorem as_ls(v:Value):cassert Tryz.prog (.iface 115 v) 88 true=some (.tuple #[.pointer none,.bool false]):=by kernel_rfl
theorem as_ll(v:Value):cassert Tryz.prog (.iface 115 v) 115 true=some (.tuple #[v,.bool true]):=by kernel_rfl
theorem bVal0:cbuild Tryz.prog 36 #[]=some (.agg #[.int .i64 0,.int .i64 0,.string ⟨#[]⟩]):=by kernel_rfl
def HEx:=(And.intro (And.intro (And.intro (And.intro (And.intro (And.intro (And.intro @underlying3 (And.intro @underlying4 @underlying9)) (And.intro @underlying36 (And.intro @is36 @ag36))) (And.intro (And.intro @ce36 (And.intro @fa36x0 @fa36x1)) (And.intro (And.intro @fa36x2 @ag3) (And.intro @ce3 @ag9)))) (And.intro (And.intro (And.intro @ce9 (And.intro @underlying5 @underlying53)) (And.intro @underlying0 (And.intro @be4 @bn4))) (And.intro (And.intro @sz3 (And.intro @sz168 @ce168)) (And.intro (And.intro @ze3 @sz195) (And.intro @underlying210 @underlying169))))) (And.intro (And.intro (And.intro (And.intro @underlying168 (And.intro @underlying67 @ag67)) (And.intro @ag169 (And.intro @ag168 @nf210))) (And.intro (And.intro @nt210 (And.intro @ng210 @nn210)) (And.intro (And.intro @nf67 @nf168) (And.intro @nt168 @fa171x0)))) (And.intro (And.intro (And.intro @fa171x1 (And.intro @fa171x2 @fa195x0)) (And.intro @fa195x1 (And.intro @fa195x2 @fa195x3))) (And.intro (And.intro @fa195x4 (And.intro @is3 @sz9)) (And.intro (And.intro @is9 @ze9) (And.intro @sz4 @is4)))))) (And.intro (And.intro (And.intro (And.intro (And.intro @ce4 (And.intro @ag4 @ze4)) (And.intro @sz53 (And.intro @is53 @ce53))) (And.intro (And.intro @ag53 (And.intro @ze53 @sz36)) (And.intro (And.intro @ze36 @underlying74) (And.intro @sz74 @is74)))) (And.intro (And.intro (And.intro @ce74 (And.intro @ag74 @ze74)) (And.intro @fa74x0 (And.intro @fa74x1 @fa74x2))) (And.intro (And.intro @fa74x3 (And.intro @fa74x4 @underlying23)) (And.intro (And.intro @sz23 @is23) (And.intro @ce23 @ag23))))) (And.intro (And.intro (And.intro (And.intro @ze23 (And.intro @nt23 @nn23)) (And.intro @nf23 (And.intro @ng23 @underlying72))) (And.intro (And.intro @sz72 (And.intro @is72 @ce72)) (And.intro (And.intro @ag72 @ze72) (And.intro @underlying111 @sz111)))) (And.intro (And.intro (And.intro @is111 (And.intro @ce111 @ag111)) (And.intro (And.intro @ze111 @nt111) (And.intro @nn111 @nf111))) (And.intro (And.intro @ng111 (And.intro @underlying119 @sz119)) (And.intro (And.intro @is119 @ce119) (And.intro @ag119 @ze119))))))) (And.intro (And.intro (And.intro (And.intro (And.intro (And.intro @fa119x0 (And.intro @fa119x1 @fa119x2)) (And.intro @underlying117 (And.intro @sz117 @is117))) (And.intro (And.intro @ce117 (And.intro @ag117 @ze117)) (And.intro (And.intro @underlying88 @sz88) (And.intro @is88 @ce88)))) (And.intro (And.intro (And.intro @ag88 (And.intro @ze88 @nt88)) (And.intro @nn88 (And.intro @nf88 @ng88))) (And.intro (And.intro @underlying92 (And.intro @sz92 @is92)) (And.intro (And.intro @ce92 @ag92) (And.intro @ze92 @fa92x0))))) (And.intro (And.intro (And.intro (And.intro @fa92x1 (And.intro @underlying115 @sz115)) (And.intro @is115 (And.intro @ce115 @ag115))) (And.intro (And.intro @ze115 (And.intro @fa115x0 @underlying90)) (And.intro (And.intro @sz90 @is90) (And.intro @ce90 @ag90)))) (And.intro (And.intro (And.intro @ze90 (And.intro @underlying112 @sz112)) (And.intro (And.intro @is112 @ce112) (And.intro @ag112 @ze112))) (And.intro (And.intro @nt112 (And.intro @nn112 @nf112)) (And.intro (And.intro @ng112 @sz67) (And.intro @is67 @ce67)))))) (And.intro (And.intro (And.intro (And.intro (And.intro @ze67 (And.intro @nt67 @nn67)) (And.intro @ng67 (And.intro @underlying69 @sz69))) (And.intro (And.intro @is69 (And.intro @ce69 @ag69)) (And.intro (And.intro @ze69 @nt69) (And.intro @nn69 @nf69)))) (And.intro (And.intro (And.intro @ng69 (And.intro @underlying135 @sz135)) (And.intro @is135 (And.intro @ce135 @ag135))) (And.intro (And.intro @underlying206 (And.intro @sz206 @is206)) (And.intro (And.intro @ce206 @ag206) (And.intro @underlying109 @sz109))))) (And.intro (And.intro (And.intro (And.intro @is109 (And.intro @ce109 @ag109)) (And.intro @underlying149 (And.intro @sz149 @is149))) (And.intro (And.intro @ce149 (And.intro @ag149 @underlying192)) (And.intro (And.intro @sz192 @is192) (And.intro @ce192 @ag192)))) (And.intro (And.intro (And.intro @underlying54 (And.intro @sz54 @is54)) (And.intro (And.intro @ce54 @ag54) (And.intro @o_assert @f_assert))) (And.intro (And.intro @o_mkIface (And.intro @f_mkIface @as_ss)) (And.intro (And.intro @as_sl @as_ls) (And.intro @as_ll @bVal0))))))))
def valC(p:ByteArray×V3):List Value:=[.int .i64 p.2.1,.int .i64 p.2.2.1,.string p.2.2.2]
def valsC(L:List (ByteArray×V3)):List Value:=L.flatMap valC
theorem valsC_len(L:List (ByteArray×V3)):(valsC L).length=L.length*3:=by
 induction L with
 |nil=>rfl
 |cons p L ih =>
  show (valC p++valsC L).length=_
  rw[List.length_append,ih,List.length_cons];show 3+_=_;omega
theorem valsC_app(L L2:List (ByteArray×V3)):valsC (L++L2)=valsC L++valsC L2:=by unfold valsC;simp
theorem valsC_cut:∀ (L:List (ByteArray×V3)) (k:Nat) (x:ByteArray) (v:V3) (junk:List Value),L[k]?=some (x,v)→k*3+3≤(valsC L++junk).length∧List.take 3 (List.drop (k*3) (valsC L++junk))=[.int .i64 v.1,.int .i64 v.2.1,.string v.2.2]:=by
 intro L
 induction L with
 |nil=>intro k x v junk h;simp at h
 |cons p L ih =>
  intro k x v junk h
  cases k with
  |zero =>
   simp at h
   subst h
   exact⟨by show 3≤_;rw[List.length_append,valsC_len];simp;omega,rfl⟩
  |succ k =>
   have h:L[k]?=some (x,v):=by simpa using h
   obtain⟨h1,h2⟩:=ih k x v junk h
   have e:valsC (p::L)++junk=valC p++(valsC L++junk):=by show (valC p++valsC L)++junk=_;rw[List.append_assoc]
   rw[e]
   refine⟨by rw[List.length_append];show _≤3+_;omega,?_⟩
   rw[show (k+1)*3=3+k*3 from by omega,← List.drop_drop]
   exact h2
theorem valsC_set:∀ (L:List (ByteArray×V3)) (k:Nat) (x:ByteArray) (v w:V3) (junk:List Value),L[k]?=some (x,w)→setCells (valsC L++junk) (k*3) [.int .i64 v.1,.int .i64 v.2.1,.string v.2.2]=valsC (L.set k (x,v))++junk:=by
 intro L k x v w junk h
 have hl:=(List.getElem?_eq_some_iff.1 h).1
 rw[setCells_eq _ _ _ (by rw[List.length_append,valsC_len];simp;omega)]
 have e:L=L.take k++(x,w)::L.drop (k+1):=by
  rw[← (List.getElem?_eq_some_iff.1 h).2];simp
 have e2:L.set k (x,v)=L.take k++(x,v)::L.drop (k+1):=by rw[List.set_eq_take_append_cons_drop,if_pos hl]
 have hk:(valsC (L.take k)).length=k*3:=by rw[valsC_len,List.length_take];congr 1;omega
 have e3:valsC L++junk=valsC (L.take k)++(valC (x,w)++(valsC (L.drop (k+1))++junk)):=by
  conv=>lhs;rw[e]
  rw[valsC_app]
  show valsC (L.take k)++(valC (x,w)++valsC (L.drop (k+1)))++junk=_
  simp only[List.append_assoc]
 rw[e2,valsC_app,e3]
 show _=valsC (L.take k)++(valC (x,v)++valsC (L.drop (k+1)))++junk
 rw[List.take_append_of_le_length (by omega),List.take_of_length_le (by omega),show k*3 + [Value.int .i64 v.1,.int .i64 v.2.1,.string v.2.2].length=(valsC (L.take k)).length+3 from by rw[hk];rfl,List.drop_append]
 have hd:List.drop ((valsC (L.take k)).length+3) (valsC (L.take k))=[]:=List.drop_eq_nil_of_le (by omega)
 rw[hd,Nat.add_sub_cancel_left,List.nil_append]
 simp only[List.append_assoc]
 rfl
section
variable {M:Type}[Mem M]{w0:World}{s:St M}{R:Value→St M→Prop}
theorem DictAt.mono{lo:Nat}{s:St M}{p:Nat}{L:List (ByteArray×V3)}{N N':Nat}{O:Nat→Prop}(h:DictAt lo s p L N O)(hN:N≤N'):DictAt lo s p L N' O:=by
 obtain⟨h1,h2,P,m,sl,es,clock,kv,h3,hP,h⟩:=h
 exact⟨h1,h2,P,m,sl,es,clock,kv,h3,by omega,h⟩
structure ObAt(lo:Nat)(s:St M)(N:Nat)(b:Nat)(o:Ob)(O:Nat→Prop):Prop where
 own:∀ c,O c→lo≤c∧c<s.next
 pin:O b
 ep:o.epoch≤N
 bl:(o.shape=0∧∃ pd OD,s.at' b=some (.cells [.iface 115 (.agg #[.pointer (some ⟨pd,0,none⟩)]),.int .i64 (o.proto:Int),.int .i64 (o.epoch:Int)] 119 true)∧DictAt lo s pd o.L N OD∧(∀ c,OD c→O c∧c≠b)) ∨
  (0<o.shape∧∃ ps sl,s.at' b=some (.cells [.iface 88 (.pointer (some ⟨ps,0,none⟩)),.int .i64 (o.proto:Int),.int .i64 (o.epoch:Int)] 119 true)∧s.at' ps=some (.cells [.int .i64 (o.shape:Int),sl] 92 true)∧O ps∧ps≠b ∧
   SlU 36 3 s sl (valsC o.L) o.L.length∧(∀ q n c,sl = .slice (some q) n c→O q.block∧q.block≠b∧q.block≠ps))
theorem ObAt.same{lo:Nat}{s s':St M}{N b:Nat}{o:Ob}{O:Nat→Prop}(h:ObAt lo s N b o O)(hn:s.next≤s'.next)(hs:∀ c,O c→s'.at' c=s.at' c):ObAt lo s' N b o O:=by
 obtain⟨h1,h2,h3,h4⟩:=h
 refine⟨fun c hc=>⟨(h1 c hc).1,by have:=(h1 c hc).2;omega⟩,h2,h3,?_⟩
 rcases h4 with ⟨h5,pd,OD,h6,h7,h8⟩|⟨h5,ps,sl,h6,h7,h8,h9,h10,h11⟩
 ·exact .inl ⟨h5,pd,OD,by rw[hs _ h2];exact h6,h7.same hn fun c hc=>hs c (h8 c hc).1,h8⟩
 ·exact .inr ⟨h5,ps,sl,by rw[hs _ h2];exact h6,by rw[hs _ h8];exact h7,h8,h9,h10.same fun q n c e=>hs _ (h11 q n c e).1,h11⟩
theorem ObAt.mono{lo:Nat}{s:St M}{N N' b:Nat}{o:Ob}{O:Nat→Prop}(h:ObAt lo s N b o O)(hN:N≤N'):ObAt lo s N' b o O:=by
 obtain⟨h1,h2,h3,h4⟩:=h
 refine⟨h1,h2,by omega,?_⟩
 rcases h4 with ⟨h5,pd,OD,h6,h7,h8⟩|h
 ·exact .inl ⟨h5,pd,OD,h6,h7.mono hN,h8⟩
 ·exact .inr h
def ptrs(l:List Nat):List Value:=l.map fun b => .pointer (some ⟨b,0,none⟩)
theorem ptrs_len(l:List Nat):(ptrs l).length=l.length:=by simp[ptrs]
theorem ptrs_get{l:List Nat}{k b:Nat}(junk:List Value)(h:l[k]?=some b):(ptrs l++junk)[k]?=some (.pointer (some ⟨b,0,none⟩)):=by
 rw[List.getElem?_append_left (by rw[ptrs_len];exact (List.getElem?_eq_some_iff.1 h).1)]
 simp[ptrs,h]
structure HpIn(lo:Nat)(s:St M)(p:Nat)(H:Hp)(N:Nat)(O:Nat→Prop)(tg:Nat→Nat)(pf pn:Nat)(sl:Value)(bs:List Nat):Prop where
 own:∀ b,O b→lo≤b∧b<s.next
 ok:HOk H
 tn:H.T.length≤N
 pin:O p∧tg p=0
 bl:s.at' p=some (.cells [sl,.pointer (some ⟨pf,0,none⟩),.pointer (some ⟨pn,0,none⟩),.int .i64 (H.maxO:Int),.int .i64 (H.maxP:Int)] 74 true)
 row:SlU 111 1 s sl (ptrs bs) bs.length
 rowO:∀ q n c,sl = .slice (some q) n c→O q.block∧tg q.block=0∧q.block≠p
 fo:FAt lo s pf H.F H.most (fun b=>O b∧tg b=1)
 ta:TabAt lo s pn H.T (fun b=>O b∧tg b=2)
 len:bs.length=H.obs.length
 obj:∀ (i b:Nat) (o:Ob),bs[i]?=some b→H.obs[i]?=some o→ObAt lo s N b o (fun c=>O c∧tg c=i+3)
def HpAt(lo:Nat)(s:St M)(p:Nat)(H:Hp)(N:Nat)(O:Nat→Prop):Prop:=HPro H∧∃ tg pf pn sl bs,HpIn lo s p H N O tg pf pn sl bs
theorem HpIn.same{lo:Nat}{s s':St M}{p:Nat}{H:Hp}{N:Nat}{O:Nat→Prop}{tg:Nat→Nat}{pf pn:Nat}{sl:Value}{bs:List Nat}(h:HpIn lo s p H N O tg pf pn sl bs)(hn:s.next≤s'.next)(hs:∀ c,O c→s'.at' c=s.at' c):HpIn lo s' p H N O tg pf pn sl bs:=
 ⟨fun b hb=>⟨(h.own b hb).1,by have:=(h.own b hb).2;omega⟩,h.ok,h.tn,h.pin,by rw[hs _ h.pin.1];exact h.bl,h.row.same fun q n c e=>hs _ (h.rowO q n c e).1,h.rowO,h.fo.same hn fun b hb=>hs b hb.1,h.ta.same hn fun b hb=>hs b hb.1,h.len,fun i b o h1 h2=>(h.obj i b o h1 h2).same hn fun c hc=>hs c hc.1⟩
theorem HpIn.le{lo:Nat}{s s':St M}{p:Nat}{H:Hp}{N:Nat}{O:Nat→Prop}{tg:Nat→Nat}{pf pn:Nat}{sl:Value}{bs:List Nat}(h:HpIn lo s p H N O tg pf pn sl bs)(hs:s.le s'):HpIn lo s' p H N O tg pf pn sl bs:=h.same hs.1 fun c hc=>hs.2 c (h.own c hc).2
theorem HpIn.mono{lo:Nat}{s:St M}{p:Nat}{H:Hp}{N N':Nat}{O:Nat→Prop}{tg:Nat→Nat}{pf pn:Nat}{sl:Value}{bs:List Nat}(h:HpIn lo s p H N O tg pf pn sl bs)(hN:N≤N'):HpIn lo s p H N' O tg pf pn sl bs:=
 ⟨h.own,h.ok,by have:=h.tn;omega,h.pin,h.bl,h.row,h.rowO,h.fo,h.ta,h.len,fun i b o h1 h2=>(h.obj i b o h1 h2).mono hN⟩
theorem HpAt.same{lo:Nat}{s s':St M}{p:Nat}{H:Hp}{N:Nat}{O:Nat→Prop}(h:HpAt lo s p H N O)(hn:s.next≤s'.next)(hs:∀ c,O c→s'.at' c=s.at' c):HpAt lo s' p H N O:=by
 obtain⟨hp,tg,pf,pn,sl,bs,h⟩:=h
 exact⟨hp,tg,pf,pn,sl,bs,h.same hn hs⟩
theorem HpAt.own{lo:Nat}{s:St M}{p:Nat}{H:Hp}{N:Nat}{O:Nat→Prop}(h:HpAt lo s p H N O):∀ b,O b→lo≤b∧b<s.next:=by
 obtain⟨hp,tg,pf,pn,sl,bs,h⟩:=h
 exact h.own
theorem HpAt.ok{lo:Nat}{s:St M}{p:Nat}{H:Hp}{N:Nat}{O:Nat→Prop}(h:HpAt lo s p H N O):HOk H:=by
 obtain⟨hp,tg,pf,pn,sl,bs,h⟩:=h
 exact h.ok
theorem HpAt.fok{lo:Nat}{s:St M}{p:Nat}{H:Hp}{N:Nat}{O:Nat→Prop}(h:HpAt lo s p H N O):FOk H.F:=by
 obtain⟨hp,tg,pf,pn,sl,bs,h⟩:=h
 exact h.fo.ok
theorem HpAt.le{lo:Nat}{s s':St M}{p:Nat}{H:Hp}{N:Nat}{O:Nat→Prop}(h:HpAt lo s p H N O)(hs:s.le s'):HpAt lo s' p H N O:=h.same hs.1 fun c hc=>hs.2 c (h.own c hc).2
theorem HpAt.mono{lo:Nat}{s:St M}{p:Nat}{H:Hp}{N N':Nat}{O:Nat→Prop}(h:HpAt lo s p H N O)(hN:N≤N'):HpAt lo s p H N' O:=by
 obtain⟨hp,tg,pf,pn,sl,bs,h⟩:=h
 exact⟨hp,tg,pf,pn,sl,bs,h.mono hN⟩
def reO(O:Nat→Prop)(tg:Nat→Nat)(k:Nat)(O':Nat→Prop):Nat→Prop:=fun b=>(O b∧tg b≠k)∨O' b
open Classical in
noncomputable def reT (tg:Nat→Nat) (k:Nat) (O':Nat→Prop):Nat→Nat:=fun b=>if O' b then k else tg b
theorem re_same(O:Nat→Prop)(tg:Nat→Nat)(k:Nat)(O':Nat→Prop):(fun b=>reO O tg k O' b∧reT tg k O' b=k)=O':=by
 funext b
 apply propext
 unfold reO reT
 by_cases h:O' b
 ·simp[h]
 ·simp only[h,if_false,or_false,iff_false]
  rintro⟨⟨_,h2⟩,h3⟩
  exact h2 h3
theorem re_other{O:Nat→Prop}{tg:Nat→Nat}{k j n:Nat}{O':Nat→Prop}(hO:∀ b,O b→b<n)(h:∀ b,O' b→(O b∧tg b=k)∨n≤b)(hjk:j≠k):(fun b=>reO O tg k O' b∧reT tg k O' b=j)=fun b=>O b∧tg b=j:=by
 funext b
 apply propext
 unfold reO reT
 by_cases hb:O' b
 ·simp only[hb,or_true,if_true,true_and]
  constructor
  ·intro e;exact absurd e.symm hjk
  ·rintro⟨h1,h2⟩
   rcases h b hb with ⟨_,h3⟩|h3
   ·rw[h2]at h3;exact absurd h3 hjk
   ·have:=hO b h1;omega
 ·simp only[hb,or_false,if_false]
  constructor
  ·rintro⟨⟨h1,_⟩,h2⟩;exact⟨h1,h2⟩
  ·rintro⟨h1,h2⟩;exact⟨⟨h1,by rw[h2];exact hjk⟩,h2⟩
theorem re_own{O:Nat→Prop}{tg:Nat→Nat}{k lo n n':Nat}{O':Nat→Prop}(hO:∀ b,O b→lo≤b∧b<n)(hn:n≤n')(h:∀ b,O' b→lo≤b∧b<n'):∀ b,reO O tg k O' b→lo≤b∧b<n':=by
 intro b hb
 rcases hb with ⟨h1,_⟩|h1
 ·have:=hO b h1;omega
 ·exact h b h1
theorem re_upd{s s':St M}{O:Nat→Prop}{tg:Nat→Nat}{k:Nat}{O':Nat→Prop}(hU:Upd s s' (fun b=>O b∧tg b=k) O'):Upd s s' O (reO O tg k O'):=by
 refine⟨hU.next,fun b hb ho=>hU.keep b hb fun h=>ho h.1,fun b hb=>?_⟩
 rcases hb with ⟨h1,_⟩|h1
 ·exact .inl h1
 ·rcases hU.own b h1 with h|h
  ·exact .inl h.1
  ·exact .inr h
theorem re_keep{s s':St M}{O:Nat→Prop}{tg:Nat→Nat}{k:Nat}{O':Nat→Prop}{lo:Nat}(hO:∀ b,O b→lo≤b∧b<s.next)(hU:Upd s s' (fun b=>O b∧tg b=k) O'):∀ b,O b→tg b≠k→s'.at' b=s.at' b:=
 fun b hb ht=>hU.keep b (hO b hb).2 fun h=>ht h.2
theorem re_tag{O:Nat→Prop}{tg:Nat→Nat}{k j n b:Nat}{O':Nat→Prop}(hO:∀ b,O b→b<n)(h:∀ b,O' b→(O b∧tg b=k)∨n≤b)(hjk:j≠k)(hb:O b∧tg b=j):reO O tg k O' b∧reT tg k O' b=j:=by
 have:=congrFun (re_other hO h hjk) b
 exact this.mpr hb
theorem HpIn.newF{lo:Nat}{s s':St M}{p:Nat}{H:Hp}{N:Nat}{O O':Nat→Prop}{tg:Nat→Nat}{pf pn:Nat}{sl:Value}{bs:List Nat}{F':List Sh}(h:HpIn lo s p H N O tg pf pn sl bs)(hU:Upd s s' (fun b=>O b∧tg b=1) O')(hF:FAt lo s' pf F' H.most O')(hok:HOk { H with F:=F' }) :
  HpIn lo s' p { H with F:=F' } N (reO O tg 1 O') (reT tg 1 O') pf pn sl bs:=by
 have hO:∀ b,O b→b<s.next:=fun b hb=>(h.own b hb).2
 have hw:∀ b,O' b→(O b∧tg b=1)∨s.next≤b:=hU.own
 have hk:=re_keep h.own hU
 refine⟨re_own h.own hU.next hF.own,hok,h.tn,re_tag hO hw (by omega) h.pin,?_,h.row.same fun q n c e=>?_,fun q n c e=>?_,?_,?_,h.len,fun i b o h1 h2=>?_⟩
 ·rw[hk p h.pin.1 (by rw[h.pin.2];omega)];exact h.bl
 ·have:=h.rowO q n c e
  exact hk _ this.1 (by rw[this.2.1];omega)
 ·have:=h.rowO q n c e
  have h2:=re_tag hO hw (j:=0) (by omega) ⟨this.1,this.2.1⟩
  exact⟨h2.1,h2.2,this.2.2⟩
 ·rw[re_same];exact hF
 ·rw[re_other hO hw (by omega)]
  exact h.ta.same hU.next fun b hb=>hk b hb.1 (by rw[hb.2];omega)
 ·rw[re_other hO hw (by omega)]
  exact (h.obj i b o h1 h2).same hU.next fun c hc=>hk c hc.1 (by rw[hc.2];omega)
theorem HpIn.newT{lo:Nat}{s s':St M}{p:Nat}{H:Hp}{N:Nat}{O O':Nat→Prop}{tg:Nat→Nat}{pf pn:Nat}{sl:Value}{bs:List Nat}{T':List ByteArray}(h:HpIn lo s p H N O tg pf pn sl bs)(hU:Upd s s' (fun b=>O b∧tg b=2) O')(hT:TabAt lo s' pn T' O')(hok:HOk { H with T:=T' })(hTN:T'.length≤N) :
  HpIn lo s' p { H with T:=T' } N (reO O tg 2 O') (reT tg 2 O') pf pn sl bs:=by
 have hO:∀ b,O b→b<s.next:=fun b hb=>(h.own b hb).2
 have hw:∀ b,O' b→(O b∧tg b=2)∨s.next≤b:=hU.own
 have hk:=re_keep h.own hU
 refine⟨re_own h.own hU.next hT.own,hok,hTN,re_tag hO hw (by omega) h.pin,?_,h.row.same fun q n c e=>?_,fun q n c e=>?_,?_,?_,h.len,fun i b o h1 h2=>?_⟩
 ·rw[hk p h.pin.1 (by rw[h.pin.2];omega)];exact h.bl
 ·have:=h.rowO q n c e
  exact hk _ this.1 (by rw[this.2.1];omega)
 ·have:=h.rowO q n c e
  have h2:=re_tag hO hw (j:=0) (by omega) ⟨this.1,this.2.1⟩
  exact⟨h2.1,h2.2,this.2.2⟩
 ·rw[re_other hO hw (by omega)]
  exact h.fo.same hU.next fun b hb=>hk b hb.1 (by rw[hb.2];omega)
 ·rw[re_same];exact hT
 ·rw[re_other hO hw (by omega)]
  exact (h.obj i b o h1 h2).same hU.next fun c hc=>hk c hc.1 (by rw[hc.2];omega)
theorem HpIn.newO{lo:Nat}{s s':St M}{p:Nat}{H:Hp}{N:Nat}{O O':Nat→Prop}{tg:Nat→Nat}{pf pn:Nat}{sl:Value}{bs:List Nat}{j b:Nat}{o':Ob}(h:HpIn lo s p H N O tg pf pn sl bs)(hj:j<H.obs.length)(hb:bs[j]?=some b)(hU:Upd s s' (fun b=>O b∧tg b=j+3) O')(hB:ObAt lo s' N b o' O')(hok:HOk { H with obs:=H.obs.set j o' }) :
  HpIn lo s' p { H with obs:=H.obs.set j o' } N (reO O tg (j+3) O') (reT tg (j+3) O') pf pn sl bs:=by
 have hO:∀ b,O b→b<s.next:=fun b hb=>(h.own b hb).2
 have hw:∀ b,O' b→(O b∧tg b=j+3)∨s.next≤b:=hU.own
 have hk:=re_keep h.own hU
 refine⟨re_own h.own hU.next hB.own,hok,h.tn,re_tag hO hw (by omega) h.pin,?_,h.row.same fun q n c e=>?_,fun q n c e=>?_,?_,?_,by simpa using h.len,fun i b2 o h1 h2=>?_⟩
 ·rw[hk p h.pin.1 (by rw[h.pin.2];omega)];exact h.bl
 ·have:=h.rowO q n c e
  exact hk _ this.1 (by rw[this.2.1];omega)
 ·have:=h.rowO q n c e
  have h2:=re_tag hO hw (j:=0) (by omega) ⟨this.1,this.2.1⟩
  exact⟨h2.1,h2.2,this.2.2⟩
 ·rw[re_other hO hw (by omega)]
  exact h.fo.same hU.next fun b hb=>hk b hb.1 (by rw[hb.2];omega)
 ·rw[re_other hO hw (by omega)]
  exact h.ta.same hU.next fun b hb=>hk b hb.1 (by rw[hb.2];omega)
 ·by_cases e:j=i
  ·subst e
   rw[hb]at h1
   cases h1
   simp only[List.getElem?_set,if_true,hj]at h2
   cases h2
   rw[re_same];exact hB
  ·simp only[List.getElem?_set,e,if_false]at h2
   rw[re_other hO hw (by omega)]
   exact (h.obj i b2 o h1 h2).same hU.next fun c hc=>hk c hc.1 (by rw[hc.2];omega)
theorem HpIn.at{lo:Nat}{s:St M}{p:Nat}{H:Hp}{N:Nat}{O:Nat→Prop}{tg:Nat→Nat}{pf pn:Nat}{sl:Value}{bs:List Nat}(h:HpIn lo s p H N O tg pf pn sl bs){j:Nat}{o:Ob}(ho:H.obs[j]?=some o):∃ b,bs[j]?=some b∧ObAt lo s N b o (fun c=>O c∧tg c=j+3):=by
 have hj:=(List.getElem?_eq_some_iff.1 ho).1
 have hb:bs[j]?=some (bs[j]'(by have:=h.len;omega)):=List.getElem?_eq_getElem _
 exact⟨_,hb,h.obj j _ o hb ho⟩
end
end Go.Proofs.Tryz
namespace Go.Proofs.Tryz
open Go.Cs
open Go.RowKit (Below)
set_option maxRecDepth 100000
attribute [local irreducible] QC WLoop WScope CRound WRange
section
variable {M:Type}[Mem M]{w0:World}{s:St M}{R:Value→St M→Prop}{lo p N pf pn:Nat}{H:Hp}{O:Nat→Prop}{tg:Nat→Nat}{sl:Value}{bs:List Nat}
theorem hdead_spec(h:HpIn lo s p H N O tg pf pn sl bs)(hR:R (.bool false) s):QC Tryz.prog w0 48 #[.pointer (some ⟨p,0,none⟩)] s R:=by
 refine wfun2 hmix ok48 func48 rfl ntmps48 results48 (by simp) ?_
 have hb:=h.bl
 simp -implicitDefEqProofs only[↓Zd,(Zp),simprocAttr,cld2,(HEx),hb]
 exact hR
theorem hfind_spec(h:HpIn lo s p H N O tg pf pn sl bs){i:Int}(hi : -9223372036854775808≤i∧i≤9223372036854775807)
  (hno:obAt H i=none→R (.pointer none) s)(hyes:∀ (j b:Nat) (o:Ob),i=((j+1:Nat):Int)→bs[j]?=some b→H.obs[j]?=some o→obAt H i=some o→R (.pointer (some ⟨b,0,none⟩)) s) :
  QC Tryz.prog w0 58 #[.pointer (some ⟨p,0,none⟩),.int .i64 i] s R:=by
 refine wfun2 hmix ok58 func58 rfl ntmps58 results58 (by simp) ?_
 have hb:=h.bl
 have hl:=h.len
 by_cases i1:i<1
 ·simp -implicitDefEqProofs only[↓Zd,(Zp),simprocAttr,(HEx),i1]
  exact hno (obAt_none.2 (by omega))
 ·have i2:0<i:=by omega
  rcases h.row with ⟨h0,_,rfl⟩|⟨b0,junk,rfl,hb0,_⟩
  ·simp -implicitDefEqProofs only[↓Zd,(Zp),simprocAttr,cld2,(HEx),hb,i1,i2]
   exact hno (obAt_none.2 (by omega))
  ·by_cases i3:(bs.length:Int)<i
   ·simp -implicitDefEqProofs only[↓Zd,(Zp),simprocAttr,cld2,(HEx),hb,i1,i3]
    exact hno (obAt_none.2 (by omega))
   ·obtain⟨j,rfl⟩:∃ j:Nat,i=((j+1:Nat):Int):=⟨(i - 1).toNat,by omega⟩
    have w1:IntKind.i64.wrap (((j+1:Nat):Int) - 1)=(j:Int):=by rw[wrap_i64 (by omega)];omega
    have hj:(0:Int)≤(j:Int)∧(j:Int)<(bs.length:Int):=by omega
    have hg:bs[j]?=some (bs[j]'(by omega)):=List.getElem?_eq_getElem _
    have ho:H.obs[j]?=some (H.obs[j]'(by omega)):=List.getElem?_eq_getElem _
    have hgc:=ptrs_get junk hg
    simp -implicitDefEqProofs only[↓Zd,(Zp),simprocAttr,cld2,(HEx),hb,i1,i3,w1,hj,hb0,hgc]
    exact hyes j _ _ rfl hg ho (by rw[obAt_get,ho])
theorem hlen_spec(h:HpIn lo s p H N O tg pf pn sl bs)(hR:R (.int .i64 (H.obs.length:Int)) s):QC Tryz.prog w0 46 #[.pointer (some ⟨p,0,none⟩)] s R:=by
 refine wfun2 hmix ok46 func46 rfl ntmps46 results46 (by simp) ?_
 have hb:=h.bl
 have hl:=h.len
 rcases h.row with ⟨h0,_,rfl⟩|⟨b0,junk,rfl,hb0,_⟩
 ·have:H.obs.length=0:=by omega
  rw[this]at hR
  simp -implicitDefEqProofs only[↓Zd,(Zp),simprocAttr,cld2,(HEx),hb]
  exact hR
 ·rw[← hl]at hR
  simp -implicitDefEqProofs only[↓Zd,(Zp),simprocAttr,cld2,(HEx),hb]
  exact hR
theorem ObAt.cells{b:Nat}{o:Ob}{OO:Nat→Prop}(h:ObAt lo s N b o OO):∃ t v,s.at' b=some (.cells [.iface t v,.int .i64 (o.proto:Int),.int .i64 (o.epoch:Int)] 119 true):=by
 rcases h.bl with ⟨_,pd,OD,h1,_⟩|⟨_,ps,sl,h1,_⟩
 ·exact⟨_,_,h1⟩
 ·exact⟨_,_,h1⟩
def protoV(H:Hp)(i:Int):Int:=match obAt H i with
 |some o=>(o.proto:Int)
 |none=>0
def epochV(H:Hp)(i:Int):Int:=match obAt H i with
 |some o=>(o.epoch:Int)
 |none=>0
def shapeV(H:Hp)(i:Int):Int:=match obAt H i with
 |some o=>(o.shape:Int)
 |none=>0
theorem hproto_spec(h:HpIn lo s p H N O tg pf pn sl bs){i:Int}(hi : -9223372036854775808≤i∧i≤9223372036854775807)(hR:R (.int .i64 (protoV H i)) s):QC Tryz.prog w0 73 #[.pointer (some ⟨p,0,none⟩),.int .i64 i] s R:=by
 refine wfun2 hmix ok73 func73 rfl ntmps73 results73 (by simp) ?_
 unfold protoV at hR
 simp -implicitDefEqProofs only[↓Zd,(Zp),simprocAttr,co58]
 refine hfind_spec h hi (fun hno=>?_) (fun j b o hij hb ho hat=>?_)
 ·rw[hno]at hR
  simp -implicitDefEqProofs only[↓Zd,(Zp),simprocAttr,(HEx)]
  exact hR
 ·rw[hat]at hR
  obtain⟨t,v,hc⟩:=(h.obj j b o hb ho).cells
  simp -implicitDefEqProofs only[↓Zd,(Zp),simprocAttr,cld2,(HEx),hc]
  exact hR
theorem hepoch_spec(h:HpIn lo s p H N O tg pf pn sl bs){i:Int}(hi : -9223372036854775808≤i∧i≤9223372036854775807)(hR:R (.int .i64 (epochV H i)) s):QC Tryz.prog w0 45 #[.pointer (some ⟨p,0,none⟩),.int .i64 i] s R:=by
 refine wfun2 hmix ok45 func45 rfl ntmps45 results45 (by simp) ?_
 unfold epochV at hR
 simp -implicitDefEqProofs only[↓Zd,(Zp),simprocAttr,co58]
 refine hfind_spec h hi (fun hno=>?_) (fun j b o hij hb ho hat=>?_)
 ·rw[hno]at hR
  simp -implicitDefEqProofs only[↓Zd,(Zp),simprocAttr,(HEx)]
  exact hR
 ·rw[hat]at hR
  obtain⟨t,v,hc⟩:=(h.obj j b o hb ho).cells
  simp -implicitDefEqProofs only[↓Zd,(Zp),simprocAttr,cld2,(HEx),hc]
  exact hR
theorem hslotof_spec(h:HpIn lo s p H N O tg pf pn sl bs){i:Int}{x:ByteArray}(hi : -9223372036854775808≤i∧i≤9223372036854775807)(hR:∀ s',s.le s'→R (.int .i64 (slotOf H i x)) s') :
  QC Tryz.prog w0 62 #[.pointer (some ⟨p,0,none⟩),.int .i64 i,.string x] s R:=by
 refine wfun2 hmix ok62 func62 rfl ntmps62 results62 (by simp) ?_
 have hb:=h.bl
 unfold slotOf at hR
 simp -implicitDefEqProofs only[↓Zd,(Zp),simprocAttr,co48]
 refine hdead_spec h ?_
 simp -implicitDefEqProofs only[↓Zd,(Zp),simprocAttr,cld2,(HEx),hb,co112]
 refine find_spec h.ta ?_
 cases hx:idxOf H.T x with
 |none =>
  rw[hx]at hR
  simp -implicitDefEqProofs only[↓Zd,(Zp),simprocAttr,(HEx)]
  exact hR _ (lR _)
 |some j =>
  rw[hx]at hR
  simp -implicitDefEqProofs only[↓Zd,(Zp),simprocAttr,cld2,(HEx),hb,co113]
  refine fslot_spec h.fo hi fun s1 hs1=>?_
  simp -implicitDefEqProofs only[↓Zd,(Zp),simprocAttr,(HEx)]
  exact hR _ hs1
theorem sget_spec(h:HpIn lo s p H N O tg pf pn sl bs){j ps:Nat}{o:Ob}{sv:Value}{x:ByteArray}(ho:H.obs[j]?=some o)(hs0:0<o.shape)(hps:s.at' ps=some (.cells [.int .i64 (o.shape:Int),sv] 92 true))(hpn:ps<s.next)(hsv:SlU 36 3 s sv (valsC o.L) o.L.length)(hsn:∀ q n c,sv = .slice (some q) n c→q.block<s.next)
  (hR:∀ s',s.le s'→R (gotV (getP o.L x)) s'):QC Tryz.prog w0 109 #[.pointer (some ⟨ps,0,none⟩),.pointer (some ⟨p,0,none⟩),.string x] s R:=by
 refine wfun2 hmix ok109 func109 rfl ntmps109 results109 (by simp) ?_
 have hne:¬ ps=s.next:=by omega
 have hF12:o.shape≤150:=by
  obtain⟨q0,l,h1,_⟩:=h.ok.fits j o ho hs0
  have:=(List.getElem?_eq_some_iff.1 h1).1
  have:=h.fo.le
  omega
 have hm:o.L.length≤32:=by have:=h.ok.lens j o ho;have:=h.ok.lim;omega
 simp -implicitDefEqProofs only[↓Zd,(Zp),simprocAttr,Value.cells,cld2,(HEx),hps,hne,co62]
 refine hslotof_spec (i:=(o.shape:Int)) (h.le (lN (lR _))) (by omega) fun s1 hs1=>?_
 have hn1:=hs1.1
 simp only[St.next_new]at hn1
 have k1:∀ c,c<s.next→s1.at' c=s.at' c:=fun c hc=>by rw[hs1.2 c (by simp only[St.next_new];omega),St.at_new,if_neg (by omega)]
 have e1:s1.at' s.next=some (.cells [.int .i64 0,.int .i64 0,.string ⟨#[]⟩] 36 true):=by rw[hs1.2 _ (by simp only[St.next_new];omega),St.at_new,if_pos rfl]
 rcases slot_fits h.ok ho hs0 x with ⟨g1,g2⟩|⟨k,v,g1,g2,g3⟩
 ·rw[g2]at hR
  rw[g1]
  simp -implicitDefEqProofs only[↓Zd,(Zp),simprocAttr,qP,Value.cells,cut,qC,cld2,(HEx),e1]
  exact hR _ (lP (lT (lN (lR _)) hs1) (by omega))
 ·rw[g3]at hR
  rw[g1]
  have hk0:¬ (k:Int)<0:=by omega
  have hkl:=(List.getElem?_eq_some_iff.1 g2).1
  rcases hsv with ⟨e0,_⟩|⟨b,junk,rfl,hb,_⟩
  ·omega
  have hps1:s1.at' ps=some (.cells [.int .i64 (o.shape:Int),.slice (some ⟨b,0,none⟩) o.L.length UNK] 92 true):=by rw[k1 ps hpn];exact hps
  have hb1:s1.at' b=some (.cells (valsC o.L++junk) 36 true):=by rw[k1 b (hsn _ _ _ rfl)];exact hb
  have hbn:¬ b=s.next:=by have:=hsn _ _ _ rfl;simp only at this;omega
  obtain⟨c1,c2⟩:=valsC_cut o.L k x v junk g2
  have hkk:(0:Int)≤(k:Int)∧(k:Int)<(o.L.length:Int):=by omega
  simp -implicitDefEqProofs only[↓Zd,(Zp),simprocAttr,qP,Value.cells,cut,qC,cld2,(HEx),e1,hk0,hps1,hkk,hb1,c1,c2]
  exact hR _ (lP (lT (lN (lR _)) hs1) (by omega))
theorem lget_spec{pd:Nat}{L:List (ByteArray×V3)}{OD:Nat→Prop}{hp:Value}{x:ByteArray}(hD:DictAt lo s pd L N OD)(hR:∀ s',s.le s'→R (gotV (getP L x)) s') :
  QC Tryz.prog w0 110 #[.agg #[.pointer (some ⟨pd,0,none⟩)],hp,.string x] s R:=by
 refine wfun2 hmix ok110 func110 rfl ntmps110 results110 (by simp) ?_
 have hn:¬ s.next=s.next+1:=by omega
 simp -implicitDefEqProofs only[↓Zd,(Zp),simprocAttr,qP,Value.cells,cld2,(HEx),hn,co141]
 refine dget_spec (hD.same (s':=((s.new _).new _)) (by simp only[St.next_new];omega) fun b hb=>by have:=(hD.own b hb).2;rw[St.at_new,if_neg (by simp only[St.next_new];omega),St.at_new,if_neg (by omega)]) fun s1 hs1=>?_
 have hn1:=hs1.1
 simp only[St.next_new]at hn1
 have e1:s1.at' (s.next+1)=some (.cells [.int .i64 0,.int .i64 0,.string ⟨#[]⟩] 36 true):=by rw[hs1.2 _ (by simp only[St.next_new];omega),St.at_new,if_pos (by simp only[St.next_new])]
 cases hg:getP L x with
 |none =>
  rw[hg]at hR
  unfold gotV at *
  simp -implicitDefEqProofs only[↓Zd,(Zp),simprocAttr,qP,Value.cells,cut,qC,cld2,(HEx),vA,e1]
  exact hR _ (lP (lT (lN (lN (lR _))) hs1) (by omega))
 |some v =>
  rw[hg]at hR
  obtain⟨a,b,c⟩:=v
  unfold gotV vOf at *
  simp -implicitDefEqProofs only[↓Zd,(Zp),simprocAttr,qP,Value.cells,cut,qC,cld2,(HEx),vA,e1]
  exact hR _ (lP (lT (lN (lN (lR _))) hs1) (by omega))
theorem hown0_spec(h:HpIn lo s p H N O tg pf pn sl bs){j b:Nat}{o:Ob}{x:ByteArray}(hb:bs[j]?=some b)(ho:H.obs[j]?=some o)
  (hR:∀ s',s.le s'→R (gotV (getP o.L x)) s'):QC Tryz.prog w0 59 #[.pointer (some ⟨p,0,none⟩),.pointer (some ⟨b,0,none⟩),.string x] s R:=by
 refine wfun2 hmix ok59 func59 rfl ntmps59 results59 (by simp) ?_
 have hB:=h.obj j b o hb ho
 have hbn:=(hB.own b hB.pin).2
 have hne:¬ b=s.next:=by omega
 rcases hB.bl with ⟨h0,pd,OD,h1,h2,h3⟩|⟨h0,ps,sv,h1,h2,h3,h4,h5,h6⟩
 ·have hn:¬ s.next=s.next+1:=by omega
  simp -implicitDefEqProofs only[↓Zd,(Zp),simprocAttr,qP,Value.cells,cut,qC,cld2,(HEx),h1,hne,co110]
  refine lget_spec (h2.same (s':=((s.new _).new _).put (s.next+1) _) (by simp only[(Sn)];omega) fun b hb=>by have:=(h2.own b hb).2;rw[St.at_put,if_neg (by omega),St.at_new,if_neg (by simp only[St.next_new];omega),St.at_new,if_neg (by omega)]) fun s1 hs1=>?_
  have hn1:=hs1.1
  simp only[(Sn)]at hn1
  have e1:s1.at' s.next=some (.cells [.int .i64 0,.int .i64 0,.string ⟨#[]⟩] 36 true):=by rw[hs1.2 _ (by simp only[(Sn)];omega),St.at_put,if_neg (by omega),St.at_new,if_neg (by simp only[St.next_new];omega),St.at_new,if_pos rfl]
  have hle:s.le s1:=lT (lP (lN (lN (lR _))) (by omega)) hs1
  cases hg:getP o.L x with
  |none =>
   rw[hg]at hR
   unfold gotV at *
   simp -implicitDefEqProofs only[↓Zd,(Zp),simprocAttr,qP,Value.cells,cut,qC,cld2,(HEx),vA,e1]
   exact hR _ (lP hle (by omega))
  |some v =>
   rw[hg]at hR
   obtain⟨a,b,c⟩:=v
   unfold gotV vOf at *
   simp -implicitDefEqProofs only[↓Zd,(Zp),simprocAttr,qP,Value.cells,cut,qC,cld2,(HEx),vA,e1]
   exact hR _ (lP hle (by omega))
 ·simp -implicitDefEqProofs only[↓Zd,(Zp),simprocAttr,Value.cells,cld2,(HEx),h1,hne,co109]
  have hpsn:=(hB.own ps h3).2
  refine sget_spec (ps:=ps) (h.le (lN (lR _))) ho h0 (by rw[St.at_new,if_neg (by omega)];exact h2) (by simp only[St.next_new];omega) (h5.same fun q n c e=>by have:=(hB.own _ (h6 q n c e).1).2;rw[St.at_new,if_neg (by omega)]) (fun q n c e=>by have:=(hB.own _ (h6 q n c e).1).2;simp only[St.next_new];omega) fun s1 hs1=>?_
  have hn1:=hs1.1
  simp only[St.next_new]at hn1
  have e1:s1.at' s.next=some (.cells [.int .i64 0,.int .i64 0,.string ⟨#[]⟩] 36 true):=by rw[hs1.2 _ (by simp only[St.next_new];omega),St.at_new,if_pos rfl]
  have hle:s.le s1:=lT (lN (lR _)) hs1
  cases hg:getP o.L x with
  |none =>
   rw[hg]at hR
   unfold gotV at *
   simp -implicitDefEqProofs only[↓Zd,(Zp),simprocAttr,qP,Value.cells,cut,qC,cld2,(HEx),vA,e1]
   exact hR _ (lP hle (by omega))
  |some v =>
   rw[hg]at hR
   obtain⟨a,b,c⟩:=v
   unfold gotV vOf at *
   simp -implicitDefEqProofs only[↓Zd,(Zp),simprocAttr,qP,Value.cells,cut,qC,cld2,(HEx),vA,e1]
   exact hR _ (lP hle (by omega))
end
end Go.Proofs.Tryz
namespace Go.Proofs.Tryz
open Go.Cs
open Go.RowKit (Below)
set_option maxRecDepth 100000
attribute [local irreducible] QC WLoop WScope CRound WRange
inductive GetR (H:Hp) (x:ByteArray):Int→V3→Prop
 |none {i:Int}(h:obAt H i=none):GetR H x i (0,0,⟨#[]⟩)
 |own {i:Int}{o:Ob}{v:V3}(h:obAt H i=some o) (hv:getP o.L x=some v):GetR H x i v
 |up {i:Int}{o:Ob}{v:V3}(h:obAt H i=some o) (hv:getP o.L x=none) (hu:GetR H x o.proto v):GetR H x i v
theorem GetR.one{H:Hp}{x:ByteArray}{i:Int}{v w:V3}(h1:GetR H x i v)(h2:GetR H x i w):v=w:=by
 induction h1 with
 |none h=>cases h2 with
  |none _=>rfl
  |own h' _=>rw[h]at h';cases h'
  |up h' _ _=>rw[h]at h';cases h'
 |own h hv=>cases h2 with
  |none h'=>rw[h]at h';cases h'
  |own h' hv'=>rw[h]at h';cases h';rw[hv]at hv';cases hv';rfl
  |up h' hv' _=>rw[h]at h';cases h';rw[hv]at hv';cases hv'
 |up h hv _ ih=>cases h2 with
  |none h'=>rw[h]at h';cases h'
  |own h' hv'=>rw[h]at h';cases h';rw[hv]at hv';cases hv'
  |up h' _ hu'=>rw[h]at h';cases h';exact ih hu'
def slotG(H:Hp)(i k:Int):Option V3:=match obAt H i with
 |none=>none
 |some o=>if o.shape=0 then none else if 0≤k then (o.L[k.toNat]?).map (·.2) else none
section
variable {M:Type}[Mem M]{w0:World}{s:St M}{R:Value→St M→Prop}{lo p N pf pn:Nat}{H:Hp}{O:Nat→Prop}{tg:Nat→Nat}{sl:Value}{bs:List Nat}
theorem hcount0_spec{b:Nat}{o:Ob}{OO:Nat→Prop}(hB:ObAt lo s N b o OO)
  (hR:∀ s',s.le s'→R (.int .i64 (o.L.length:Int)) s'):QC Tryz.prog w0 64 #[.pointer (some ⟨b,0,none⟩)] s R:=by
 refine wfun2 hmix ok64 func64 rfl ntmps64 results64 (by simp) ?_
 have hbn:=(hB.own b hB.pin).2
 have hne:¬ b=s.next:=by omega
 rcases hB.bl with ⟨h0,pd,OD,h1,h2,h3⟩|⟨h0,ps,sv,h1,h2,h3,h4,h5,h6⟩
 ·simp -implicitDefEqProofs only[↓Zd,(Zp),simprocAttr,qP,Value.cells,cut,qC,cld2,(HEx),h1,co115]
  refine wfun2 hmix ok115 func115 rfl ntmps115 results115 (by simp) ?_
  have hn:¬ s.next+1=s.next:=by omega
  simp -implicitDefEqProofs only[↓Zd,(Zp),simprocAttr,qP,Value.cells,cld2,(HEx),co144]
  refine dlen_spec (h2.same (s':=((s.new _).put s.next _).new _) (by simp only[(Sn)];omega) fun b hb=>by have:=(h2.own b hb).2;rw[St.at_new,if_neg (by simp only[(Sn)];omega),St.at_put,if_neg (by omega),St.at_new,if_neg (by omega)]) ?_
  simp -implicitDefEqProofs only[↓Zd,(Zp),simprocAttr,(HEx)]
  exact hR _ (by repeat (first|exact lR _|assumption|refine lN ?_|refine lP ?_ (by first|omega|(simp only[(Sn)];omega))|refine lT ?_ (by assumption)))
 ·simp -implicitDefEqProofs only[↓Zd,(Zp),simprocAttr,cld2,(HEx),h1,co114]
  refine wfun2 hmix ok114 func114 rfl ntmps114 results114 (by simp) ?_
  rcases h5 with ⟨e0,_,rfl⟩|⟨b2,junk,rfl,_⟩
  ·rw[e0]at hR
   simp -implicitDefEqProofs only[↓Zd,(Zp),simprocAttr,cld2,(HEx),h2]
   exact hR _ (lR _)
  ·simp -implicitDefEqProofs only[↓Zd,(Zp),simprocAttr,cld2,(HEx),h2]
   exact hR _ (lR _)
theorem keyV_fits(h:HOk H)(hF:FOk H.F){j:Nat}{o:Ob}(ho:H.obs[j]?=some o)(hs:0<o.shape){k:Nat}(hk:k<o.L.length) :
  (namesOf H.F (o.shape:Int)).length=o.L.length∧∃ n,(namesOf H.F (o.shape:Int)).reverse[k]?=some n∧txtV H.T (n:Int)=keyV o.L (k:Int):=by
 obtain⟨q0,l,h1,h2⟩:=h.fits j o ho hs
 rw[namesOf_at hs h1]
 have hl:l.length=o.L.length:=by
  have:=congrArg List.length h2
  simpa using this
 refine⟨hl,l.reverse[k]'(by simp;omega),List.getElem?_eq_getElem _,?_⟩
 generalize hn:l.reverse[k]'(by simp;omega)=n
 have hm:n∈l:=by
  have:n∈l.reverse:=by rw[← hn];exact List.getElem_mem _
  simpa using this
 obtain⟨g1,g2⟩:=h.ids _ _ h1 n hm
 have hx:txt H.T n=(o.L[k]).1:=by
  have:(l.reverse.map (txt H.T))[k]?=(o.L.map (·.1))[k]?:=by rw[h2]
  rw[List.getElem?_map,List.getElem?_map,List.getElem?_eq_getElem (by simp;omega),List.getElem?_eq_getElem hk,hn]at this
  simpa using this
 unfold txtV keyV
 rw[if_pos (by omega),if_pos (by omega)]
 simp only[Int.toNat_natCast]
 rw[List.getD_eq_getElem?_getD (l:=o.L),List.getElem?_eq_getElem hk]
 simp only[Option.getD_some]
 rw[← hx]
 rfl
end
end Go.Proofs.Tryz
namespace Go.Proofs.Tryz
open Go.Cs
open Go.RowKit (Below)
set_option maxRecDepth 100000
attribute [local irreducible] QC WLoop WScope CRound WRange
def Deep(H:Hp)(d:Nat→Nat):Prop:=∀ (i:Nat) (o:Ob),H.obs[i]?=some o→o.proto=0∨o.proto≤H.obs.length∧d o.proto<d (i+1)
def Way(H:Hp)(d:Nat→Nat)(bs:List Nat)(v:Value)(i:Int)(fuel:Nat):Prop:=
 (obAt H i=none∧v = .pointer none∧fuel=0)∨∃ (j b:Nat) (o:Ob),i=((j+1:Nat):Int)∧bs[j]?=some b∧H.obs[j]?=some o∧v = .pointer (some ⟨b,0,none⟩)∧fuel=d (j+1)+1
theorem Way.up{H:Hp}{d:Nat→Nat}(hd:Deep H d){j b2 j2:Nat}{o o2:Ob}{bs:List Nat}(ho:H.obs[j]?=some o)(hij:(o.proto:Int)=((j2+1:Nat):Int))(hb:bs[j2]?=some b2)(ho2:H.obs[j2]?=some o2) :
  d (j2+1)+1<d (j+1)+1∧Way H d bs (.pointer (some ⟨b2,0,none⟩)) (o.proto:Int) (d (j2+1)+1):=by
 refine⟨?_,.inr ⟨j2,b2,o2,hij,hb,ho2,rfl,rfl⟩⟩
 rcases hd j o ho with h|⟨_,h⟩
 ·omega
 ·have:o.proto=j2+1:=by omega
  rw[this]at h;omega
inductive OnR (H:Hp) (o:Int):Int→Bool→Prop
 |here:OnR H o o true
 |zero (h:¬ 0=o):OnR H o 0 false
 |up {p:Int}{b:Bool}(h0:¬ p=0) (h1:¬ p=o) (hu:OnR H o (protoV H p) b):OnR H o p b
section
variable {M:Type}[Mem M]{w0:World}{s:St M}{R:Value→St M→Prop}{lo p N pf pn:Nat}{H:Hp}{O:Nat→Prop}{tg:Nat→Nat}{sl:Value}{bs:List Nat}
theorem hget_spec(h:HpIn lo s p H N O tg pf pn sl bs){i:Int}{x:ByteArray}(hi : -9223372036854775808≤i∧i≤9223372036854775807)
  (hR:∀ s' v,s.le s'→GetR H x i v→R (vOf v) s'):QC Tryz.prog w0 19 #[.pointer (some ⟨p,0,none⟩),.int .i64 i,.string x] s R:=by
 refine wfun2 hmix ok19 func19 rfl ntmps19 results19 (by simp) ?_
 have l1:s.le (s.new (.cells [.int .i64 0,.int .i64 0,.string ⟨#[]⟩] 36 true)):=lN (lR _)
 obtain⟨d,hd⟩:=h.ok.up
 have hd:Deep H d:=hd
 have hplim:∀ (i:Nat) (o:Ob),H.obs[i]?=some o→o.proto≤200:=fun i o ho=>by
  have:=h.ok.lim
  rcases hd i o ho with h|⟨h,_⟩<;>omega
 simp -implicitDefEqProofs only[↓Zd,(Zp),simprocAttr,Value.cells,(HEx),co58]
 refine hfind_spec (h.le l1) hi (fun hno=>?_) (fun j b o hij hb ho hat=>?_)
 ·simp -implicitDefEqProofs only[↓Zd,(Zp),simprocAttr,(HEx)]
  refine wloop_fix hmix [8,9,13,14,15,16,17,18,19,20,21,22,23,24,25,26,27,28,29,7] (fun fuel env s1=>(s.new (.cells [.int .i64 0,.int .i64 0,.string ⟨#[]⟩] 36 true)).le s1∧env 7 = .pointer none) 0 ⟨lR _,rfl⟩ ?_
  rintro fuel env s1 hFx ⟨hs1,e7⟩
  have e6:env 6 = .pointer (some ⟨s.next,0,none⟩):=by rw[hFx 6 rfl];rfl
  have hn1:=hs1.1
  simp only[St.next_new]at hn1
  have c6:s1.at' s.next=some (.cells [.int .i64 0,.int .i64 0,.string ⟨#[]⟩] 36 true):=by rw[hs1.2 _ (by simp only[St.next_new];omega),St.at_new,if_pos rfl]
  simp -implicitDefEqProofs only[↓Zd,(Zp),simprocAttr,qP,Value.cells,cut,qC,cld2,(HEx),e6,e7,c6]
  exact hR _ (0,0,⟨#[]⟩) (lP (lT l1 hs1) (by omega)) (.none hno)
 ·simp -implicitDefEqProofs only[↓Zd,(Zp),simprocAttr,(HEx)]
  refine wloop_fix hmix [8,9,13,14,15,16,17,18,19,20,21,22,23,24,25,26,27,28,29,7] (fun fuel env s1=>(s.new (.cells [.int .i64 0,.int .i64 0,.string ⟨#[]⟩] 36 true)).le s1∧∃ i',Way H d bs (env 7) i' fuel∧∀ v,GetR H x i' v→GetR H x i v) (d (j+1)+1) ⟨lR _,i,.inr ⟨j,b,o,hij,hb,ho,rfl,rfl⟩,fun v h=>h⟩ ?_
  rintro fuel env s1 hFx ⟨hs1,i',hway,himp⟩
  have e0:env 0 = .pointer (some ⟨p,0,none⟩):=by rw[hFx 0 rfl];rfl
  have e2:env 2 = .string x:=by rw[hFx 2 rfl];rfl
  have e6:env 6 = .pointer (some ⟨s.next,0,none⟩):=by rw[hFx 6 rfl];rfl
  have hn1:=hs1.1
  simp only[St.next_new]at hn1
  have c6:s1.at' s.next=some (.cells [.int .i64 0,.int .i64 0,.string ⟨#[]⟩] 36 true):=by rw[hs1.2 _ (by simp only[St.next_new];omega),St.at_new,if_pos rfl]
  have hle1:=lT l1 hs1
  rcases hway with ⟨hno,e7,rfl⟩|⟨j1,b1,o1,rfl,hb1,ho1,e7,rfl⟩
  ·simp -implicitDefEqProofs only[↓Zd,(Zp),simprocAttr,qP,Value.cells,cut,qC,cld2,(HEx),e6,e7,c6]
   exact hR _ (0,0,⟨#[]⟩) (lP hle1 (by omega)) (himp _ (.none hno))
  ·simp -implicitDefEqProofs only[↓Zd,(Zp),simprocAttr,(HEx),e0,e2,e7,co59]
   refine hown0_spec (h.le hle1) hb1 ho1 fun s2 hs2=>?_
   have hn2:=hs2.1
   have hle2:=lT hle1 hs2
   have c62:s2.at' s.next=some (.cells [.int .i64 0,.int .i64 0,.string ⟨#[]⟩] 36 true):=by rw[hs2.2 _ (by omega)];exact c6
   have hne:¬ s.next=s2.next:=by omega
   cases hg:getP o1.L x with
   |some v =>
    obtain⟨a1,a2,a3⟩:=v
    unfold gotV vOf
    simp -implicitDefEqProofs only[↓Zd,(Zp),simprocAttr,qP,Value.cells,cut,qC,cld2,(HEx),vA,e6,c62,hne]
    exact hR _ (a1,a2,a3) (lP (lP (lN hle2) (by omega)) (by omega)) (himp _ (.own (by rw[obAt_get];exact ho1) hg))
   |none =>
    obtain⟨t7,v7,hc⟩:=(h.obj j1 b1 o1 hb1 ho1).cells
    have hb1n:b1<s.next:=by have hB:=h.obj j1 b1 o1 hb1 ho1;exact (hB.own b1 hB.pin).2
    have hc2:s2.at' b1=_:=(hle2.2 b1 hb1n).trans hc
    have hne2:¬ b1=s2.next:=by omega
    have hpl:=hplim j1 o1 ho1
    unfold gotV
    simp -implicitDefEqProofs only[↓Zd,(Zp),simprocAttr,qP,Value.cells,qC,cld2,(HEx),vA,e0,e7,hne2,hc2,co58]
    have hle3:s.le ((s2.new (.cells [.int .i64 0,.int .i64 0,.string ⟨#[]⟩] 36 true)).put s2.next (.cells [.int .i64 0,.int .i64 0,.string ⟨#[]⟩] 36 true)):=lP (lN hle2) (by omega)
    have hs3:(s.new (.cells [.int .i64 0,.int .i64 0,.string ⟨#[]⟩] 36 true)).le ((s2.new (.cells [.int .i64 0,.int .i64 0,.string ⟨#[]⟩] 36 true)).put s2.next (.cells [.int .i64 0,.int .i64 0,.string ⟨#[]⟩] 36 true)):=lP (lN (lT hs1 hs2)) (by simp only[St.next_new];omega)
    refine hfind_spec (i:=(o1.proto:Int)) (h.le hle3) (by omega) (fun hno=>?_) (fun j2 b2 o2 hij2 hb2 ho2 hat2=>?_)
    ·simp -implicitDefEqProofs only[↓Zd,(Zp),simprocAttr,(HEx)]
     refine⟨by repeat (first|exact hFx|refine Fix.upd (by decide) ?_),0,by omega,hs3,(o1.proto:Int),.inl ⟨hno,rfl,rfl⟩,fun v hv=>himp v (.up (by rw[obAt_get];exact ho1) hg hv)⟩
    ·have hw:=Way.up hd ho1 hij2 hb2 ho2
     simp -implicitDefEqProofs only[↓Zd,(Zp),simprocAttr,(HEx)]
     refine⟨by repeat (first|exact hFx|refine Fix.upd (by decide) ?_),d (j2+1)+1,hw.1,hs3,(o1.proto:Int),hw.2,fun v hv=>himp v (.up (by rw[obAt_get];exact ho1) hg hv)⟩
theorem hslotted_spec(h:HpIn lo s p H N O tg pf pn sl bs){i:Int}(hi : -9223372036854775808≤i∧i≤9223372036854775807)
  (hno:(obAt H i=none∨∃ o,obAt H i=some o∧o.shape=0)→R (.pointer none) s)
  (hyes:∀ (j b:Nat) (o:Ob) (ps:Nat) (sv:Value),i=((j+1:Nat):Int)→bs[j]?=some b→H.obs[j]?=some o→obAt H i=some o→0<o.shape→s.at' b=some (.cells [.iface 88 (.pointer (some ⟨ps,0,none⟩)),.int .i64 (o.proto:Int),.int .i64 (o.epoch:Int)] 119 true)→s.at' ps=some (.cells [.int .i64 (o.shape:Int),sv] 92 true)→(O ps∧tg ps=j+3)→ps≠b →
   SlU 36 3 s sv (valsC o.L) o.L.length→(∀ q n c,sv = .slice (some q) n c→(O q.block∧tg q.block=j+3)∧q.block≠b∧q.block≠ps)→R (.pointer (some ⟨ps,0,none⟩)) s) :
  QC Tryz.prog w0 35 #[.pointer (some ⟨p,0,none⟩),.int .i64 i] s R:=by
 refine wfun2 hmix ok35 func35 rfl ntmps35 results35 (by simp) ?_
 simp -implicitDefEqProofs only[↓Zd,(Zp),simprocAttr,co58]
 refine hfind_spec h hi (fun hn=>?_) (fun j b o hij hb ho hat=>?_)
 ·simp -implicitDefEqProofs only[↓Zd,(Zp),simprocAttr,(HEx)]
  exact hno (.inl hn)
 ·rcases (h.obj j b o hb ho).bl with ⟨h0,pd,OD,h1,h2,h3⟩|⟨h0,ps,sv,h1,h2,h3,h4,h5,h6⟩
  ·simp -implicitDefEqProofs only[↓Zd,(Zp),simprocAttr,cld2,(HEx),h1]
   exact hno (.inr ⟨o,hat,h0⟩)
  ·simp -implicitDefEqProofs only[↓Zd,(Zp),simprocAttr,cld2,(HEx),h1]
   exact hyes j b o ps sv hij hb ho hat h0 h1 h2 h3 h4 h5 h6
theorem hshape_spec(h:HpIn lo s p H N O tg pf pn sl bs){i:Int}(hi : -9223372036854775808≤i∧i≤9223372036854775807)(hR:R (.int .i64 (shapeV H i)) s):QC Tryz.prog w0 12 #[.pointer (some ⟨p,0,none⟩),.int .i64 i] s R:=by
 refine wfun2 hmix ok12 func12 rfl ntmps12 results12 (by simp) ?_
 simp -implicitDefEqProofs only[↓Zd,(Zp),simprocAttr,co35]
 refine hslotted_spec h hi (fun hno=>?_) (fun j b o ps sv hij hb ho hat h0 h1 h2 h3 h4 h5 h6=>?_)
 ·have:shapeV H i=0:=by
   unfold shapeV
   rcases hno with h|⟨o,h,h0⟩
   ·rw[h]
   ·rw[h];simp[h0]
  rw[this]at hR
  simp -implicitDefEqProofs only[↓Zd,(Zp),simprocAttr,(HEx)]
  exact hR
 ·unfold shapeV at hR
  rw[hat]at hR
  simp -implicitDefEqProofs only[↓Zd,(Zp),simprocAttr,cld2,(HEx),h2]
  exact hR
theorem hslot_spec(h:HpIn lo s p H N O tg pf pn sl bs){i k:Int}(hi : -9223372036854775808≤i∧i≤9223372036854775807)(hk : -9223372036854775808≤k∧k≤9223372036854775807)
  (hR:∀ s',s.le s'→R (gotV (slotG H i k)) s'):QC Tryz.prog w0 47 #[.pointer (some ⟨p,0,none⟩),.int .i64 i,.int .i64 k] s R:=by
 refine wfun2 hmix ok47 func47 rfl ntmps47 results47 (by simp) ?_
 have l1:s.le (s.new (.cells [.int .i64 0,.int .i64 0,.string ⟨#[]⟩] 36 true)):=lN (lR _)
 simp -implicitDefEqProofs only[↓Zd,(Zp),simprocAttr,Value.cells,(HEx),co35]
 refine hslotted_spec (h.le l1) hi (fun hno=>?_) (fun j b o ps sv hij hb ho hat h0 h1 h2 h3 h4 h5 h6=>?_)
 ·have:slotG H i k=none:=by
   unfold slotG
   rcases hno with h|⟨o,h,h0⟩
   ·rw[h]
   ·rw[h];simp[h0]
  rw[this]at hR
  unfold gotV at hR
  simp -implicitDefEqProofs only[↓Zd,(Zp),simprocAttr,qP,Value.cells,cut,qC,cld2,(HEx)]
  exact hR _ (by repeat (first|exact lR _|assumption|refine lN ?_|refine lP ?_ (by first|omega|(simp only[(Sn)];omega))|refine lT ?_ (by assumption)))
 ·unfold slotG at hR
  rw[hat]at hR
  simp only[if_neg (show ¬ o.shape=0 by omega)]at hR
  obtain⟨an,cn,rfl⟩:∃ a c,sv = .slice a o.L.length c:=by
   rcases h5 with ⟨e1,_,rfl⟩|⟨b2,junk,rfl,_⟩
   ·exact⟨none,0,by rw[e1]⟩
   ·exact⟨_,_,rfl⟩
  by_cases k1:k<0
  ·rw[if_neg (by omega)]at hR
   unfold gotV at hR
   simp -implicitDefEqProofs only[↓Zd,(Zp),simprocAttr,qP,Value.cells,cut,qC,cld2,(HEx),k1]
   exact hR _ (by repeat (first|exact lR _|assumption|refine lN ?_|refine lP ?_ (by first|omega|(simp only[(Sn)];omega))|refine lT ?_ (by assumption)))
  ·rw[if_pos (by omega)]at hR
   by_cases k2:(o.L.length:Int)≤k
   ·rw[List.getElem?_eq_none (by omega)]at hR
    simp only[Option.map_none,gotV]at hR
    simp -implicitDefEqProofs only[↓Zd,(Zp),simprocAttr,qP,Value.cells,cut,qC,cld2,(HEx),h2,k1,k2]
    exact hR _ (by repeat (first|exact lR _|assumption|refine lN ?_|refine lP ?_ (by first|omega|(simp only[(Sn)];omega))|refine lT ?_ (by assumption)))
   ·obtain⟨m,rfl⟩:∃ m:Nat,k=(m:Int):=⟨k.toNat,by omega⟩
    have hml:m<o.L.length:=by omega
    rcases h5 with ⟨e0,_⟩|⟨b2,junk,e2,hb2,_⟩
    ·omega
    cases e2
    have hg:o.L[m]?=some (o.L[m].1,o.L[m].2):=by simp[hml]
    obtain⟨c1,c2⟩:=valsC_cut o.L m _ _ junk hg
    have hkk:(0:Int)≤(m:Int)∧(m:Int)<(o.L.length:Int):=by omega
    rw[Int.toNat_natCast,hg]at hR
    simp only[Option.map_some,gotV,vOf,vA]at hR
    have hb2n:=(h6 _ _ _ rfl).1
    have hb2n:=(h.own _ hb2n.1).2
    have hne:¬ b2=s.next:=by simp only at hb2n;omega
    have hb2':s.at' b2=some (.cells (valsC o.L++junk) 36 true):=by rw[St.at_new,if_neg hne]at hb2;exact hb2
    simp -implicitDefEqProofs only[↓Zd,(Zp),simprocAttr,qP,Value.cells,cut,qC,cld2,(HEx),h2,k1,k2,hb2,hkk,c1,c2]
    exact hR _ (by repeat (first|exact lR _|assumption|refine lN ?_|refine lP ?_ (by first|omega|(simp only[(Sn)];omega))|refine lT ?_ (by assumption)))
theorem hon_spec(h:HpIn lo s p H N O tg pf pn sl bs){o i:Int}(ho:¬ 0=o)(hi:i=0∨1≤i∧i≤H.obs.length)
  (hR:∀ b,OnR H o i b→R (.bool b) s):QC Tryz.prog w0 69 #[.pointer (some ⟨p,0,none⟩),.int .i64 o,.int .i64 i] s R:=by
 refine wfun2 hmix ok69 func69 rfl ntmps69 results69 (by simp) ?_
 obtain⟨d,hd⟩:=h.ok.up
 have hd:Deep H d:=hd
 have hlim:=h.ok.lim
 simp -implicitDefEqProofs only[↓Zd,(Zp),simprocAttr]
 refine wloop_fix hmix [7,8,9,10,11,12,13,14,15,16,2] (fun fuel env s1=>s1=s∧∃ i':Int,env 2 = .int .i64 i'∧(i'=0∨1≤i'∧i'≤H.obs.length)∧fuel=(if i'=0 then 0 else d i'.toNat+1)∧∀ b,OnR H o i' b→OnR H o i b) (if i=0 then 0 else d i.toNat+1) ⟨rfl,i,rfl,hi,rfl,fun b h=>h⟩ ?_
 rintro fuel env s1 hFx ⟨rfl,i',e2,hi',rfl,himp⟩
 have e0:env 0 = .pointer (some ⟨p,0,none⟩):=by rw[hFx 0 rfl];rfl
 have e1:env 1 = .int .i64 o:=by rw[hFx 1 rfl];rfl
 by_cases h0:i'=0
 ·subst h0
  have hb:((0:Int) == o)=false:=by rw[Bool.eq_false_iff];intro h;exact ho (eq_of_beq h)
  simp -implicitDefEqProofs only[↓Zd,(Zp),simprocAttr,e1,e2,ho]
  exact hR _ (himp _ (.zero ho))
 ·by_cases h1:i'=o
  ·subst h1
   simp -implicitDefEqProofs only[↓Zd,(Zp),simprocAttr,e1,e2,h0]
   exact hR _ (himp _ .here)
  ·have hi1:1≤i'∧i'≤H.obs.length:=by omega
   simp -implicitDefEqProofs only[↓Zd,(Zp),simprocAttr,e0,e1,e2,h0,h1,co73]
   refine hproto_spec h (by omega) ?_
   simp -implicitDefEqProofs only[↓Zd,(Zp),simprocAttr,(HEx)]
   obtain⟨j,rfl⟩:∃ j:Nat,i'=((j+1:Nat):Int):=⟨(i' - 1).toNat,by omega⟩
   have hob:H.obs[j]?=some (H.obs[j]'(by omega)):=List.getElem?_eq_getElem _
   have hpv:protoV H ((j+1:Nat):Int)=((H.obs[j]'(by omega)).proto:Int):=by unfold protoV;rw[obAt_get,hob]
   have hup:=hd j _ hob
   refine⟨by repeat (first|exact hFx|refine Fix.upd (by decide) ?_),(if protoV H ((j+1:Nat):Int)=0 then 0 else d (protoV H ((j+1:Nat):Int)).toNat+1),?_,_,rfl,?_,rfl,fun b hb=>himp b (.up h0 h1 hb)⟩
   ·rw[if_neg h0,hpv,Int.toNat_natCast,Int.toNat_natCast]
    split
    ·omega
    ·rcases hup with h|⟨_,h⟩<;>omega
   ·rw[hpv]
    rcases hup with h|⟨h,_⟩<;>omega
end
end Go.Proofs.Tryz
namespace Go.Proofs.Tryz
open Go.Cs
open Go.RowKit (Below)
set_option maxRecDepth 100000
attribute [local irreducible] QC WLoop WScope CRound WRange
def nextH(H:Hp)(i:Int)(x:ByteArray):Hp:=if (shAt H.F i).isSome then { H with F:=addF H.F H.most i (ofI H.T x),T:=ofT H.T x } else H
def nextN(H:Hp)(i:Int)(x:ByteArray):Nat:=if (shAt H.F i).isSome then addN H.F H.most i (ofI H.T x) else 0
theorem next_ok{H:Hp}(h:HOk H)(i:Int)(x:ByteArray):HOk (nextH H i x):=by
 unfold nextH
 split
 ·refine h.more (fun j t ht=>addF_get ht) (fun j h1 h2=>ofT_txt x h1 h2) (ofT_len _ _).1 (ofT_nodup h.nodup x) (addF_ids (fun j t ht y hy=>?_) ?_)
  ·have:=h.ids j t ht y hy
   have:=ofT_len H.T x
   omega
  ·have:=ofI_ok H.T x
   omega
 ·exact h
theorem text_ok{H:Hp}(h:HOk H)(x:ByteArray):HOk { H with T:=ofT H.T x }:=by
 refine h.more (F':=H.F) (fun j t ht=>ht) (fun j h1 h2=>ofT_txt x h1 h2) (ofT_len _ _).1 (ofT_nodup h.nodup x) (fun j t ht y hy=>?_)
 have:=h.ids j t ht y hy
 have:=ofT_len H.T x
 omega
section
variable {M:Type}[Mem M]{w0:World}{s:St M}{R:Value→St M→Prop}{lo p N pf pn:Nat}{H:Hp}{O:Nat→Prop}{tg:Nat→Nat}{sl:Value}{bs:List Nat}
def Rest(s s':St M)(O O':Nat→Prop)(tg tg':Nat→Nat):Prop:=∀ c,O c→tg c≠1→tg c≠2→s'.at' c=s.at' c∧O' c∧tg' c=tg c
theorem hnext_spec(h:HpIn lo s p H N O tg pf pn sl bs)(hlo:lo≤s.next){i:Int}{x:ByteArray}(hN:N≤1000000)(hi : -9223372036854775808≤i∧i≤9223372036854775807)
  (hR:∀ s' O' tg',HpIn lo s' p (nextH H i x) (N+1) O' tg' pf pn sl bs→Upd s s' O O'→Rest s s' O O' tg tg'→R (.int .i64 (nextN H i x:Int)) s'):QC Tryz.prog w0 65 #[.pointer (some ⟨p,0,none⟩),.int .i64 i,.string x] s R:=by
 refine wfun2 hmix ok65 func65 rfl ntmps65 results65 (by simp) ?_
 have hb:=h.bl
 have hm:=h.mono (N':=N+1) (by omega)
 simp -implicitDefEqProofs only[↓Zd,(Zp),simprocAttr,co48]
 refine hdead_spec h ?_
 simp -implicitDefEqProofs only[↓Zd,(Zp),simprocAttr,cld2,(HEx),hb,co116]
 refine fproto_spec h.fo hi ?_
 cases hsh:shAt H.F i with
 |none =>
  have e1:nextH H i x=H:=by unfold nextH;rw[hsh];rfl
  have e2:nextN H i x=0:=by unfold nextN;rw[hsh];rfl
  rw[e1,e2]at hR
  simp -implicitDefEqProofs only[↓Zd,(Zp),simprocAttr,(HEx)]
  exact hR _ _ _ hm .refl fun c h1 _ _=>⟨rfl,h1,rfl⟩
 |some t =>
  have e1:nextH H i x={ H with F:=addF H.F H.most i (ofI H.T x),T:=ofT H.T x }:=by unfold nextH;rw[hsh];rfl
  have e2:nextN H i x=addN H.F H.most i (ofI H.T x):=by unfold nextN;rw[hsh];rfl
  have hok:=next_ok h.ok i x
  rw[e1]at hR hok
  rw[e2]at hR
  have htn:=h.tn
  simp -implicitDefEqProofs only[↓Zd,(Zp),simprocAttr,cld2,(HEx),hb,ord65,co118]
  refine of_spec h.ta hlo (by omega) fun s1 O1 hT1 hn1 hk1 ho1=>?_
  have hU1:Upd s s1 (fun b=>O b∧tg b=2) O1:=⟨hn1,hk1,ho1⟩
  have h1:=hm.newT hU1 hT1 (text_ok h.ok x) (by have:=ofT_len H.T x;omega)
  have hUr1:Upd s s1 O (reO O tg 2 O1):=re_upd hU1
  rw[ofN_eq]
  have hb1:=h1.bl
  simp -implicitDefEqProofs only[↓Zd,(Zp),simprocAttr,cld2,(HEx),hb1,co117]
  refine fadd_spec h1.fo (by omega) hi fun s2 O2 hF2 hU2=>?_
  have h2:=h1.newF hU2 hF2 hok
  have hUr2:=re_upd hU2
  simp -implicitDefEqProofs only[↓Zd,(Zp),simprocAttr,(HEx)]
  refine hR _ _ _ h2 (hUr1.trans hUr2) fun c hc t1 t2=>?_
  have a1:reO O tg 2 O1 c∧reT tg 2 O1 c=tg c:=re_tag (fun b hb=>(h.own b hb).2) hU1.own t2 ⟨hc,rfl⟩
  have a2:=re_tag (fun b hb=>(h1.own b hb).2) hU2.own (j:=tg c) t1 a1
  refine⟨?_,a2.1,a2.2⟩
  rw[re_keep h1.own hU2 c a1.1 (by rw[a1.2];exact t1),re_keep h.own hU1 c hc t2]
theorem skey_spec(h:HpIn lo s p H N O tg pf pn sl bs){j ps m:Nat}{o:Ob}{sv:Value}(hN:N≤1000000)(ho:H.obs[j]?=some o)(h0:0<o.shape)(h2:s.at' ps=some (.cells [.int .i64 (o.shape:Int),sv] 92 true))(hm:m<o.L.length)
  (hR:∀ s',s.le s'→R (keyV o.L (m:Int)) s'):QC Tryz.prog w0 119 #[.pointer (some ⟨ps,0,none⟩),.pointer (some ⟨p,0,none⟩),.int .i64 (m:Int)] s R:=by
 refine wfun2 hmix ok119 func119 rfl ntmps119 results119 (by simp) ?_
 have hhb:=h.bl
 have hF12:o.shape≤150:=by
  obtain⟨q0,l,h1,_⟩:=h.ok.fits j o ho h0
  have:=(List.getElem?_eq_some_iff.1 h1).1
  have:=h.fo.le
  omega
 have hml:o.L.length≤32:=by have:=h.ok.lens j o ho;have:=h.ok.lim;omega
 obtain⟨hNl,n,g1,g2⟩:=keyV_fits h.ok h.fo.ok ho h0 hm
 simp -implicitDefEqProofs only[↓Zd,(Zp),simprocAttr,cld2,(HEx),hhb,h2,ord119,co123]
 refine fnames_spec h.fo (by omega) fun s1 sn hs1 hsn hsb=>?_
 rw[hNl]at hsn
 have hn1:=hs1.1
 have hb1:s1.at' p=_:=(hs1.2 p (h.own p h.pin.1).2).trans hhb
 obtain⟨an,cn,rfl⟩:∃ a c,sn = .slice a o.L.length c:=by
  rcases hsn with ⟨e1,_,rfl⟩|⟨b2,junk,rfl,_⟩
  ·exact⟨none,0,by rw[e1]⟩
  ·exact⟨_,_,rfl⟩
 have k1:¬ (m:Int)<0:=by omega
 have k2:¬ (o.L.length:Int)≤(m:Int):=by omega
 rw[← g2]at hR
 have hnT:1≤n∧n≤H.T.length:=by
  have hm2:=List.mem_of_getElem? g1
  obtain⟨q0,l,q1,q2⟩:=h.ok.fits j o ho h0
  rw[namesOf_at h0 q1]at hm2
  exact h.ok.ids _ _ q1 n (by simpa using hm2)
 have htn:=h.tn
 rcases hsn with ⟨e0,_⟩|⟨b2,junk,e2,hb2,_⟩
 ·omega
 cases e2
 have hkk:(0:Int)≤(m:Int)∧(m:Int)<(o.L.length:Int):=by omega
 have hg:=ints_get (l:=(namesOf H.F (o.shape:Int)).reverse) (k:=m) junk (by simp;omega)
 have hgn:(namesOf H.F (o.shape:Int)).reverse[m]'(by simp;omega)=n:=(List.getElem?_eq_some_iff.1 g1).2
 rw[hgn]at hg
 simp -implicitDefEqProofs only[↓Zd,(Zp),simprocAttr,cld2,(HEx),underlying31,k1,k2,hb1,hb2,hkk,hg,co145]
 refine text_spec (by omega) ((h.le hs1).ta) ?_
 unfold txtV at *
 split at hR
 ·rename_i hc
  simp only[if_pos hc]
  simp -implicitDefEqProofs only[↓Zd,(Zp),simprocAttr,(HEx)]
  exact hR _ hs1
 ·rename_i hc
  simp only[if_neg hc]
  simp -implicitDefEqProofs only[↓Zd,(Zp),simprocAttr,(HEx)]
  exact hR _ hs1
theorem DictAt.low{lo lo':Nat}{s:St M}{p:Nat}{L:List (ByteArray×V3)}{N:Nat}{O:Nat→Prop}(h:DictAt lo s p L N O)(hl:lo'≤lo):DictAt lo' s p L N O:=
 ⟨fun b hb=>⟨by have:=(h.own b hb).1;omega,(h.own b hb).2⟩,h.pin,h.bl⟩
theorem take_set{L:List (ByteArray×V3)}(hn:(L.map (·.1)).Nodup){k:Nat}{x:ByteArray}{v:V3}(hk:L[k]?=some (x,v)):setP (L.take k) x v=L.take (k+1):=by
 have hl:=(List.getElem?_eq_some_iff.1 hk).1
 have e:L.take (k+1)=L.take k ++ [(x,v)]:=by
  rw[List.take_add_one,hk];rfl
 rw[setP_none,e]
 rw[getP_none]
 intro hm
 obtain⟨⟨y,w⟩,h1,h2⟩:=List.mem_map.1 hm
 simp only at h2
 subst h2
 obtain⟨i,hi,h3⟩:=List.getElem_of_mem h1
 have hik:i<k:=by simp at hi;omega
 rw[List.getElem_take]at h3
 have e1:(L.map (·.1))[i]'(by simp;omega)=(L.map (·.1))[k]'(by simp;omega):=by
  simp only[List.getElem_map]
  rw[h3,(List.getElem?_eq_some_iff.1 hk).2]
 have:=(List.getElem_inj hn).1 e1
 omega
set_option maxHeartbeats 4000000 in
theorem hloosen_spec(h:HpIn lo s p H N O tg pf pn sl bs)(hlo:lo≤s.next){j b:Nat}{o:Ob}(hN:N≤1000000)(hN2:32≤N)(hb:bs[j]?=some b)(ho:H.obs[j]?=some o)
  (hR:∀ s' pd OD,s'.at' b=some (.cells [.iface 115 (.agg #[.pointer (some ⟨pd,0,none⟩)]),.int .i64 (o.proto:Int),.int .i64 (o.epoch:Int)] 119 true)→DictAt lo s' pd o.L N OD→(∀ c,OD c→(O c∧tg c=j+3)∨s.next≤c)→(∀ c,OD c→c≠b)→s.next≤s'.next →
   (∀ c,c<s.next→¬ (O c∧tg c=j+3)→s'.at' c=s.at' c)→R (.pointer (some ⟨pd,0,none⟩)) s'):QC Tryz.prog w0 66 #[.pointer (some ⟨p,0,none⟩),.pointer (some ⟨b,0,none⟩)] s R:=by
 refine wfun2 hmix ok66 func66 rfl ntmps66 results66 (by simp) ?_
 have hB:=h.obj j b o hb ho
 have hbn:=(hB.own b hB.pin).2
 have hne:¬ b=s.next:=by omega
 have hml:o.L.length≤32:=by have:=h.ok.lens j o ho;have:=h.ok.lim;omega
 rcases hB.bl with ⟨h0,pd,OD,h1,h2,h3⟩|⟨h0,ps,sv,h1,h2,h3,h4,h5,h6⟩
 ·simp -implicitDefEqProofs only[↓Zd,(Zp),simprocAttr,qP,Value.cells,qC,cld2,(HEx),h1]
  refine hR _ pd OD ?_ (h2.same (by simp only[(Sn)];omega) fun c hc=>by have:=(h2.own c hc).2;rw[St.at_put,if_neg (by omega),St.at_new,if_neg (by omega)]) (fun c hc => .inl (h3 c hc).1) (fun c hc=>(h3 c hc).2) (by simp only[(Sn)];omega) (fun c hc _=>by rw[St.at_put,if_neg (by omega),St.at_new,if_neg (by omega)])
  rw[St.at_put,if_neg hne,St.at_new,if_neg hne];exact h1
 ·simp -implicitDefEqProofs only[↓Zd,(Zp),simprocAttr,cld2,(HEx),h1,co49]
  refine dnew_spec fun s1 pd hD1 hs1=>?_
  have hn1:=hs1.1
  have hpsn:=(hB.own ps h3).2
  have h21:s1.at' ps=_:=(hs1.2 ps hpsn).trans h2
  obtain⟨an,cn,rfl⟩:∃ a c,sv = .slice a o.L.length c:=by
   rcases h5 with ⟨e1,_,rfl⟩|⟨b2,junk,rfl,_⟩
   ·exact⟨none,0,by rw[e1]⟩
   ·exact⟨_,_,rfl⟩
  simp -implicitDefEqProofs only[↓Zd,(Zp),simprocAttr,cld2,(HEx),h21]
  refine wloop_fix hmix [41,42,43,44,11,10,45,46,47,48,49,50,51,12,13,52,53,54,55,56,40] (fun fuel env s3=>∃ (k:Nat) (OD:Nat→Prop),fuel=o.L.length - k∧k≤o.L.length∧env 40 = .int .i64 (k:Int)∧DictAt s.next s3 pd (o.L.take k) k OD∧s.next≤s3.next∧∀ c,c<s.next→s3.at' c=s.at' c) o.L.length ⟨0,_,rfl,by omega,rfl,hD1,hn1,hs1.2⟩ ?_
  rintro fuel env s3 hFx ⟨k,OD,rfl,hk,e40,hD3,hn3,hk3⟩
  have e0:env 0 = .pointer (some ⟨p,0,none⟩):=by rw[hFx 0 rfl];rfl
  have e1:env 1 = .pointer (some ⟨b,0,none⟩):=by rw[hFx 1 rfl];rfl
  have e5:env 5 = .pointer (some ⟨ps,0,none⟩):=by rw[hFx 5 rfl];rfl
  have e9:env 9 = .pointer (some ⟨pd,0,none⟩):=by rw[hFx 9 rfl];rfl
  have e38:env 38 = .slice an o.L.length cn:=by rw[hFx 38 rfl];rfl
  have e39:env 39 = .int .i64 (o.L.length:Int):=by rw[hFx 39 rfl];rfl
  have h13:s3.at' b=_:=(hk3 b hbn).trans h1
  have hpdn:=(hD3.own pd hD3.pin).1
  by_cases hkl:(k:Int)<(o.L.length:Int)
  ·rcases h5 with ⟨e,_⟩|⟨b2,junk,e2,hb2,_⟩
   ·omega
   cases e2
   have hb2n:=h6 _ _ _ rfl
   simp only at hb2n
   have hb2n:=(h.own b2 hb2n.1.1).2
   have hb23:s3.at' b2=_:=(hk3 b2 hb2n).trans hb2
   have hkk:(0:Int)≤(k:Int)∧(k:Int)<(o.L.length:Int):=by omega
   have hklt:k<o.L.length:=by omega
   obtain⟨x,v,hLk⟩:∃ x v,o.L[k]?=some (x,v):=⟨o.L[k].1,o.L[k].2,by simp[hklt]⟩
   obtain⟨v1,v2,v3⟩:=v
   obtain⟨c1,c2⟩:=valsC_cut o.L k x _ junk hLk
   have w1:IntKind.i64.wrap ((k:Int)+1)=((k+1:Nat):Int):=by rw[wrap_i64 (by omega)];omega
   have hnn:¬ b2=s3.next:=by omega
   simp -implicitDefEqProofs only[↓Zd,(Zp),simprocAttr,qP,Value.cells,cut,qC,cld2,(HEx),e0,e5,e38,e39,e40,hkl,hkk,hb23,c1,c2,co119]
   have hps3:((s3.new (.cells [.int .i64 0,.int .i64 0,.string ⟨#[]⟩] 36 true)).put s3.next (.cells [.int .i64 v1,.int .i64 v2,.string v3] 36 true)).at' ps=some (.cells [.int .i64 (o.shape:Int),.slice (some ⟨b2,0,none⟩) o.L.length UNK] 92 true):=by
    rw[St.at_put,if_neg (by omega),St.at_new,if_neg (by omega),hk3 ps hpsn];exact h2
   refine skey_spec (ps:=ps) (h.same (by simp only[(Sn)];omega) fun c hc=>by
    have:=(h.own c hc).2
    rw[St.at_put,if_neg (by omega),St.at_new,if_neg (by omega),hk3 c this]) hN ho h0 hps3 hklt fun s4 hs4=>?_
   have hn4:=hs4.1
   simp only[(Sn)]at hn4
   have hkV:keyV o.L (k:Int) = .tuple #[.string x,.bool true]:=by
    unfold keyV
    rw[if_pos (by omega),Int.toNat_natCast,List.getD_eq_getElem?_getD,hLk];rfl
   rw[hkV]
   have h11:s4.at' s3.next=some (.cells [.int .i64 v1,.int .i64 v2,.string v3] 36 true):=by rw[hs4.2 _ (by simp only[(Sn)];omega),St.at_put,if_pos rfl]
   simp -implicitDefEqProofs only[↓Zd,(Zp),simprocAttr,cut,cld2,(HEx),e9,h11,co67]
   refine dset_spec (hD3.same (by omega) fun c hc=>by
    have:=(hD3.own c hc).2
    rw[hs4.2 c (by simp only[(Sn)];omega),St.at_put,if_neg (by omega),St.at_new,if_neg (by omega)]) (by omega) (by omega) fun s5 OD5 hD5 hn5 hk5 ho5=>?_
   rw[take_set (h.ok.keys j o ho) hLk]at hD5
   simp -implicitDefEqProofs only[↓Zd,(Zp),simprocAttr,(HEx),e40,w1]
   refine⟨by repeat (first|exact hFx|refine Fix.upd (by decide) ?_),o.L.length - (k+1),by omega,k+1,OD5,rfl,by omega,rfl,hD5,by omega,fun c hc=>?_⟩
   rw[hk5 c (by omega) (fun hc2=>by have:=(hD3.own c hc2).1;omega),hs4.2 c (by simp only[(Sn)];omega),St.at_put,if_neg (by omega),St.at_new,if_neg (by omega),hk3 c hc]
  ·have:k=o.L.length:=by omega
   subst this
   rw[List.take_length]at hD3
   have hbl:∀ (m:Nat),cbuild Tryz.prog 115 #[(0,.pointer (some ⟨m,0,none⟩))]=some (.agg #[.pointer (some ⟨m,0,none⟩)]):=fun m=>by kernel_rfl
   have hmk:∀ v,cmkI Tryz.prog 115 v=some (.iface 115 v):=fun v=>mkI_s underlying115
   simp -implicitDefEqProofs only[↓Zd,(Zp),simprocAttr,qP,Value.cells,qC,(HEx),e1,e9,e39,e40,hkl,h13,hbl,hmk]
   refine hR _ pd OD ?_ (((hD3.low hlo).mono (by omega)).same (by simp only[St.next_put];omega) fun c hc=>by
    have:=(hD3.own c hc).1
    rw[St.at_put,if_neg (by omega)]) (fun c hc => .inr (hD3.own c hc).1) (fun c hc e=>by have:=(hD3.own c hc).1;omega) (by simp only[St.next_put];omega) (fun c hc hno=>?_)
   ·rw[St.at_put,if_pos rfl]
   ·rw[St.at_put,if_neg (fun e:c=b=>hno (e▸hB.pin)),hk3 c hc]
end
end Go.Proofs.Tryz
namespace Go.Proofs.Tryz
open Go.Cs
set_option maxRecDepth 100000
def putO(H:Hp)(i:Int)(o:Ob):Hp:={ H with obs:=H.obs.set (i.toNat - 1) o }
def setH(H:Hp)(i:Int)(x:ByteArray)(v:V3):Hp:=match obAt H i with
 |none=>H
 |some o=>if (getP o.L x).isSome then putO H i { o with L:=setP o.L x v }
  else if H.maxP≤o.L.length then H
  else if o.shape=0 then putO H i { L:=setP o.L x v,shape:=0,proto:=o.proto,epoch:=o.epoch+1 }
  else putO (nextH H o.shape x) i { L:=setP o.L x v,shape:=nextN H o.shape x,proto:=o.proto,epoch:=o.epoch+1 }
def setE(H:Hp)(i:Int)(x:ByteArray):Int:=match obAt H i with
 |none=>4
 |some o=>if (getP o.L x).isSome then 0 else if H.maxP≤o.L.length then 42 else 0
def delH(H:Hp)(i:Int)(x:ByteArray):Hp:=match obAt H i with
 |none=>H
 |some o=>if (getP o.L x).isSome then putO H i { L:=delP o.L x,shape:=0,proto:=o.proto,epoch:=o.epoch+1 } else H
def delB(H:Hp)(i:Int)(x:ByteArray):Bool:=((obAt H i).bind fun o=>getP o.L x).isSome
def makeH(H:Hp):Hp:=if H.maxO≤H.obs.length then H else { H with obs:=H.obs ++ [{ L:=[],shape:=growN H.F H.most (0,[]),proto:=0,epoch:=0 }],F:=growF H.F H.most (0,[]) }
def makeV(H:Hp):Value:=if H.maxO≤H.obs.length then .tuple #[.int .i64 0,.int .i64 40] else .tuple #[.int .i64 ((H.obs.length+1:Nat):Int),.int .i64 0]
def putH(H:Hp)(i k:Int)(v:V3):Hp:=match obAt H i with
 |none=>H
 |some o=>if o.shape=0 then H else if 0≤k then (match o.L[k.toNat]? with
  |some (x,_)=>putO H i { o with L:=o.L.set k.toNat (x,v) }
  |none=>H) else H
def growE(H:Hp)(i to:Int):Int:=match obAt H i with
 |none=>4
 |some o=>if o.shape=0 then 2 else if (match shAt H.F to with|some t=>parId H.F t|none=>0)≠o.shape then 2 else if H.maxP≤o.L.length then 42 else 0
def growH(H:Hp)(i to:Int)(v:V3):Hp:=match obAt H i with
 |none=>H
 |some o=>if growE H i to=0 then putO H i { L:=o.L ++ [(txt H.T ((namesOf H.F to).headD 0),v)],shape:=to.toNat,proto:=o.proto,epoch:=o.epoch+1 } else H
theorem OnR.one{H:Hp}{o p:Int}{a b:Bool}(h1:OnR H o p a)(h2:OnR H o p b):a=b:=by
 induction h1 with
 |here=>cases h2 with
  |here=>rfl
  |zero h=>exact absurd rfl h
  |up _ h _=>exact absurd rfl h
 |zero h=>cases h2 with
  |here=>exact absurd rfl h
  |zero _=>rfl
  |up h _ _=>exact absurd rfl h
 |up h0 h1 _ ih=>cases h2 with
  |here=>exact absurd rfl h1
  |zero _=>exact absurd rfl h0
  |up _ _ hu=>exact ih hu
open Classical in
noncomputable def onB (H:Hp) (o p:Int):Bool:=if OnR H o p true then true else false
theorem OnR.eq{H:Hp}{o p:Int}{b:Bool}(h:OnR H o p b):onB H o p=b:=by
 unfold onB
 cases b with
 |true=>rw[if_pos h]
 |false=>rw[if_neg (fun h2=>by have:=h.one h2;cases this)]
noncomputable def protoE (H:Hp) (i q:Int):Int:=if obAt H i=none∨(q≠0∧obAt H q=none) then 4 else if onB H i q=true then 32 else 0
noncomputable def protoH (H:Hp) (i q:Int):Hp:=if protoE H i q=0 then (match obAt H i with
 |none=>H
 |some o=>if o.shape=0 then putO H i { o with proto:=q.toNat,epoch:=o.epoch+1 }
  else putO { H with F:=moveF H.F H.most o.shape q.toNat } i { o with proto:=q.toNat,epoch:=o.epoch+1,shape:=moveN H.F H.most o.shape q.toNat }) else H
theorem putO_ok{H:Hp}(h:HOk H){i:Int}{o o':Ob}(hi:obAt H i=some o)(hfit:0<o'.shape→∃ q l,H.F[o'.shape - 1]?=some (q,l)∧l.reverse.map (txt H.T)=o'.L.map (·.1))(hkeys:(o'.L.map (·.1)).Nodup)(hlen:o'.L.length≤H.maxP)(hp:o'.proto=o.proto):HOk (putO H i o'):=by
 obtain⟨j,rfl,hj,ho⟩:=obAt_some hi
 have e:(((j+1:Nat):Int).toNat - 1)=j:=by omega
 unfold putO
 rw[e]
 exact h.upd (F':=H.F) (T':=H.T) ho (fun _ _ h=>h) (fun _ _ _=>rfl) (Nat.le_refl _) h.nodup h.ids hfit hkeys hlen (up_same ho hp h.up)
theorem putO_pro{H:Hp}(h:HPro H){i:Int}{o':Ob}(hp:0<o'.shape→∃ l,H.F[o'.shape - 1]?=some (o'.proto,l)):HPro (putO H i o'):=by
 intro j u hu hs
 simp only[putO,List.getElem?_set]at hu
 split at hu
 ·split at hu
  ·cases hu;exact hp hs
  ·cases hu
 ·exact h j u hu hs
theorem keys_app{L:List (ByteArray×V3)}{x:ByteArray}{v:V3}(h:(L.map (·.1)).Nodup)(hx:getP L x=none):((L ++ [(x,v)]).map (·.1)).Nodup:=by
 rw[List.map_append,List.nodup_append]
 refine⟨h,by simp,fun a ha b hb e=>?_⟩
 simp at hb
 subst hb;subst e
 exact getP_none.1 hx ha
theorem setP_keys{L:List (ByteArray×V3)}{x:ByteArray}{v w:V3}(h:(L.map (·.1)).Nodup)(hx:getP L x=some w):(setP L x v).map (·.1)=L.map (·.1):=by
 obtain⟨k,hk⟩:=getP_some hx
 rw[setP_some h hk,keys_set hk]
theorem next_pro{H:Hp}(h:HPro H)(i:Int)(x:ByteArray):HPro (nextH H i x):=by
 unfold nextH
 split
 ·intro j u hu hs
  obtain⟨l,hl⟩:=h j u hu hs
  exact⟨l,addF_get hl⟩
 ·exact h
theorem next_obs(H:Hp)(i:Int)(x:ByteArray):(nextH H i x).obs=H.obs∧(nextH H i x).maxP=H.maxP∧(nextH H i x).most=H.most∧(nextH H i x).maxO=H.maxO:=by
 unfold nextH;split<;>exact⟨rfl,rfl,rfl,rfl⟩
theorem nextN_get{H:Hp}(h:HOk H){n q:Nat}{l:List Nat}{x:ByteArray}(hn:0<n)(hF:H.F[n - 1]?=some (q,l))(hp:0<nextN H n x) :
  (nextH H n x).F[nextN H n x - 1]?=some (q,ofI H.T x::l)∧(ofI H.T x::l).reverse.map (txt (nextH H n x).T)=l.reverse.map (txt H.T) ++ [x]:=by
 have hsh:shAt H.F (n:Int)=some (q,l):=by rw[shAt_at hn,hF]
 unfold nextN at hp
 rw[hsh]at hp
 simp only[Option.isSome_some,if_true]at hp
 obtain⟨t,ht,h2⟩:=addN_get hp
 rw[hsh]at ht
 cases ht
 have e1:nextH H n x={ H with F:=addF H.F H.most n (ofI H.T x),T:=ofT H.T x }:=by unfold nextH;rw[hsh];rfl
 have e2:nextN H n x=addN H.F H.most n (ofI H.T x):=by unfold nextN;rw[hsh];rfl
 rw[e1,e2]
 refine⟨h2,?_⟩
 rw[List.reverse_cons,List.map_append]
 congr 1
 ·apply List.map_congr_left
  intro y hy
  have:=h.ids _ _ hF y (by simpa using hy)
  exact ofT_txt x this.1 this.2
 ·simp only[List.map_cons,List.map_nil,(ofI_ok H.T x).2.2]
theorem set_ok{H:Hp}(h:HOk H)(i:Int)(x:ByteArray)(v:V3):HOk (setH H i x v):=by
 unfold setH
 cases ho:obAt H i with
 |none=>exact h
 |some o =>
  obtain⟨j,rfl,hj,hoj⟩:=obAt_some ho
  simp only
  cases hg:getP o.L x with
  |some w =>
   simp only[Option.isSome_some,if_true]
   have hk:=setP_keys (v:=v) (h.keys j o hoj) hg
   have hl:(setP o.L x v).length=o.L.length:=by simpa using congrArg List.length hk
   refine putO_ok h ho (fun hs=>?_) (by rw[hk];exact h.keys j o hoj) (by rw[hl];exact h.lens j o hoj) rfl
   obtain⟨q,l,h1,h2⟩:=h.fits j o hoj hs
   exact⟨q,l,h1,by rw[h2];exact hk.symm⟩
  |none =>
   simp only[Option.isSome_none,Bool.false_eq_true,if_false]
   have hsp:=setP_none o.L x v hg
   have hkn:=keys_app (v:=v) (h.keys j o hoj) hg
   split
   ·exact h
   ·rename_i hlt
    have hlen:(setP o.L x v).length≤H.maxP:=by rw[hsp];simp;omega
    split
    ·exact putO_ok h ho (fun hs=>by simp at hs) (by rw[hsp];exact hkn) hlen rfl
    ·rename_i hs0
     have hob:obAt (nextH H o.shape x) ((j+1:Nat):Int)=some o:=by rw[obAt_get,(next_obs H o.shape x).1];exact hoj
     refine putO_ok (next_ok h o.shape x) hob (fun hs=>?_) (by rw[hsp];exact hkn) (by rw[(next_obs H o.shape x).2.1];exact hlen) rfl
     obtain⟨q,l,h1,h2⟩:=h.fits j o hoj (by omega)
     obtain⟨g1,g2⟩:=nextN_get h (x:=x) (by omega) h1 hs
     refine⟨q,_,g1,?_⟩
     rw[g2,h2,hsp]
     simp
theorem set_pro{H:Hp}(h:HOk H)(hp:HPro H)(i:Int)(x:ByteArray)(v:V3):HPro (setH H i x v):=by
 unfold setH
 cases ho:obAt H i with
 |none=>exact hp
 |some o =>
  obtain⟨j,rfl,hj,hoj⟩:=obAt_some ho
  simp only
  split
  ·exact putO_pro hp (fun hs=>hp j o hoj hs)
  ·split
   ·exact hp
   ·split
    ·exact putO_pro hp (fun hs=>by simp at hs)
    ·rename_i hs0
     refine putO_pro (next_pro hp _ _) fun hs=>?_
     obtain⟨l,h1⟩:=hp j o hoj (by omega)
     exact⟨_,(nextN_get h (x:=x) (by omega) h1 hs).1⟩
theorem del_ok{H:Hp}(h:HOk H)(i:Int)(x:ByteArray):HOk (delH H i x):=by
 unfold delH
 cases ho:obAt H i with
 |none=>exact h
 |some o =>
  obtain⟨j,rfl,hj,hoj⟩:=obAt_some ho
  simp only
  split
  ·exact putO_ok h ho (fun hs=>by simp at hs) ((delP_keys _ _).nodup (h.keys j o hoj)) (Nat.le_trans (delP_len _ _) (h.lens j o hoj)) rfl
  ·exact h
theorem del_pro{H:Hp}(hp:HPro H)(i:Int)(x:ByteArray):HPro (delH H i x):=by
 unfold delH
 cases ho:obAt H i with
 |none=>exact hp
 |some o =>
  simp only
  split
  ·exact putO_pro hp (fun hs=>by simp at hs)
  ·exact hp
theorem put_ok{H:Hp}(h:HOk H)(i k:Int)(v:V3):HOk (putH H i k v):=by
 unfold putH
 cases ho:obAt H i with
 |none=>exact h
 |some o =>
  obtain⟨j,rfl,hj,hoj⟩:=obAt_some ho
  simp only
  split
  ·exact h
  ·split
   ·split
    ·rename_i x w hk
     have e:=keys_set (v:=v) hk
     refine putO_ok h ho (fun hs=>?_) (by rw[e];exact h.keys j o hoj) (by rw[List.length_set];exact h.lens j o hoj) rfl
     obtain⟨q,l,h1,h2⟩:=h.fits j o hoj hs
     exact⟨q,l,h1,by rw[h2,e]⟩
    ·exact h
   ·exact h
theorem put_pro{H:Hp}(hp:HPro H)(i k:Int)(v:V3):HPro (putH H i k v):=by
 unfold putH
 cases ho:obAt H i with
 |none=>exact hp
 |some o =>
  obtain⟨j,rfl,hj,hoj⟩:=obAt_some ho
  simp only
  split
  ·exact hp
  ·split
   ·split
    ·exact putO_pro hp (fun hs=>hp j o hoj hs)
    ·exact hp
   ·exact hp
theorem txt_inj{T:List ByteArray}(h:T.Nodup){a b:Nat}(h1:1≤a∧a≤T.length)(h2:1≤b∧b≤T.length)(e:txt T a=txt T b):a=b:=by
 have g1:=txt_get h1.1 h1.2
 have g2:=txt_get h2.1 h2.2
 rw[e]at g1
 obtain⟨l1,e1⟩:=List.getElem?_eq_some_iff.1 g1
 obtain⟨l2,e2⟩:=List.getElem?_eq_some_iff.1 g2
 have:=(List.getElem_inj h).1 (e1.trans e2.symm)
 omega
theorem grow_fits{H:Hp}(h:HOk H)(hF:FOk H.F){j n:Nat}{o:Ob}{to:Int}{t:Sh}(ho:H.obs[j]?=some o)(hs:0<o.shape)(ht:shAt H.F to=some t)(hp:parId H.F t=o.shape) :
  ∃ q x l,t=(q,x::l)∧H.F[to.toNat - 1]?=some (q,x::l)∧1≤to∧H.F[o.shape - 1]?=some (q,l)∧(x::l).reverse.map (txt H.T)=o.L.map (·.1) ++ [txt H.T x]∧getP o.L (txt H.T x)=none:=by
 obtain⟨q,l0⟩:=t
 have hto:1≤to∧H.F[to.toNat - 1]?=some (q,l0):=by
  unfold shAt at ht
  split at ht
  ·exact⟨by assumption,ht⟩
  ·cases ht
 cases l0 with
 |nil=>simp only[parId]at hp;omega
 |cons x l =>
  obtain⟨k,hk,h2,h3⟩:=hF.par hto.2
  rw[h3]at hp
  have h4:H.F[o.shape - 1]?=some (q,l):=by rw[← hp,Nat.add_sub_cancel];exact h2
  obtain⟨q',l',h5,h6⟩:=h.fits j o ho hs
  rw[h4]at h5
  cases h5
  refine⟨q,x,l,rfl,hto.2,hto.1,h4,by rw[List.reverse_cons,List.map_append,h6];rfl,?_⟩
  rw[getP_none,← h6]
  intro hm
  obtain⟨y,hy,e⟩:=List.mem_map.1 hm
  have hy:y∈l:=by simpa using hy
  have:=txt_inj h.nodup (h.ids _ _ hto.2 y (List.mem_cons_of_mem _ hy)) (h.ids _ _ hto.2 x (List.mem_cons_self)) e
  subst this
  exact (List.nodup_cons.1 (hF.names _ _ _ hto.2).1).1 hy
theorem grow_go{H:Hp}{i to:Int}(he:growE H i to=0):∃ o t,obAt H i=some o∧0<o.shape∧shAt H.F to=some t∧parId H.F t=o.shape∧o.L.length<H.maxP:=by
 unfold growE at he
 cases ho:obAt H i with
 |none=>rw[ho]at he;simp at he
 |some o =>
  rw[ho]at he
  simp only at he
  by_cases h1:o.shape=0
  ·rw[if_pos h1]at he;omega
  ·rw[if_neg h1]at he
   cases ht:shAt H.F to with
   |none=>rw[ht]at he;simp only at he;rw[if_pos (by omega)]at he;omega
   |some t =>
    rw[ht]at he
    simp only at he
    by_cases h2:parId H.F t=o.shape
    ·rw[if_neg (by omega)]at he
     by_cases h3:H.maxP≤o.L.length
     ·rw[if_pos h3]at he;omega
     ·exact⟨o,t,rfl,by omega,rfl,h2,by omega⟩
    ·rw[if_pos h2]at he;omega
theorem grow_ok{H:Hp}(h:HOk H)(hF:FOk H.F)(i to:Int)(v:V3):HOk (growH H i to v):=by
 unfold growH
 cases ho:obAt H i with
 |none=>exact h
 |some o =>
  simp only
  split
  ·rename_i he
   obtain⟨o',t,h1,h2,h3,h4,h5⟩:=grow_go he
   rw[ho]at h1
   cases h1
   obtain⟨j,rfl,hj,hoj⟩:=obAt_some ho
   obtain⟨q,x,l,rfl,g1,g2,g3,g4,g5⟩:=grow_fits (n:=0) h hF hoj h2 h3 h4
   have hn:namesOf H.F to=x::l:=by unfold namesOf;rw[h3]
   refine putO_ok h ho (fun hs=>⟨q,x::l,g1,?_⟩) ?_ ?_ rfl
   ·rw[g4,hn];simp
   ·rw[hn];exact keys_app (h.keys j o hoj) g5
   ·simp;omega
  ·exact h
theorem grow_pro{H:Hp}(h:HOk H)(hF:FOk H.F)(hp:HPro H)(i to:Int)(v:V3):HPro (growH H i to v):=by
 unfold growH
 cases ho:obAt H i with
 |none=>exact hp
 |some o =>
  simp only
  split
  ·rename_i he
   obtain⟨o',t,h1,h2,h3,h4,h5⟩:=grow_go he
   rw[ho]at h1
   cases h1
   obtain⟨j,rfl,hj,hoj⟩:=obAt_some ho
   obtain⟨q,x,l,rfl,g1,g2,g3,g4,g5⟩:=grow_fits (n:=0) h hF hoj h2 h3 h4
   obtain⟨l2,h6⟩:=hp j o hoj h2
   rw[g3]at h6
   cases h6
   exact putO_pro hp (fun hs=>⟨x::l,g1⟩)
  ·exact hp
theorem make_ok{H:Hp}(h:HOk H):HOk (makeH H):=by
 unfold makeH
 split
 ·exact h
 ·rename_i hlt
  have hlim:=h.lim
  have hm:=h.more (F':=growF H.F H.most (0,[])) (T':=H.T) (fun j t ht=>growF_get ht) (fun _ _ _=>rfl) (Nat.le_refl _) h.nodup (fun j t ht y hy=>by
   rcases growF_mem ht with h1|rfl
   ·exact h.ids j t h1 y hy
   ·cases hy)
  have hlast:∀ (j:Nat) (u:Ob),(H.obs ++ [{ L:=[],shape:=growN H.F H.most (0,[]),proto:=0,epoch:=0 }])[j]?=some u→H.obs[j]?=some u∨u={ L:=[],shape:=growN H.F H.most (0,[]),proto:=0,epoch:=0 }:=by
   intro j u hu
   by_cases h1:j<H.obs.length
   ·rw[List.getElem?_append_left h1]at hu;exact .inl hu
   ·rw[List.getElem?_append_right (by omega)]at hu
    have h0:j - H.obs.length=0:=by
     have:=(List.getElem?_eq_some_iff.1 hu).1
     simp at this;omega
    rw[h0]at hu
    simp at hu
    exact .inr hu.symm
  refine⟨hm.nodup,hm.ids,fun j u hu hs=>?_,fun j u hu=>?_,fun j u hu=>?_,?_,⟨hlim.1,by simp;omega,hlim.2.2⟩⟩
  ·rcases hlast j u hu with h1|rfl
   ·exact hm.fits j u h1 hs
   ·exact⟨0,[],growN_get hs,rfl⟩
  ·rcases hlast j u hu with h1|rfl
   ·exact h.keys j u h1
   ·exact List.nodup_nil
  ·rcases hlast j u hu with h1|rfl
   ·exact h.lens j u h1
   ·exact Nat.zero_le _
  ·obtain⟨d,hd⟩:=h.up
   refine⟨d,fun j u hu=>?_⟩
   rcases hlast j u hu with h1|rfl
   ·rcases hd j u h1 with h2|⟨h2,h3⟩
    ·exact .inl h2
    ·exact .inr ⟨by simp;omega,h3⟩
   ·exact .inl rfl
theorem make_pro{H:Hp}(hp:HPro H):HPro (makeH H):=by
 unfold makeH
 split
 ·exact hp
 ·intro j u hu hs
  simp only at hu
  by_cases h1:j<H.obs.length
  ·rw[List.getElem?_append_left h1]at hu
   obtain⟨l,hl⟩:=hp j u hu hs
   exact⟨l,growF_get hl⟩
  ·rw[List.getElem?_append_right (by omega)]at hu
   have h0:j - H.obs.length=0:=by
    have:=(List.getElem?_eq_some_iff.1 hu).1
    simp at this;omega
   rw[h0]at hu
   simp at hu
   subst hu
   exact⟨[],growN_get hs⟩
theorem moveL_pre{most:Nat}:∀ (xs:List Nat) (F:List Sh) (t:Nat) {j:Nat}{u:Sh},F[j]?=some u→(moveL most xs F t).1[j]?=some u:=by
 intro xs
 induction xs with
 |nil=>intro F t j u h;exact h
 |cons x r ih=>intro F t j u h;exact ih _ _ (addF_get h)
theorem moveL_ids{most m:Nat}:∀ (xs:List Nat) (F:List Sh) (t:Nat),(∀ (j:Nat) (t:Sh),F[j]?=some t→∀ y∈t.2,1≤y∧y≤m)→(∀ x∈xs,1≤x∧x≤m)→∀ (j:Nat) (u:Sh),(moveL most xs F t).1[j]?=some u→∀ y∈u.2,1≤y∧y≤m:=by
 intro xs
 induction xs with
 |nil=>intro F t h _ j u hu;exact h j u hu
 |cons x r ih=>intro F t h hx j u hu;exact ih _ _ (addF_ids h (hx x (List.mem_cons_self))) (fun y hy=>hx y (List.mem_cons_of_mem _ hy)) j u hu
theorem moveL_get{most q:Nat}:∀ (xs:List Nat) (F:List Sh) (t:Nat) (acc:List Nat),(0<t→F[t - 1]?=some (q,acc))→0<(moveL most xs F t).2→(moveL most xs F t).1[(moveL most xs F t).2 - 1]?=some (q,xs.reverse++acc):=by
 intro xs
 induction xs with
 |nil=>intro F t acc h h2;exact h h2
 |cons x r ih =>
  intro F t acc h h2
  have:=ih (addF F most (t:Int) x) (addN F most (t:Int) x) (x::acc) (fun h3=>by
   obtain⟨u,h4,h5⟩:=addN_get h3
   have ht:0<t:=by
    unfold shAt at h4
    split at h4
    ·omega
    ·cases h4
   rw[shAt_at ht,h ht]at h4
   cases h4
   exact h5) h2
  rw[List.reverse_cons,List.append_assoc]
  exact this
theorem move_get{F:List Sh}{most n q q0:Nat}{l:List Nat}(hn:0<n)(hF:F[n - 1]?=some (q0,l))(hp:0<moveN F most n q):(moveF F most n q)[moveN F most n q - 1]?=some (q,l):=by
 have hsh:shAt F (n:Int)=some (q0,l):=by rw[shAt_at hn,hF]
 have e1:moveF F most n q=(moveL most l.reverse (growF F most (q,[])) (growN F most (q,[]))).1:=by unfold moveF;rw[hsh]
 have e2:moveN F most n q=(moveL most l.reverse (growF F most (q,[])) (growN F most (q,[]))).2:=by unfold moveN;rw[hsh]
 rw[e2]at hp
 rw[e1,e2]
 have:=moveL_get (q:=q) l.reverse (growF F most (q,[])) (growN F most (q,[])) [] (fun h=>growN_get h) hp
 simpa using this
theorem move_pre{F:List Sh}{most q j:Nat}{i:Int}{u:Sh}(h:F[j]?=some u):(moveF F most i q)[j]?=some u:=by
 unfold moveF
 split
 ·exact h
 ·exact moveL_pre _ _ _ (growF_get h)
theorem move_ids{F:List Sh}{most q m:Nat}{i:Int}(h:∀ (j:Nat) (t:Sh),F[j]?=some t→∀ y∈t.2,1≤y∧y≤m):∀ (j:Nat) (t:Sh),(moveF F most i q)[j]?=some t→∀ y∈t.2,1≤y∧y≤m:=by
 unfold moveF
 split
 ·exact h
 ·rename_i u hu
  obtain⟨k,hk⟩:=shAt_mem hu
  refine moveL_ids _ _ _ (fun j t ht=>?_) (fun x hx=>h k u hk x (by simpa using hx))
  rcases growF_mem ht with h1|rfl
  ·exact h j t h1
  ·intro y hy;cases hy
theorem proto_go{H:Hp}{i q:Int}(he:protoE H i q=0):(∃ o,obAt H i=some o)∧(q=0∨∃ o,obAt H q=some o)∧onB H i q=false:=by
 unfold protoE at he
 split at he
 ·omega
 ·rename_i h1
  split at he
  ·omega
  ·rename_i h2
   refine⟨?_,?_,by simpa using h2⟩
   ·cases h:obAt H i with
    |none=>exact absurd (.inl h) h1
    |some o=>exact⟨o,rfl⟩
   ·by_cases h0:q=0
    ·exact .inl h0
    ·cases h:obAt H q with
     |none=>exact absurd (.inr ⟨h0,h⟩) h1
     |some o=>exact .inr ⟨o,rfl⟩
open Classical in
theorem proto_up{H:Hp}(h:HOk H){j:Nat}{o o':Ob}{q:Nat}(ho:H.obs[j]?=some o)(hq:q=0∨q≤H.obs.length)(hon:onB H ((j+1:Nat):Int) (q:Int)=false)(hp:o'.proto=q) :
  ∃ d:Nat→Nat,∀ (k:Nat) (u:Ob),(H.obs.set j o')[k]?=some u→u.proto=0∨u.proto≤(H.obs.set j o').length∧d u.proto<d (k+1):=by
 obtain⟨d,hd⟩:=h.up
 have hne:¬ (0:Int)=((j+1:Nat):Int):=by omega
 refine⟨fun x=>if OnR H ((j+1:Nat):Int) (x:Int) true then d x+d q+1 else d x,fun k u hu=>?_⟩
 rw[List.length_set]
 rw[List.getElem?_set]at hu
 split at hu
 ·rename_i e
  subst e
  split at hu
  ·cases hu
   rw[hp]
   by_cases h0:q=0
   ·exact .inl h0
   ·refine .inr ⟨by omega,?_⟩
    simp only
    rw[if_neg (fun hc=>by rw[hc.eq]at hon;cases hon),if_pos OnR.here]
    omega
  ·cases hu
 ·rename_i hjk
  rcases hd k u hu with h1|⟨h1,h2⟩
  ·exact .inl h1
  ·refine .inr ⟨h1,?_⟩
   simp only
   have hpv:protoV H ((k+1:Nat):Int)=(u.proto:Int):=by unfold protoV;rw[obAt_get,hu]
   by_cases hc:OnR H ((j+1:Nat):Int) (u.proto:Int) true
   ·rw[if_pos hc,if_pos (.up (by omega) (by omega) (by rw[hpv];exact hc))]
    omega
   ·rw[if_neg hc,if_neg]
    ·exact h2
    ·intro hc2
     generalize hk1:((k+1:Nat):Int)=kk at hc2 hpv
     generalize hb:true=bb at hc2
     cases hc2 with
     |here=>omega
     |zero _=>cases hb
     |up _ _ hu2=>subst hb;rw[hpv]at hu2;exact hc hu2
theorem proto_ok{H:Hp}(h:HOk H)(i q:Int):HOk (protoH H i q):=by
 unfold protoH
 split
 ·rename_i he
  obtain⟨⟨o,ho⟩,hq,hon⟩:=proto_go he
  rw[ho]
  simp only
  obtain⟨j,rfl,hj,hoj⟩:=obAt_some ho
  have hq0:0≤q:=by
   rcases hq with h|⟨u,h⟩
   ·omega
   ·obtain⟨m,hm,_⟩:=obAt_some h;omega
  have hq1:q.toNat=0∨q.toNat≤H.obs.length:=by
   rcases hq with h|⟨u,h⟩
   ·omega
   ·obtain⟨m,hm,_⟩:=obAt_some h;omega
  have e:(((j+1:Nat):Int).toNat - 1)=j:=by omega
  have eq:((q.toNat:Nat):Int)=q:=by omega
  split
  ·rename_i hs
   unfold putO
   rw[e]
   exact h.upd (F':=H.F) (T':=H.T) hoj (fun _ _ h=>h) (fun _ _ _=>rfl) (Nat.le_refl _) h.nodup h.ids (fun h2=>by simp only at h2;omega) (h.keys j o hoj) (h.lens j o hoj) (proto_up h hoj hq1 (by rw[eq];exact hon) rfl)
  ·rename_i hs
   unfold putO
   rw[e]
   refine h.upd (F':=moveF H.F H.most o.shape q.toNat) (T':=H.T) hoj (fun _ _ h=>move_pre h) (fun _ _ _=>rfl) (Nat.le_refl _) h.nodup (move_ids h.ids) (fun h2=>?_) (h.keys j o hoj) (h.lens j o hoj) (proto_up h hoj hq1 (by rw[eq];exact hon) rfl)
   obtain⟨q0,l,h3,h4⟩:=h.fits j o hoj (by omega)
   exact⟨_,l,move_get (by omega) h3 h2,h4⟩
 ·exact h
theorem proto_pro{H:Hp}(h:HOk H)(hp:HPro H)(i q:Int):HPro (protoH H i q):=by
 unfold protoH
 split
 ·rename_i he
  obtain⟨⟨o,ho⟩,hq,hon⟩:=proto_go he
  rw[ho]
  simp only
  obtain⟨j,rfl,hj,hoj⟩:=obAt_some ho
  split
  ·rename_i hs
   exact putO_pro hp (fun h2=>by simp only at h2;omega)
  ·rename_i hs
   refine putO_pro (H:={ H with F:=moveF H.F H.most o.shape q.toNat }) (fun k u hu hsu=>?_) (fun h2=>?_)
   ·obtain⟨l,hl⟩:=hp k u hu hsu
    exact⟨l,move_pre hl⟩
   ·obtain⟨q0,l,h3,h4⟩:=h.fits j o hoj (by omega)
    exact⟨l,move_get (by omega) h3 h2⟩
 ·exact hp
end Go.Proofs.Tryz
namespace Go.Proofs.Tryz
open Go.Cs
open Go.RowKit (Below)
set_option maxRecDepth 100000
attribute [local irreducible] QC WLoop WScope CRound WRange
theorem rowVal(k n:Int)(y:ByteArray):crow Tryz.prog 90 1 #[(0,.agg #[.int .i64 k,.int .i64 n,.string y])]=some (.cells [.int .i64 k,.int .i64 n,.string y] 36 true):=by kernel_rfl
theorem infoVal:∃ ie,Tryz.prog.info? 36=some ie∧ie.size=3∧0<ie.bytes∧ie.bytes≤100:=by
 obtain⟨ie,h⟩:=Option.isSome_iff_exists.1 is36
 have h1:=ce36
 have h2:decide (0<Tryz.prog.bytesOf 36∧Tryz.prog.bytesOf 36≤100)=true:=by kernel_rfl
 rw[cellsOf_info h]at h1
 simp only[Program.bytesOf,h,decide_eq_true_eq]at h2
 exact⟨ie,h,h1,h2.1,h2.2⟩
section
variable {M:Type}[Mem M]{w0:World}{s:St M}{R:Value→St M→Prop}{lo p N pf pn:Nat}{H:Hp}{O:Nat→Prop}{tg:Nat→Nat}{sl:Value}{bs:List Nat}
theorem app_val{s:St M}{sl:Value}{cs:List Value}{k:Nat}{a b:Int}{y:ByteArray}(hlen:k≤1000000)(hsl:SlU 36 3 s sl cs k)(hfr:∀ q m c,sl = .slice (some q) m c→q.block<s.next) :
  ∃ s',capp Tryz.prog #[90,90] #[sl,.slice (some ⟨s.next,0,none⟩) 1 1] (s.new (.cells [.int .i64 a,.int .i64 b,.string y] 36 true))=some (.slice (some ⟨s.next+1,0,none⟩) (k+1) UNK,s')∧s'.next=s.next+2 ∧
   s'.at' (s.next+1)=some (.cells (cs ++ [.int .i64 a,.int .i64 b,.string y]) 36 true)∧(∀ b,b<s.next→(∀ q n c,sl = .slice (some q) n c→b≠q.block)→s'.at' b=s.at' b):=by
 obtain⟨ie,hie,h1,h2,h3⟩:=infoVal
 have hcapp:capp Tryz.prog #[90,90] #[sl,.slice (some ⟨s.next,0,none⟩) 1 1] (s.new (.cells [.int .i64 a,.int .i64 b,.string y] 36 true))=capp3 Tryz.prog 36 ie sl (s.new (.cells [.int .i64 a,.int .i64 b,.string y] 36 true)) (cmore ie.size (.slice (some ⟨s.next,0,none⟩) 1 1) (s.new (.cells [.int .i64 a,.int .i64 b,.string y] 36 true))):=
  app_eq underlying90 underlying90 hie
 have hv:cmore ie.size (.slice (some ⟨s.next,0,none⟩) 1 1) (s.new (.cells [.int .i64 a,.int .i64 b,.string y] 36 true))=some (1,[.int .i64 a,.int .i64 b,.string y]):=by
  simp only[more_at,St.at_new,if_true,more2,h1];rfl
 obtain⟨s',h3,h4,h5,h6⟩:=app_rowU (n:=k) (k:=1) hie ze36 (by rw[h1];rfl) h2 hcapp (by omega) (by
  have:(k+1)*ie.bytes≤1000001*100:=Nat.mul_le_mul (by omega) h3
  omega) rfl hv (by rw[h1];exact hsl.same fun q m c e=>by rw[St.at_new,if_neg (by have:=hfr q m c e;omega)])
 refine⟨s',by simpa using h3,by simp at h4;omega,h5,fun b hb hq=>?_⟩
 rw[h6 b (by simp;omega) hq,St.at_new,if_neg (by omega)]
theorem wch_app_val{s:St M}{sl:Value}{cs:List Value}{k:Nat}{a b:Int}{y:ByteArray}{K:Value→St M→Prop}(hlen:k≤1000000)(hsl:SlU 36 3 s sl cs k)(hfr:∀ q m c,sl = .slice (some q) m c→q.block<s.next)
  (h:∀ s',s'.next=s.next+2→s'.at' (s.next+1)=some (.cells (cs ++ [.int .i64 a,.int .i64 b,.string y]) 36 true)→(∀ b,b<s.next→(∀ q n c,sl = .slice (some q) n c→b≠q.block)→s'.at' b=s.at' b)→K (.slice (some ⟨s.next+1,0,none⟩) (k+1) UNK) s') :
  wch (capp Tryz.prog #[90,90] #[sl,.slice (some ⟨s.next,0,none⟩) 1 1] (s.new (.cells [.int .i64 a,.int .i64 b,.string y] 36 true))) K:=by
 obtain⟨s',h1,h2,h3,h4⟩:=app_val (a:=a) (b:=b) (y:=y) hlen hsl hfr
 exact⟨_,_,h1,h s' h2 h3 h4⟩
theorem ObAt.head{b:Nat}{o:Ob}{OO:Nat→Prop}{t:TypeId}{v:Value}{N':Nat}(h:ObAt lo s N b o OO)(hc:s.at' b=some (.cells [.iface t v,.int .i64 (o.proto:Int),.int .i64 (o.epoch:Int)] 119 true))(q e:Nat)(he:e≤N')(hN:N≤N') :
  ObAt lo (s.put b (.cells [.iface t v,.int .i64 (q:Int),.int .i64 (e:Int)] 119 true)) N' b { o with proto:=q,epoch:=e } OO:=by
 obtain⟨h1,h2,h3,h4⟩:=h
 refine⟨h1,h2,he,?_⟩
 rcases h4 with ⟨h5,pd,OD,h6,h7,h8⟩|⟨h5,ps,sl,h6,h7,h8,h9,h10,h11⟩
 ·rw[h6]at hc
  cases hc
  refine .inl ⟨h5,pd,OD,by rw[St.at_put,if_pos rfl],(h7.mono hN).same (Nat.le_refl _) fun c hc=>?_,h8⟩
  rw[St.at_put,if_neg (h8 c hc).2]
 ·rw[h6]at hc
  cases hc
  refine .inr ⟨h5,ps,sl,by rw[St.at_put,if_pos rfl],by rw[St.at_put,if_neg h9];exact h7,h8,h9,h10.same fun q n c e=>?_,h11⟩
  rw[St.at_put,if_neg (h11 q n c e).2.1]
theorem ObAt.loose{s':St M}{b pd:Nat}{o:Ob}{OD:Nat→Prop}{N':Nat}(hb:s'.at' b=some (.cells [.iface 115 (.agg #[.pointer (some ⟨pd,0,none⟩)]),.int .i64 (o.proto:Int),.int .i64 (o.epoch:Int)] 119 true))(hs:o.shape=0)(hD:DictAt lo s' pd o.L N' OD)(hne:∀ c,OD c→c≠b)(hlo:lo≤b∧b<s'.next)(he:o.epoch≤N'):ObAt lo s' N' b o (fun c=>c=b∨OD c):=by
 refine⟨?_,.inl rfl,he,.inl ⟨hs,pd,OD,hb,hD,fun c hc=>⟨.inr hc,hne c hc⟩⟩⟩
 rintro c (rfl|hc)
 ·exact hlo
 ·exact hD.own c hc
set_option maxHeartbeats 4000000 in
theorem hset0_spec(h:HpIn lo s p H N O tg pf pn sl bs)(hlo:lo≤s.next){j b:Nat}{o:Ob}{x y:ByteArray}{k n:Int}{w:V3}(hN:N≤1000000)(hN2:32≤N)(hb:bs[j]?=some b)(ho:H.obs[j]?=some o)(hx:getP o.L x=some w)
  (hR:∀ s' O',ObAt lo s' (N+1) b { o with L:=setP o.L x (k,n,y) } O'→Upd s s' (fun c=>O c∧tg c=j+3) O'→R (.tuple #[]) s'):QC Tryz.prog w0 63 #[.pointer (some ⟨p,0,none⟩),.pointer (some ⟨b,0,none⟩),.string x,vA k n y] s R:=by
 refine wfun2 hmix ok63 func63 rfl ntmps63 results63 (by simp) ?_
 have hB:=h.obj j b o hb ho
 have hbn:=(hB.own b hB.pin).2
 have hne:¬ b=s.next:=by omega
 have hml:o.L.length≤32:=by have:=h.ok.lens j o ho;have:=h.ok.lim;omega
 have l1:s.le (s.new (.cells [.int .i64 k,.int .i64 n,.string y] 36 true)):=lN (lR _)
 rcases hB.bl with ⟨h0,pd,OD,h1,h2,h3⟩|⟨h0,ps,sv,h1,h2,h3,h4,h5,h6⟩
 ·simp -implicitDefEqProofs only[↓Zd,(Zp),simprocAttr,qP,Value.cells,cut,cld2,(HEx),vA,h1,hne,ord63,co66]
  refine hloosen_spec (h.le l1) (by have:=l1.1;omega) hN hN2 hb ho fun s1 pd1 OD1 hb1 hD1 ho1 hne1 hn1 hk1=>?_
  simp only[St.next_new]at hn1 hk1 ho1
  have c7:s1.at' s.next=some (.cells [.int .i64 k,.int .i64 n,.string y] 36 true):=by
   rw[hk1 _ (by omega) (fun hc=>by have:=(h.own _ hc.1).2;omega),St.at_new,if_pos rfl]
  have hpdn:=hne1 pd1 hD1.pin
  simp -implicitDefEqProofs only[↓Zd,(Zp),simprocAttr,cut,cld2,(HEx),c7,co67]
  refine dset_spec (k:=k) (n:=n) (y:=y) hD1 (by omega) hN fun s2 OD2 hD2 hn2 hk2 ho2=>?_
  simp -implicitDefEqProofs only[↓Zd,(Zp),simprocAttr,(HEx)]
  have hb2:s2.at' b=_:=(hk2 b (by omega) (fun hc=>hne1 b hc rfl)).trans hb1
  refine hR _ _ (ObAt.loose (o:={ o with L:=setP o.L x (k,n,y) }) hb2 h0 hD2 (fun c hc e=>?_) ⟨(hB.own b hB.pin).1,by omega⟩ (by have:=hB.ep;show o.epoch≤N+1;omega)) ⟨by omega,fun c hc hno=>?_,fun c hc=>?_⟩
  ·subst e
   rcases ho2 c hc with h|h
   ·exact hne1 c h rfl
   ·omega
  ·rw[hk2 c (by omega) (fun hc2=>by rcases ho1 c hc2 with h|h;exact hno h;omega),hk1 c (by omega) hno,St.at_new,if_neg (by omega)]
  ·rcases hc with rfl|hc
   ·exact .inl hB.pin
   ·rcases ho2 c hc with h|h
    ·rcases ho1 c h with h|h
     ·exact .inl h
     ·exact .inr (by omega)
    ·exact .inr (by omega)
 ·have hpsn:=(hB.own ps h3).2
  have hpse:¬ ps=s.next:=by omega
  have hF12:o.shape≤150:=by
   obtain⟨q0,l,h1,_⟩:=h.ok.fits j o ho h0
   have:=(List.getElem?_eq_some_iff.1 h1).1
   have:=h.fo.le
   omega
  rcases slot_fits h.ok ho h0 x with ⟨_,g2⟩|⟨m,v,g1,g2,g3⟩
  ·rw[g2]at hx;cases hx
  have hml2:=(List.getElem?_eq_some_iff.1 g2).1
  rcases h5 with ⟨e0,_⟩|⟨b2,junk,rfl,hb2,hl2⟩
  ·omega
  have hb2O:=h6 _ _ _ rfl
  simp only at hb2O
  have hb2n:=(hB.own b2 hb2O.1).2
  simp -implicitDefEqProofs only[↓Zd,(Zp),simprocAttr,qP,Value.cells,cut,cld2,(HEx),vA,h1,h2,hne,hpse,ord63,co62]
  refine hslotof_spec (i:=(o.shape:Int)) (h.le l1) (by omega) fun s1 hs1=>?_
  rw[g1]
  have hn1:=hs1.1
  simp only[St.next_new]at hn1
  have k1:∀ c,c<s.next→s1.at' c=s.at' c:=fun c hc=>by rw[hs1.2 c (by simp only[St.next_new];omega),St.at_new,if_neg (by omega)]
  have c7:s1.at' s.next=some (.cells [.int .i64 k,.int .i64 n,.string y] 36 true):=by rw[hs1.2 _ (by simp only[St.next_new];omega),St.at_new,if_pos rfl]
  have hb21:=(k1 b2 hb2n).trans hb2
  have hkk:(0:Int)≤(m:Int)∧(m:Int)<(o.L.length:Int):=by omega
  have hset:=valsC_set o.L m x (k,n,y) _ junk g2
  obtain⟨cc1,cc2⟩:=valsC_cut o.L m x _ junk g2
  have hps1:=(k1 ps hpsn).trans h2
  have hsp:=setP_some (v:=(k,n,y)) (h.ok.keys j o ho) g2
  simp -implicitDefEqProofs only[↓Zd,(Zp),simprocAttr,qP,Value.cells,cut,qC,cld2,(HEx),c7,hkk,hb21,hset,cc1,hps1]
  refine hR _ (fun c=>O c∧tg c=j+3) ⟨fun c hc=>⟨(hB.own c hc).1,by have:=(hB.own c hc).2;simp only[St.next_put];omega⟩,hB.pin,by have:=hB.ep;show o.epoch≤N+1;omega,.inr ⟨h0,ps,_,?_,?_,h3,h4,.inr ⟨b2,junk,by rw[hsp,List.length_set],?_,valsC_len _⟩,fun q n c e=>?_⟩⟩ ⟨by simp only[St.next_put];omega,fun c hc hno=>?_,fun c hc => .inl hc⟩
  ·rw[St.at_put,if_neg (fun e:b=b2=>hb2O.2.1 e.symm),k1 b hbn];exact h1
  ·rw[St.at_put,if_neg (fun e:ps=b2=>hb2O.2.2 e.symm)];exact hps1
  ·rw[St.at_put,if_pos rfl,hsp]
  ·cases e
   exact⟨hb2O.1,hb2O.2⟩
  ·rw[St.at_put,if_neg (fun e:c=b2=>hno (e▸hb2O.1)),k1 c hc]
theorem HpIn.setO{s':St M}{O':Nat→Prop}{i:Int}{j b:Nat}{o':Ob}(h:HpIn lo s p H N O tg pf pn sl bs)(hi:i=((j+1:Nat):Int))(hj:j<H.obs.length)(hb:bs[j]?=some b)(hU:Upd s s' (fun b=>O b∧tg b=j+3) O')(hB:ObAt lo s' N b o' O')(hok:HOk (putO H i o')) :
  HpIn lo s' p (putO H i o') N (reO O tg (j+3) O') (reT tg (j+3) O') pf pn sl bs:=by
 have e:i.toNat - 1=j:=by omega
 unfold putO at *
 rw[e]at hok ⊢
 exact h.newO hj hb hU hB hok
end
end Go.Proofs.Tryz
namespace Go.Proofs.Tryz
open Go.Cs
open Go.RowKit (Below)
set_option maxRecDepth 100000
attribute [local irreducible] QC WLoop WScope CRound WRange
theorem putO_put(H:Hp)(i:Int)(a b:Ob):putO (putO H i a) i b=putO H i b:=by
 unfold putO;simp only[List.set_set]
theorem next_put(H:Hp)(i k:Int)(a:Ob)(x:ByteArray):nextH (putO H i a) k x=putO (nextH H k x) i a:=by
 unfold nextH putO
 by_cases h:(shAt H.F k).isSome
 ·simp only[h,if_true]
 ·rw[if_neg h,if_neg h]
theorem nextN_put(H:Hp)(i k:Int)(a:Ob)(x:ByteArray):nextN (putO H i a) k x=nextN H k x:=rfl
theorem putO_at{H:Hp}{i:Int}{o a:Ob}{j:Nat}(hi:i=((j+1:Nat):Int))(hj:j<H.obs.length):(putO H i a).obs[j]?=some a:=by
 have e:i.toNat - 1=j:=by omega
 unfold putO
 simp only[e]
 rw[List.getElem?_set]
 simp[hj]
theorem bump_ok{H:Hp}(h:HOk H){i:Int}{o:Ob}(hi:obAt H i=some o)(e:Nat):HOk (putO H i { o with epoch:=e }):=by
 obtain⟨j,rfl,hj,ho⟩:=obAt_some hi
 exact putO_ok h hi (fun hs=>h.fits j o ho hs) (h.keys j o ho) (h.lens j o ho) rfl
section
variable {M:Type}[Mem M]{w0:World}{s:St M}{R:Value→St M→Prop}{lo p N pf pn:Nat}{H:Hp}{O:Nat→Prop}{tg:Nat→Nat}{sl:Value}{bs:List Nat}
theorem upd_put{b:Nat}{B:Blk}{OO:Nat→Prop}(hb:OO b):Upd s (s.put b B) OO OO:=
 ⟨Nat.le_refl _,fun c _ hno=>by rw[St.at_put,if_neg (fun e:c=b=>hno (e▸hb))],fun c hc => .inl hc⟩
theorem loose_end{s3 s4 s5:St M}{O3 OD4 OD5:Nat→Prop}{tg3:Nat→Nat}{j b pd q e N5:Nat}{L':List (ByteArray×V3)}(hb:O3 b∧tg3 b=j+3)(hbl:lo≤b∧b<s3.next)
  (hb4:s4.at' b=some (.cells [.iface 115 (.agg #[.pointer (some ⟨pd,0,none⟩)]),.int .i64 (q:Int),.int .i64 (e:Int)] 119 true))(ho4:∀ c,OD4 c→(O3 c∧tg3 c=j+3)∨s3.next≤c)(hne4:∀ c,OD4 c→c≠b)(hn4:s3.next≤s4.next)
  (hk4:∀ c,c<s3.next→¬ (O3 c∧tg3 c=j+3)→s4.at' c=s3.at' c)(hD5:DictAt lo s5 pd L' N5 OD5)(hn5:s4.next≤s5.next)(hk5:∀ c,c<s4.next→¬ OD4 c→s5.at' c=s4.at' c)(ho5:∀ c,OD5 c→OD4 c∨s4.next≤c)(he:e≤N5) :
  ObAt lo s5 N5 b { L:=L',shape:=0,proto:=q,epoch:=e } (fun c=>c=b∨OD5 c)∧Upd s3 s5 (fun c=>O3 c∧tg3 c=j+3) (fun c=>c=b∨OD5 c):=by
 have hne5:∀ c,OD5 c→c≠b:=fun c hc e=>by
  subst e
  rcases ho5 c hc with h|h
  ·exact hne4 c h rfl
  ·omega
 refine⟨ObAt.loose (o:={ L:=L',shape:=0,proto:=q,epoch:=e }) ((hk5 b (by omega) (fun hc=>hne4 b hc rfl)).trans hb4) rfl hD5 hne5 ⟨hbl.1,by omega⟩ he,by omega,fun c hc hno=>?_,fun c hc=>?_⟩
 ·rw[hk5 c (by omega) (fun hc2=>by rcases ho4 c hc2 with h|h;exact hno h;omega),hk4 c hc hno]
 ·rcases hc with rfl|hc
  ·exact .inl hb
  ·rcases ho5 c hc with h|h
   ·exact ho4 c h
   ·exact .inr (by omega)
theorem re_pin{b j:Nat}{O':Nat→Prop}(hb:O' b):reO O tg j O' b∧reT tg j O' b=j:=by
 have:=congrFun (re_same O tg j O') b
 exact this.mpr hb
set_option maxHeartbeats 8000000 in
theorem hset_spec(h:HpAt lo s p H N O)(hlo:lo≤s.next){i:Int}{x y:ByteArray}{k n:Int}(hN:N+3≤1000000)(hN2:32≤N)(hi : -9223372036854775808≤i∧i≤9223372036854775807)
  (hR:∀ s' O',HpAt lo s' p (setH H i x (k,n,y)) (N+3) O'→Upd s s' O O'→R (.int .i64 (setE H i x)) s'):QC Tryz.prog w0 21 #[.pointer (some ⟨p,0,none⟩),.int .i64 i,.string x,vA k n y] s R:=by
 refine wfun2 hmix ok21 func21 rfl ntmps21 results21 (by simp) ?_
 obtain⟨hpro,tg,pf,pn,sl,bs,h⟩:=h
 have l1:s.le (s.new (.cells [.int .i64 k,.int .i64 n,.string y] 36 true)):=lN (lR _)
 simp -implicitDefEqProofs only[↓Zd,(Zp),simprocAttr,qP,Value.cells,(HEx),vA,co48]
 refine hdead_spec (h.le l1) ?_
 simp -implicitDefEqProofs only[↓Zd,(Zp),simprocAttr,(HEx),vA,co58]
 refine hfind_spec (h.le l1) hi (fun hno=>?_) (fun j b o hij hb ho hat=>?_)
 ·have e1:setH H i x (k,n,y)=H:=by unfold setH;rw[hno]
  have e2:setE H i x=4:=by unfold setE;rw[hno]
  rw[e1,e2]at hR
  simp -implicitDefEqProofs only[↓Zd,(Zp),simprocAttr,(HEx),vA]
  exact hR _ _ ⟨hpro,tg,pf,pn,sl,bs,(h.le l1).mono (by omega)⟩ (.of_le l1)
 ·have hj:=(List.getElem?_eq_some_iff.1 ho).1
  have hhb:=h.bl
  have hlim:=h.ok.lim
  have hml:o.L.length≤32:=by have:=h.ok.lens j o ho;omega
  simp -implicitDefEqProofs only[↓Zd,(Zp),simprocAttr,(HEx),vA,co59]
  refine hown0_spec (h.le l1) hb ho fun s1 hs1=>?_
  have hl1:=lT l1 hs1
  have hn1:=hs1.1
  simp only[St.next_new]at hn1
  have c7:s1.at' s.next=some (.cells [.int .i64 k,.int .i64 n,.string y] 36 true):=by rw[hs1.2 _ (by simp only[St.next_new];omega),St.at_new,if_pos rfl]
  have n7:¬ s.next=s1.next:=by omega
  have hpn:=(h.own p h.pin.1).2
  have np7:¬ p=s1.next:=by omega
  have hhb1:=(h.le hl1).bl
  cases hg:getP o.L x with
  |some w =>
   obtain⟨w1,w2,w3⟩:=w
   have e1:setH H i x (k,n,y)=putO H i { o with L:=setP o.L x (k,n,y) }:=by unfold setH;rw[hat];simp only[hg,Option.isSome_some,if_true]
   have e2:setE H i x=0:=by unfold setE;rw[hat];simp only[hg,Option.isSome_some,if_true]
   rw[e1,e2]at hR
   have hok:=set_ok h.ok i x (k,n,y)
   have hpr:=set_pro h.ok hpro i x (k,n,y)
   rw[e1]at hok hpr
   simp only[gotV,vOf]
   simp -implicitDefEqProofs only[↓Zd,(Zp),simprocAttr,qP,Value.cells,cut,qC,cld2,(HEx),vA,c7,n7,co63]
   have l2:s.le ((s1.new (.cells [.int .i64 0,.int .i64 0,.string ⟨#[]⟩] 36 true)).put s1.next (.cells [.int .i64 w1,.int .i64 w2,.string w3] 36 true)):=lP (lN hl1) (by omega)
   have h2:=h.le l2
   refine hset0_spec (k:=k) (n:=n) (y:=y) h2 (by have:=l2.1;omega) (by omega) hN2 hb ho hg fun s2 O2 hB2 hU2=>?_
   simp -implicitDefEqProofs only[↓Zd,(Zp),simprocAttr,(HEx),vA]
   have h3:=(h2.mono (N':=N+1) (by omega)).setO hij hj hb hU2 hB2 hok
   exact hR _ _ ⟨hpr,_,_,_,_,_,h3.mono (by omega)⟩ ((Upd.of_le l2).trans (re_upd hU2))
  |none =>
   simp only[gotV]
   simp -implicitDefEqProofs only[↓Zd,(Zp),simprocAttr,qP,Value.cells,qC,cld2,(HEx),vA,np7,hhb1,ord21,co64]
   have l2:s.le ((s1.new (.cells [.int .i64 0,.int .i64 0,.string ⟨#[]⟩] 36 true)).put s1.next (.cells [.int .i64 0,.int .i64 0,.string ⟨#[]⟩] 36 true)):=lP (lN hl1) (by omega)
   refine hcount0_spec ((h.le l2).obj j b o hb ho) fun s2 hs2=>?_
   have hl2:=lT l2 hs2
   have hn2:=hs2.1
   simp only[(Sn)]at hn2
   have h2:=h.le hl2
   have hhb2:=h2.bl
   have c72:s2.at' s.next=some (.cells [.int .i64 k,.int .i64 n,.string y] 36 true):=by rw[hs2.2 _ (by simp only[(Sn)];omega),St.at_put,if_neg (by omega),St.at_new,if_neg (by omega)];exact c7
   by_cases hmx:(H.maxP:Int)≤(o.L.length:Int)
   ·have e1:setH H i x (k,n,y)=H:=by unfold setH;rw[hat];simp only[hg,Option.isSome_none,Bool.false_eq_true,if_false];rw[if_pos (by omega)]
    have e2:setE H i x=42:=by unfold setE;rw[hat];simp only[hg,Option.isSome_none,Bool.false_eq_true,if_false];rw[if_pos (by omega)]
    rw[e1,e2]at hR
    simp -implicitDefEqProofs only[↓Zd,(Zp),simprocAttr,cld2,(HEx),hhb2,hmx]
    exact hR _ _ ⟨hpro,tg,pf,pn,sl,bs,h2.mono (by omega)⟩ (.of_le hl2)
   ·have e2:setE H i x=0:=by unfold setE;rw[hat];simp only[hg,Option.isSome_none,Bool.false_eq_true,if_false];rw[if_neg (by omega)]
    rw[e2]at hR
    have hB:=h2.obj j b o hb ho
    have hbn:=(hB.own b hB.pin).2
    have hep:=hB.ep
    have w1:IntKind.i64.wrap ((o.epoch:Int)+1)=((o.epoch+1:Nat):Int):=by rw[wrap_i64 (by omega)];omega
    have hsp:=setP_none o.L x (k,n,y) hg
    have hb7:¬ s.next=b:=by have:=(h.own b hB.pin.1).2;omega
    have hok1:=bump_ok h.ok hat (o.epoch+1)
    rcases hB.bl with ⟨h0,pd,OD,g1,g2,g3⟩|⟨h0,ps,sv,g1,g2,g3,g4,g5,g6⟩
    ·have e1:setH H i x (k,n,y)=putO H i { L:=setP o.L x (k,n,y),shape:=0,proto:=o.proto,epoch:=o.epoch+1 }:=by unfold setH;rw[hat];simp only[hg,Option.isSome_none,Bool.false_eq_true,if_false];rw[if_neg (by omega),if_pos h0]
     rw[e1]at hR
     have hok:=set_ok h.ok i x (k,n,y)
     have hpr:=set_pro h.ok hpro i x (k,n,y)
     rw[e1]at hok hpr
     simp -implicitDefEqProofs only[↓Zd,(Zp),simprocAttr,qP,Value.cells,cut,qC,cld2,(HEx),hhb2,hmx,g1,w1,c72,hb7,co66]
     have hB1:=hB.head g1 o.proto (o.epoch+1) (N':=N+1) (by omega) (by omega)
     have h3:=(h2.mono (N':=N+1) (by omega)).setO hij hj hb (upd_put hB.pin) hB1 hok1
     have hU3:=re_upd (tg:=tg) (k:=j+3) (upd_put (s:=s2) (B := .cells [.iface 115 (.agg #[.pointer (some ⟨pd,0,none⟩)]),.int .i64 (o.proto:Int),.int .i64 ((o.epoch+1:Nat):Int)] 119 true) hB.pin)
     have ho3:(putO H i { o with epoch:=o.epoch+1 }).obs[j]?=some { o with epoch:=o.epoch+1 }:=putO_at (o:=o) hij hj
     refine hloosen_spec h3 (by simp only[St.next_put];omega) (by omega) (by omega) hb ho3 fun s4 pd4 OD4 hb4 hD4 ho4 hne4 hn4 hk4=>?_
     have hno7:¬ O s.next:=fun hc=>by have:=(h.own _ hc).2;omega
     have hno7':¬ reO O tg (j+3) (fun c=>O c∧tg c=j+3) s.next:=fun hc=>by rcases hc with h|h;exact hno7 h.1;exact hno7 h.1
     have c74:s4.at' s.next=some (.cells [.int .i64 k,.int .i64 n,.string y] 36 true):=by
      rw[hk4 _ (by simp only[St.next_put];omega) (fun hc=>hno7' hc.1),St.at_put,if_neg hb7];exact c72
     simp -implicitDefEqProofs only[↓Zd,(Zp),simprocAttr,cut,cld2,(HEx),c74,co67]
     refine dset_spec (k:=k) (n:=n) (y:=y) hD4 (by simp only[St.next_put]at hn4;omega) (by omega) fun s5 OD5 hD5 hn5 hk5 ho5=>?_
     simp -implicitDefEqProofs only[↓Zd,(Zp),simprocAttr,(HEx)]
     obtain⟨hB5,hU5⟩:=loose_end (O3:=reO O tg (j+3) (fun c=>O c∧tg c=j+3)) (tg3:=reT tg (j+3) (fun c=>O c∧tg c=j+3)) (re_pin hB.pin) ⟨(hB.own b hB.pin).1,by simp only[St.next_put];omega⟩ hb4 ho4 hne4 hn4 hk4 hD5 hn5 hk5 ho5 (by show o.epoch+1≤_;omega)
     have h5:=(h3.mono (N':=N+1+1) (by omega)).setO hij (by simp only[putO,List.length_set];exact hj) hb hU5 hB5 (by rw[putO_put];exact hok)
     rw[putO_put]at h5
     exact hR _ _ ⟨hpr,_,_,_,_,_,h5.mono (by omega)⟩ ((Upd.of_le hl2).trans (hU3.trans (re_upd hU5)))
    ·have hpsn:=(hB.own ps g3).2
     have hgs:¬ ps=b:=g4
     have h7ps:¬ s.next=ps:=by have:=(h.own _ g3.1).2;omega
     have hF12:o.shape≤150:=by
      obtain⟨q0,l,h1,_⟩:=h.ok.fits j o ho h0
      have:=(List.getElem?_eq_some_iff.1 h1).1
      have:=h.fo.le
      omega
     simp -implicitDefEqProofs only[↓Zd,(Zp),simprocAttr,qP,Value.cells,qC,cld2,(HEx),hhb2,hmx,g1,g2,hgs,w1,co65]
     have hB1:=hB.head g1 o.proto (o.epoch+1) (N':=N+1) (by omega) (by omega)
     have h3:=(h2.mono (N':=N+1) (by omega)).setO hij hj hb (upd_put hB.pin) hB1 hok1
     have hU3:=re_upd (tg:=tg) (k:=j+3) (upd_put (s:=s2) (B := .cells [.iface 88 (.pointer (some ⟨ps,0,none⟩)),.int .i64 (o.proto:Int),.int .i64 ((o.epoch+1:Nat):Int)] 119 true) hB.pin)
     have ho3:(putO H i { o with epoch:=o.epoch+1 }).obs[j]?=some { o with epoch:=o.epoch+1 }:=putO_at (o:=o) hij hj
     have hno7:¬ O s.next:=fun hc=>by have:=(h.own _ hc).2;omega
     have hno7':¬ reO O tg (j+3) (fun c=>O c∧tg c=j+3) s.next:=fun hc=>by rcases hc with h|h;exact hno7 h.1;exact hno7 h.1
     refine hnext_spec (i:=(o.shape:Int)) h3 (by simp only[St.next_put];omega) (by omega) (by omega) fun s4 O4 tg4 h4 hU4 hT4=>?_
     rw[next_put]at h4
     rw[nextN_put]
     have hn4:=hU4.next
     simp only[St.next_put]at hn4
     have c74:s4.at' s.next=some (.cells [.int .i64 k,.int .i64 n,.string y] 36 true):=by
      rw[hU4.keep _ (by simp only[St.next_put];omega) hno7',St.at_put,if_neg hb7];exact c72
     have e1:setH H i x (k,n,y)=putO (nextH H o.shape x) i { L:=setP o.L x (k,n,y),shape:=nextN H o.shape x,proto:=o.proto,epoch:=o.epoch+1 }:=by unfold setH;rw[hat];simp only[hg,Option.isSome_none,Bool.false_eq_true,if_false];rw[if_neg (by omega),if_neg (by omega)]
     rw[e1]at hR
     have hok:=set_ok h.ok i x (k,n,y)
     have hpr:=set_pro h.ok hpro i x (k,n,y)
     rw[e1]at hok hpr
     have hin3:∀ c,O c∧tg c=j+3→s4.at' c=(s2.put b (.cells [.iface 88 (.pointer (some ⟨ps,0,none⟩)),.int .i64 (o.proto:Int),.int .i64 ((o.epoch+1:Nat):Int)] 119 true)).at' c∧O4 c∧tg4 c=j+3:=fun c hc=>by
      have hp3:=re_pin (O:=O) (tg:=tg) (j:=j+3) (O':=fun c=>O c∧tg c=j+3) hc
      obtain⟨a1,a2,a3⟩:=hT4 c hp3.1 (by rw[hp3.2];omega) (by rw[hp3.2];omega)
      exact⟨a1,a2,a3.trans hp3.2⟩
     have ho4:(putO (nextH H (o.shape:Int) x) i { o with epoch:=o.epoch+1 }).obs[j]?=some { o with epoch:=o.epoch+1 }:=putO_at (o:=o) hij (by rw[(next_obs _ _ _).1];exact hj)
     have hlt4:j<(nextH H (o.shape:Int) x).obs.length:=by rw[(next_obs _ _ _).1];exact hj
     have hUall:Upd s s4 O O4:=(Upd.of_le hl2).trans (hU3.trans hU4)
     by_cases hpos:(0:Int)<((nextN H (o.shape:Int) x:Nat):Int)
     ·have hps4:s4.at' ps=some (.cells [.int .i64 (o.shape:Int),sv] 92 true):=by
       rw[(hin3 ps g3).1,St.at_put,if_neg g4];exact g2
      have hb4:s4.at' b=some (.cells [.iface 88 (.pointer (some ⟨ps,0,none⟩)),.int .i64 (o.proto:Int),.int .i64 ((o.epoch+1:Nat):Int)] 119 true):=by
       rw[(hin3 b hB.pin).1,St.at_put,if_pos rfl]
      have hsl4:SlU 36 3 s4 sv (valsC o.L) o.L.length:=g5.same fun q n c e=>by
       have:=g6 q n c e
       rw[(hin3 _ this.1).1,St.at_put,if_neg this.2.1]
      have hfr4:∀ q m c,sv = .slice (some q) m c→q.block<s4.next:=fun q m c e=>(h4.own _ (hin3 _ (g6 q m c e).1).2.1).2
      have hpsn4:=(h4.own _ (hin3 ps g3).2.1).2
      have hbn4:=(h4.own _ (hin3 b hB.pin).2.1).2
      simp -implicitDefEqProofs only[↓Zd,(Zp),simprocAttr,cut,cld2,(HEx),hpos,hps4,c74,rowVal]
      refine wch_app_val (by omega) hsl4 hfr4 fun s5 hn5 hb5 hk5=>?_
      have hps5:s5.at' ps=some (.cells [.int .i64 (o.shape:Int),sv] 92 true):=by
       rw[hk5 ps hpsn4 (fun q n c e e2=>(g6 q n c e).2.2 e2.symm)];exact hps4
      have c75:s5.at' s.next=some (.cells [.int .i64 k,.int .i64 n,.string y] 36 true):=by
       rw[hk5 _ (by omega) (fun q m c e e2=>hno7 (by have:=(g6 q m c e).1.1;rw[← e2]at this;exact this))];exact c74
      simp -implicitDefEqProofs only[↓Zd,(Zp),simprocAttr,qP,Value.cells,qC,(HEx),hps5]
      have hne5:¬ b=ps:=fun e=>g4 e.symm
      have hB6:ObAt lo ((s5.put ps (.cells [.int .i64 ((nextN H (o.shape:Int) x:Nat):Int),sv] 92 true)).put ps (.cells [.int .i64 ((nextN H (o.shape:Int) x:Nat):Int),.slice (some ⟨s4.next+1,0,none⟩) (o.L.length+1) UNK] 92 true)) (N+1+1) b { L:=setP o.L x (k,n,y),shape:=nextN H (o.shape:Int) x,proto:=o.proto,epoch:=o.epoch+1 } (fun c=>(O4 c∧tg4 c=j+3)∨c=s4.next+1):=by
       refine⟨fun c hc=>?_,.inl (hin3 b hB.pin).2,by show o.epoch+1≤_;omega,.inr ⟨by show 0<nextN H (o.shape:Int) x;omega,ps,_,?_,by rw[St.at_put,if_pos rfl],.inl (hin3 ps g3).2,g4,.inr ⟨s4.next+1,[],by rw[hsp];simp,?_,valsC_len _⟩,fun q m c e=>?_⟩⟩
       ·rcases hc with hc|rfl
        ·have:=h4.own c hc.1
         simp only[St.next_put];omega
        ·simp only[St.next_put];omega
       ·rw[St.at_put,if_neg hne5,St.at_put,if_neg hne5,hk5 b hbn4 (fun q m c e e2=>(g6 q m c e).2.1 e2.symm)];exact hb4
       ·rw[St.at_put,if_neg (by omega),St.at_put,if_neg (by omega),hb5,hsp,valsC_app,List.append_nil];rfl
       ·cases e
        exact⟨.inr rfl,by show s4.next+1≠b;omega,by show s4.next+1≠ps;omega⟩
      have hU6:Upd s4 ((s5.put ps (.cells [.int .i64 ((nextN H (o.shape:Int) x:Nat):Int),sv] 92 true)).put ps (.cells [.int .i64 ((nextN H (o.shape:Int) x:Nat):Int),.slice (some ⟨s4.next+1,0,none⟩) (o.L.length+1) UNK] 92 true)) (fun c=>O4 c∧tg4 c=j+3) (fun c=>(O4 c∧tg4 c=j+3)∨c=s4.next+1):=by
       refine⟨by simp only[St.next_put];omega,fun c hc hno=>?_,fun c hc=>?_⟩
       ·have hcp:¬ c=ps:=fun e=>hno (e▸(hin3 ps g3).2)
        rw[St.at_put,if_neg hcp,St.at_put,if_neg hcp,hk5 c hc (fun q m k e e2=>hno (by rw[e2];exact (hin3 _ (g6 q m k e).1).2))]
       ·rcases hc with hc|rfl
        ·exact .inl hc
        ·exact .inr (by omega)
      have h6:=h4.setO hij (by simp only[putO,List.length_set];exact hlt4) hb hU6 hB6 (by rw[putO_put];exact hok)
      rw[putO_put]at h6
      exact hR _ _ ⟨hpr,_,_,_,_,_,h6.mono (by omega)⟩ (hUall.trans (re_upd hU6))
     ·have hz:nextN H (o.shape:Int) x=0:=by omega
      simp -implicitDefEqProofs only[↓Zd,(Zp),simprocAttr,cut,cld2,(HEx),hpos,c74,co66]
      refine hloosen_spec h4 (by omega) (by omega) (by omega) hb ho4 fun s5 pd5 OD5 hb5 hD5 ho5 hne5 hn5 hk5=>?_
      have hno4:¬ O4 s.next:=fun hc=>by
       rcases hU4.own _ hc with h|h
       ·exact hno7' h
       ·simp only[St.next_put]at h;omega
      have c75:s5.at' s.next=some (.cells [.int .i64 k,.int .i64 n,.string y] 36 true):=by
       rw[hk5 _ (by omega) (fun hc=>hno4 hc.1)];exact c74
      simp -implicitDefEqProofs only[↓Zd,(Zp),simprocAttr,cut,cld2,(HEx),c75,co67]
      refine dset_spec (k:=k) (n:=n) (y:=y) hD5 (by omega) (by omega) fun s6 OD6 hD6 hn6 hk6 ho6=>?_
      simp -implicitDefEqProofs only[↓Zd,(Zp),simprocAttr,(HEx)]
      have hpin4:=(hin3 b hB.pin).2
      obtain⟨hB6,hU6⟩:=loose_end (L':=setP o.L x (k,n,y)) hpin4 (h4.own b hpin4.1) hb5 ho5 hne5 hn5 hk5 hD6 hn6 hk6 ho6 (by show o.epoch+1≤_;omega)
      rw[hz]at hok hpr hR
      have h6:=(h4.mono (N':=N+1+1+1) (by omega)).setO hij (by simp only[putO,List.length_set];exact hlt4) hb hU6 hB6 (by rw[putO_put];exact hok)
      rw[putO_put]at h6
      exact hR _ _ ⟨hpr,_,_,_,_,_,h6⟩ (hUall.trans (re_upd hU6))
end
end Go.Proofs.Tryz
end
section
namespace Go.Proofs.Tryz
open Go.Cs
open Go.RowKit (Below)
set_option maxRecDepth 100000
attribute [local irreducible] QC WLoop WScope CRound WRange
section
variable {M:Type}[Mem M]{w0:World}{s:St M}{R:Value→St M→Prop}{lo p N:Nat}{H:Hp}{O:Nat→Prop}
set_option maxHeartbeats 8000000 in
theorem hdel_spec(h:HpAt lo s p H N O)(hlo:lo≤s.next){i:Int}{x:ByteArray}(hN:N+3≤1000000)(hN2:32≤N)(hi : -9223372036854775808≤i∧i≤9223372036854775807)
  (hR:∀ s' O',HpAt lo s' p (delH H i x) (N+3) O'→Upd s s' O O'→R (.bool (delB H i x)) s'):QC Tryz.prog w0 22 #[.pointer (some ⟨p,0,none⟩),.int .i64 i,.string x] s R:=by
 refine wfun2 hmix ok22 func22 rfl ntmps22 results22 (by simp) ?_
 obtain⟨hpro,tg,pf,pn,sl,bs,h⟩:=h
 simp -implicitDefEqProofs only[↓Zd,(Zp),simprocAttr,co58]
 refine hfind_spec h hi (fun hno=>?_) (fun j b o hij hb ho hat=>?_)
 ·have e1:delH H i x=H:=by unfold delH;rw[hno]
  have e2:delB H i x=false:=by unfold delB;rw[hno];rfl
  rw[e1,e2]at hR
  simp -implicitDefEqProofs only[↓Zd,(Zp),simprocAttr,(HEx)]
  exact hR _ _ ⟨hpro,tg,pf,pn,sl,bs,h.mono (by omega)⟩ .refl
 ·have hj:=(List.getElem?_eq_some_iff.1 ho).1
  simp -implicitDefEqProofs only[↓Zd,(Zp),simprocAttr,(HEx),co59]
  refine hown0_spec h hb ho fun s1 hs1=>?_
  have hn1:=hs1.1
  cases hg:getP o.L x with
  |none =>
   have e1:delH H i x=H:=by unfold delH;rw[hat];simp only[hg,Option.isSome_none,Bool.false_eq_true,if_false]
   have e2:delB H i x=false:=by unfold delB;rw[hat];simp only[Option.bind_some,hg,Option.isSome_none]
   rw[e1,e2]at hR
   simp only[gotV]
   simp -implicitDefEqProofs only[↓Zd,(Zp),simprocAttr,qP,Value.cells,qC,(HEx),vA]
   have l2:s.le ((s1.new (.cells [.int .i64 0,.int .i64 0,.string ⟨#[]⟩] 36 true)).put s1.next (.cells [.int .i64 0,.int .i64 0,.string ⟨#[]⟩] 36 true)):=lP (lN hs1) (by omega)
   exact hR _ _ ⟨hpro,tg,pf,pn,sl,bs,(h.le l2).mono (by omega)⟩ (.of_le l2)
  |some w =>
   obtain⟨v1,v2,v3⟩:=w
   have e1:delH H i x=putO H i { L:=delP o.L x,shape:=0,proto:=o.proto,epoch:=o.epoch+1 }:=by unfold delH;rw[hat];simp only[hg,Option.isSome_some,if_true]
   have e2:delB H i x=true:=by unfold delB;rw[hat];simp only[Option.bind_some,hg,Option.isSome_some]
   have hok:=del_ok h.ok i x
   have hpr:=del_pro hpro i x
   rw[e1]at hok hpr
   rw[e1,e2]at hR
   have hok1:=bump_ok h.ok hat (o.epoch+1)
   have l2:s.le ((s1.new (.cells [.int .i64 0,.int .i64 0,.string ⟨#[]⟩] 36 true)).put s1.next (.cells [.int .i64 v1,.int .i64 v2,.string v3] 36 true)):=lP (lN hs1) (by omega)
   have h2:=h.le l2
   have hB:=h2.obj j b o hb ho
   obtain⟨t,v,hc⟩:=hB.cells
   have hbn:=(h.own b hB.pin.1).2
   have hep:=hB.ep
   have w1:IntKind.i64.wrap ((o.epoch:Int)+1)=((o.epoch+1:Nat):Int):=by rw[wrap_i64 (by omega)];omega
   have hbs:¬ b=s1.next:=by omega
   have hc1:s1.at' b=some (.cells [.iface t v,.int .i64 (o.proto:Int),.int .i64 (o.epoch:Int)] 119 true):=by
    rw[St.at_put,if_neg hbs,St.at_new,if_neg hbs]at hc;exact hc
   simp only[gotV,vOf]
   simp -implicitDefEqProofs only[↓Zd,(Zp),simprocAttr,qP,Value.cells,qC,cld2,(HEx),vA,hc1,hbs,w1,co66]
   have hB1:=hB.head hc o.proto (o.epoch+1) (N':=N+1) (by omega) (by omega)
   have h3:=(h2.mono (N':=N+1) (by omega)).setO hij hj hb (upd_put hB.pin) hB1 hok1
   have hU3:=re_upd (tg:=tg) (k:=j+3) (upd_put (s:=(s1.new (.cells [.int .i64 0,.int .i64 0,.string ⟨#[]⟩] 36 true)).put s1.next (.cells [.int .i64 v1,.int .i64 v2,.string v3] 36 true)) (B := .cells [.iface t v,.int .i64 (o.proto:Int),.int .i64 ((o.epoch+1:Nat):Int)] 119 true) hB.pin)
   have ho3:(putO H i { o with epoch:=o.epoch+1 }).obs[j]?=some { o with epoch:=o.epoch+1 }:=putO_at (o:=o) hij hj
   refine hloosen_spec h3 (by simp only[(Sn)];omega) (by omega) (by omega) hb ho3 fun s4 pd4 OD4 hb4 hD4 ho4 hne4 hn4 hk4=>?_
   simp -implicitDefEqProofs only[↓Zd,(Zp),simprocAttr,(HEx),co68]
   refine ddel_spec hD4 (by omega) (fun s5 hD5 hn5 hk5=>?_) (by rw[hg];rfl)
   rw[hg]
   simp -implicitDefEqProofs only[↓Zd,(Zp),simprocAttr,(HEx)]
   obtain⟨hB5,hU5⟩:=loose_end (O3:=reO O tg (j+3) (fun c=>O c∧tg c=j+3)) (tg3:=reT tg (j+3) (fun c=>O c∧tg c=j+3)) (re_pin hB.pin) ⟨(hB.own b hB.pin).1,by simp only[(Sn)];omega⟩ hb4 ho4 hne4 hn4 hk4 hD5 hn5 hk5 (fun c hc => .inl hc) (by show o.epoch+1≤_;omega)
   have h5:=h3.setO hij (by simp only[putO,List.length_set];exact hj) hb hU5 hB5 (by rw[putO_put];exact hok)
   rw[putO_put]at h5
   exact hR _ _ ⟨hpr,_,_,_,_,_,h5.mono (by omega)⟩ ((Upd.of_le l2).trans (hU3.trans (re_upd hU5)))
set_option maxHeartbeats 8000000 in
theorem hput_spec(h:HpAt lo s p H N O){i q:Int}{y:ByteArray}{k n:Int}(hi : -9223372036854775808≤i∧i≤9223372036854775807)(hq : -9223372036854775808≤q∧q≤9223372036854775807)
  (hR:∀ s' O',HpAt lo s' p (putH H i q (k,n,y)) N O'→Upd s s' O O'→R (.bool (slotG H i q).isSome) s'):QC Tryz.prog w0 61 #[.pointer (some ⟨p,0,none⟩),.int .i64 i,.int .i64 q,vA k n y] s R:=by
 refine wfun2 hmix ok61 func61 rfl ntmps61 results61 (by simp) ?_
 obtain⟨hpro,tg,pf,pn,sl,bs,h⟩:=h
 have hok:=put_ok h.ok i q (k,n,y)
 have hpr:=put_pro hpro i q (k,n,y)
 have l1:s.le (s.new (.cells [.int .i64 k,.int .i64 n,.string y] 36 true)):=lN (lR _)
 simp -implicitDefEqProofs only[↓Zd,(Zp),simprocAttr,qP,Value.cells,(HEx),vA,co35]
 refine hslotted_spec (h.le l1) hi (fun hno=>?_) (fun j b o ps sv hij hb ho hat h0 h1 h2 h3 h4 h5 h6=>?_)
 ·have e1:putH H i q (k,n,y)=H:=by
   unfold putH
   rcases hno with h|⟨o,h,h0⟩
   ·rw[h]
   ·rw[h];simp only[h0,if_true]
  have e2:slotG H i q=none:=by
   unfold slotG
   rcases hno with h|⟨o,h,h0⟩
   ·rw[h]
   ·rw[h];simp[h0]
  rw[e1,e2]at hR
  simp -implicitDefEqProofs only[↓Zd,(Zp),simprocAttr,(HEx),vA]
  exact hR _ _ ⟨hpro,tg,pf,pn,sl,bs,h.le l1⟩ (.of_le l1)
 ·have hj:=(List.getElem?_eq_some_iff.1 ho).1
  have hs0:¬ o.shape=0:=by omega
  have hml:o.L.length≤32:=by have:=h.ok.lens j o ho;have:=h.ok.lim;omega
  obtain⟨an,cn,rfl⟩:∃ a c,sv = .slice a o.L.length c:=by
   rcases h5 with ⟨e1,_,rfl⟩|⟨b2,junk,rfl,_⟩
   ·exact⟨none,0,by rw[e1]⟩
   ·exact⟨_,_,rfl⟩
  by_cases k1:q<0
  ·have e1:putH H i q (k,n,y)=H:=by unfold putH;rw[hat];simp only[if_neg hs0];rw[if_neg (by omega)]
   have e2:slotG H i q=none:=by unfold slotG;rw[hat];simp only[if_neg hs0];rw[if_neg (by omega)]
   rw[e1,e2]at hR
   simp -implicitDefEqProofs only[↓Zd,(Zp),simprocAttr,(HEx),vA,k1]
   exact hR _ _ ⟨hpro,tg,pf,pn,sl,bs,h.le l1⟩ (.of_le l1)
  ·by_cases k2:(o.L.length:Int)≤q
   ·have e3:o.L[q.toNat]?=none:=List.getElem?_eq_none (by omega)
    have e1:putH H i q (k,n,y)=H:=by unfold putH;rw[hat];simp only[if_neg hs0];rw[if_pos (by omega),e3]
    have e2:slotG H i q=none:=by unfold slotG;rw[hat];simp only[if_neg hs0];rw[if_pos (by omega),e3];rfl
    rw[e1,e2]at hR
    simp -implicitDefEqProofs only[↓Zd,(Zp),simprocAttr,cld2,(HEx),vA,h2,k1,k2]
    exact hR _ _ ⟨hpro,tg,pf,pn,sl,bs,h.le l1⟩ (.of_le l1)
   ·obtain⟨m,rfl⟩:∃ m:Nat,q=(m:Int):=⟨q.toNat,by omega⟩
    have hmlt:m<o.L.length:=by omega
    obtain⟨x,v,hg⟩:∃ x v,o.L[m]?=some (x,v):=⟨o.L[m].1,o.L[m].2,by simp[hmlt]⟩
    have e1:putH H i (m:Int) (k,n,y)=putO H i { o with L:=o.L.set m (x,k,n,y) }:=by unfold putH;rw[hat];simp only[if_neg hs0];rw[if_pos (by omega),Int.toNat_natCast,hg]
    have e2:(slotG H i (m:Int)).isSome=true:=by unfold slotG;rw[hat];simp only[if_neg hs0];rw[if_pos (by omega),Int.toNat_natCast,hg];rfl
    rw[e1]at hok hpr
    rw[e1,e2]at hR
    rcases h5 with ⟨e0,_⟩|⟨b2,junk,e5,hb2,_⟩
    ·omega
    cases e5
    have hb2O:=h6 _ _ _ rfl
    simp only at hb2O
    have hb2n:=(h.own b2 hb2O.1.1).2
    have hne:¬ b2=s.next:=by omega
    have hb2':s.at' b2=some (.cells (valsC o.L++junk) 36 true):=by rw[St.at_new,if_neg hne]at hb2;exact hb2
    obtain⟨c1,c2⟩:=valsC_cut o.L m _ _ junk hg
    have hset:=valsC_set o.L m x (k,n,y) _ junk hg
    have hkk:(0:Int)≤(m:Int)∧(m:Int)<(o.L.length:Int):=by omega
    simp -implicitDefEqProofs only[↓Zd,(Zp),simprocAttr,qP,Value.cells,cut,qC,cld2,(HEx),vA,h2,k1,k2,hb2,hkk,c1,hset,ord61]
    have hB:=(h.le l1).obj j b o hb ho
    have h3':=(h.le l1).setO (o':={ o with L:=o.L.set m (x,k,n,y) }) (s':=(s.new (.cells [.int .i64 k,.int .i64 n,.string y] 36 true)).put b2 (.cells (valsC (o.L.set m (x,k,n,y))++junk) 36 true)) hij hj hb (upd_put hb2O.1) ⟨fun c hc=>hB.own c hc,hB.pin,hB.ep,.inr ⟨h0,ps,_,by rw[St.at_put,if_neg (fun e:b=b2=>hb2O.2.1 e.symm)];exact h1,by rw[St.at_put,if_neg (fun e:ps=b2=>hb2O.2.2 e.symm)];exact h2,h3,h4,.inr ⟨b2,junk,by rw[List.length_set],by rw[St.at_put,if_pos rfl],valsC_len _⟩,fun q n c e=>by cases e;exact hb2O⟩⟩ hok
    exact hR _ _ ⟨hpr,_,_,_,_,_,h3'⟩ ((Upd.of_le l1).trans (re_upd (upd_put hb2O.1)))
theorem putO_putF(H:Hp)(F':List Sh)(i:Int)(a b:Ob):putO { putO H i a with F:=F' } i b=putO { H with F:=F' } i b:=by
 unfold putO;simp only[List.set_set]
theorem move_ok{H:Hp}(h:HOk H)(n q:Nat):HOk { H with F:=moveF H.F H.most n q }:=
 h.more (fun j t ht=>move_pre ht) (fun _ _ _=>rfl) (Nat.le_refl _) h.nodup (move_ids h.ids)
set_option maxHeartbeats 8000000 in
theorem hsetproto_spec(h:HpAt lo s p H N O)(hlo:lo≤s.next){i q:Int}(hN:N+3≤1000000)(hN2:32≤N)(hi : -9223372036854775808≤i∧i≤9223372036854775807)(hq : -9223372036854775808≤q∧q≤9223372036854775807)
  (hR:∀ s' O',HpAt lo s' p (protoH H i q) (N+3) O'→Upd s s' O O'→R (.int .i64 (protoE H i q)) s'):QC Tryz.prog w0 23 #[.pointer (some ⟨p,0,none⟩),.int .i64 i,.int .i64 q] s R:=by
 refine wfun2 hmix ok23 func23 rfl ntmps23 results23 (by simp) ?_
 obtain⟨hpro,tg,pf,pn,sl,bs,h⟩:=h
 have hmono:=h.mono (N':=N+3) (by omega)
 have hno4:protoE H i q=4→R (.int .i64 4) s:=fun e=>by
  have:=hR s O
  rw[e]at this
  have e1:protoH H i q=H:=by unfold protoH;rw[if_neg (by omega)]
  rw[e1]at this
  exact this ⟨hpro,_,_,_,_,_,hmono⟩ .refl
 have hno32:protoE H i q=32→R (.int .i64 32) s:=fun e=>by
  have:=hR s O
  rw[e]at this
  have e1:protoH H i q=H:=by unfold protoH;rw[if_neg (by omega)]
  rw[e1]at this
  exact this ⟨hpro,_,_,_,_,_,hmono⟩ .refl
 have hhb:=h.bl
 simp -implicitDefEqProofs only[↓Zd,(Zp),simprocAttr,co48]
 refine hdead_spec h ?_
 simp -implicitDefEqProofs only[↓Zd,(Zp),simprocAttr,(HEx),co58]
 refine hfind_spec h hi (fun hno=>?_) (fun j b o hij hb ho hat=>?_)
 ·have e:protoE H i q=4:=by unfold protoE;rw[if_pos (.inl hno)]
  simp -implicitDefEqProofs only[↓Zd,(Zp),simprocAttr,(HEx)]
  exact hno4 e
 ·have hj:=(List.getElem?_eq_some_iff.1 ho).1
  have hrest:(q=0∨∃ u,obAt H q=some u)→QC Tryz.prog w0 69 #[.pointer (some ⟨p,0,none⟩),.int .i64 i,.int .i64 q] s (fun v s'=>s'=s∧v = .bool (onB H i q)):=fun hq=>by
   refine hon_spec h (by omega) ?_ fun b hb=>⟨rfl,by rw[hb.eq]⟩
   rcases hq with h|⟨u,h⟩
   ·exact .inl h
   ·obtain⟨m,hm,hm2,_⟩:=obAt_some h
    right;omega
  by_cases qn0:q<0
  ·have q0:¬ q=0:=by omega
   have hqn:obAt H q=none:=obAt_none.2 (by omega)
   have e:protoE H i q=4:=by unfold protoE;rw[if_pos (.inr ⟨q0,hqn⟩)]
   simp -implicitDefEqProofs only[↓Zd,(Zp),simprocAttr,(HEx),q0,co58]
   refine hfind_spec h hq (fun _=>?_) (fun j2 b2 o2 hij2 hb2 ho2 hat2=>by rw[hqn]at hat2;cases hat2)
   simp -implicitDefEqProofs only[↓Zd,(Zp),simprocAttr,(HEx)]
   exact hno4 e
  ·obtain⟨qn,rfl⟩:∃ qn:Nat,q=(qn:Int):=⟨q.toNat,by omega⟩
   have hB:=h.obj j b o hb ho
   have hbn:=(hB.own b hB.pin).2
   have hep:=hB.ep
   have w1:IntKind.i64.wrap ((o.epoch:Int)+1)=((o.epoch+1:Nat):Int):=by rw[wrap_i64 (by omega)];omega
   have hpb:¬ p=b:=fun e=>by have h1:=h.pin.2;have h2:=hB.pin.2;rw[e]at h1;omega
   by_cases q0:qn=0
   ·subst q0
    simp -implicitDefEqProofs only[↓Zd,(Zp),simprocAttr,(HEx),co69]
    refine QC.mono (hrest (.inl rfl)) fun v s' hv=>?_
    obtain⟨rfl,rfl⟩:=hv
    have hqok:¬ (obAt H i=none∨(((0:Nat):Int)≠0∧obAt H ((0:Nat):Int)=none)):=by rintro (h|h);rw[hat]at h;cases h;exact h.1 rfl
    have hup:onB H i ((0:Nat):Int)=false→HOk (putO H i { o with proto:=0,epoch:=o.epoch+1 }):=fun hon=>by
     subst hij
     unfold putO
     rw[show ((j+1:Nat):Int).toNat - 1=j by omega]
     exact h.ok.upd (F':=H.F) (T':=H.T) ho (fun _ _ h=>h) (fun _ _ _=>rfl) (Nat.le_refl _) h.ok.nodup h.ok.ids (fun h2=>h.ok.fits j o ho h2) (h.ok.keys j o ho) (h.ok.lens j o ho) (proto_up h.ok ho (.inl rfl) hon rfl)
    cases hon:onB H i ((0:Nat):Int) with
    |true =>
     have e:protoE H i ((0:Nat):Int)=32:=by unfold protoE;rw[if_neg hqok,if_pos hon]
     simp -implicitDefEqProofs only[↓Zd,(Zp),simprocAttr,(HEx)]
     exact hno32 e
    |false =>
     have e:protoE H i ((0:Nat):Int)=0:=by unfold protoE;rw[if_neg hqok,if_neg (by rw[hon];simp)]
     have hok:=proto_ok h.ok i ((0:Nat):Int)
     have hpr:=proto_pro h.ok hpro i ((0:Nat):Int)
     have hok1:=hup hon
     rcases hB.bl with ⟨h0,pd,OD,g1,g2,g3⟩|⟨h0,ps,sv,g1,g2,g3,g4,g5,g6⟩
     ·have e1:protoH H i ((0:Nat):Int)=putO H i { o with proto:=0,epoch:=o.epoch+1 }:=by unfold protoH;rw[if_pos e,hat];simp only[if_pos h0];rfl
      rw[e1]at hok hpr hR
      rw[e]at hR
      simp -implicitDefEqProofs only[↓Zd,(Zp),simprocAttr,qP,Value.cells,qC,cld2,(HEx),g1,w1]
      have hB1:=hB.head g1 0 o.epoch (N':=N+1) (by omega) (by omega)
      have hB2:=hB1.head (by rw[St.at_put,if_pos rfl]) 0 (o.epoch+1) (N':=N+1) (by show o.epoch+1≤_;omega) (Nat.le_refl _)
      have h3:=(h.mono (N':=N+1) (by omega)).setO hij hj hb ((upd_put hB.pin).trans (upd_put hB.pin)) hB2 hok1
      exact hR _ _ ⟨hpr,_,_,_,_,_,h3.mono (by omega)⟩ (re_upd ((upd_put hB.pin).trans (upd_put hB.pin)))
     ·have e1:protoH H i ((0:Nat):Int)=putO { H with F:=moveF H.F H.most o.shape 0 } i { o with proto:=0,epoch:=o.epoch+1,shape:=moveN H.F H.most o.shape 0 }:=by unfold protoH;rw[if_pos e,hat];simp only[if_neg (show ¬ o.shape=0 by omega)];rfl
      rw[e1]at hok hpr hR
      rw[e]at hR
      have hgs:¬ ps=b:=g4
      have hF12:o.shape≤150:=by
       obtain⟨q0,l,h1,_⟩:=h.ok.fits j o ho h0
       have:=(List.getElem?_eq_some_iff.1 h1).1
       have:=h.fo.le
       omega
      have hB1:=hB.head g1 0 o.epoch (N':=N+1) (by omega) (by omega)
      have hB2:=hB1.head (by rw[St.at_put,if_pos rfl]) 0 (o.epoch+1) (N':=N+1) (by show o.epoch+1≤_;omega) (Nat.le_refl _)
      have h3:=(h.mono (N':=N+1) (by omega)).setO hij hj hb ((upd_put hB.pin).trans (upd_put hB.pin)) hB2 hok1
      have hU3:=re_upd ((upd_put (s:=s') (B := .cells [.iface 88 (.pointer (some ⟨ps,0,none⟩)),.int .i64 ((0:Nat):Int),.int .i64 (o.epoch:Int)] 119 true) hB.pin).trans (upd_put (B := .cells [.iface 88 (.pointer (some ⟨ps,0,none⟩)),.int .i64 ((0:Nat):Int),.int .i64 ((o.epoch+1:Nat):Int)] 119 true) hB.pin))
      simp -implicitDefEqProofs only[↓Zd,(Zp),simprocAttr,qP,Value.cells,qC,cld2,(HEx),g1,g2,hgs,w1,hhb,hpb,ord23,co70]
      refine fmove_spec (i:=(o.shape:Int)) (q:=0) h3.fo (by simp only[St.next_put];omega) (by omega) fun s4 O4 hF4 hU4=>?_
      have hF4':FAt lo s4 pf (moveF H.F H.most (o.shape:Int) 0) H.most O4:=hF4
      show Cs.shape Tryz.prog 3 (.int .i64 ((moveN H.F H.most (o.shape:Int) 0:Nat):Int)) _
      have h4:=h3.newF hU4 hF4' (move_ok hok1 o.shape 0)
      have hU4':=re_upd hU4
      have hn4:=hU4.next
      simp only[St.next_put]at hn4
      generalize hO3:reO O tg (j+3) (fun c=>O c∧tg c=j+3)=O3 at h3 h4 hU3 hU4 hU4'
      generalize hT3:reT tg (j+3) (fun c=>O c∧tg c=j+3)=tg3 at h3 h4 hU4 hU4'
      have hin3:∀ c,O c∧tg c=j+3→O3 c∧tg3 c=j+3:=fun c hc=>by
       have:=re_pin (O:=O) (tg:=tg) (j:=j+3) (O':=fun c=>O c∧tg c=j+3) hc
       rw[hO3,hT3]at this;exact this
      have hat4:∀ c,O c∧tg c=j+3→s4.at' c=((s'.put b (.cells [.iface 88 (.pointer (some ⟨ps,0,none⟩)),.int .i64 ((0:Nat):Int),.int .i64 (o.epoch:Int)] 119 true)).put b (.cells [.iface 88 (.pointer (some ⟨ps,0,none⟩)),.int .i64 ((0:Nat):Int),.int .i64 ((o.epoch+1:Nat):Int)] 119 true)).at' c:=fun c hc =>
       re_keep h3.own hU4 c (hin3 c hc).1 (by rw[(hin3 c hc).2];omega)
      have hin4:∀ c,O c∧tg c=j+3→reO O3 tg3 1 O4 c∧reT tg3 1 O4 c=j+3:=fun c hc=>re_tag (fun b hb=>(h3.own b hb).2) hU4.own (by omega) (hin3 c hc)
      have hps4:s4.at' ps=some (.cells [.int .i64 (o.shape:Int),sv] 92 true):=by
       rw[hat4 ps g3,St.at_put,if_neg g4,St.at_put,if_neg g4];exact g2
      have hb4:s4.at' b=some (.cells [.iface 88 (.pointer (some ⟨ps,0,none⟩)),.int .i64 ((0:Nat):Int),.int .i64 ((o.epoch+1:Nat):Int)] 119 true):=by
       rw[hat4 b hB.pin,St.at_put,if_pos rfl]
      have hsl4:SlU 36 3 s4 sv (valsC o.L) o.L.length:=g5.same fun q n c e=>by
       have:=g6 q n c e
       rw[hat4 _ this.1,St.at_put,if_neg this.2.1,St.at_put,if_neg this.2.1]
      have hok4:HOk (putO { H with F:=moveF H.F H.most (o.shape:Int) 0 } i { o with proto:=0,epoch:=o.epoch+1 }):=h4.ok
      have hUall:=hU3.trans hU4'
      have hobj4:({ putO H i { o with proto:=0,epoch:=o.epoch+1 } with F:=moveF H.F H.most (o.shape:Int) 0 }:Hp).obs[j]?=some { o with proto:=0,epoch:=o.epoch+1 }:=putO_at (o:=o) hij hj
      have hlt4:j<({ putO H i { o with proto:=0,epoch:=o.epoch+1 } with F:=moveF H.F H.most (o.shape:Int) 0 }:Hp).obs.length:=by simp only[putO,List.length_set];exact hj
      by_cases hpos:(0:Int)<((moveN H.F H.most (o.shape:Int) 0:Nat):Int)
      ·simp -implicitDefEqProofs only[↓Zd,(Zp),simprocAttr,qP,Value.cells,qC,(HEx),hpos,hps4]
       have hB5:ObAt lo (s4.put ps (.cells [.int .i64 ((moveN H.F H.most (o.shape:Int) 0:Nat):Int),sv] 92 true)) (N+1) b { o with proto:=0,epoch:=o.epoch+1,shape:=moveN H.F H.most (o.shape:Int) 0 } (fun c=>reO O3 tg3 1 O4 c∧reT tg3 1 O4 c=j+3):=by
        refine⟨fun c hc=>h4.own c hc.1,hin4 b hB.pin,by show o.epoch+1≤_;omega,.inr ⟨by show 0<moveN H.F H.most (o.shape:Int) 0;omega,ps,sv,?_,by rw[St.at_put,if_pos rfl],hin4 ps g3,g4,hsl4.same fun q n c e=>?_,fun q n c e=>?_⟩⟩
        ·rw[St.at_put,if_neg (fun e:b=ps=>g4 e.symm)];exact hb4
        ·rw[St.at_put,if_neg (g6 q n c e).2.2]
        ·exact⟨hin4 _ (g6 q n c e).1,(g6 q n c e).2⟩
       have h5:=h4.setO hij hlt4 hb (upd_put (hin4 ps g3)) hB5 (by rw[putO_putF];exact hok)
       rw[putO_putF]at h5
       exact hR _ _ ⟨hpr,_,_,_,_,_,h5.mono (by omega)⟩ (hUall.trans (re_upd (upd_put (hin4 ps g3))))
      ·have hz:moveN H.F H.most (o.shape:Int) 0=0:=by omega
       rw[hz]at hok hpr hR
       simp -implicitDefEqProofs only[↓Zd,(Zp),simprocAttr,(HEx),hpos,co66]
       refine hloosen_spec h4 (by omega) (by omega) (by omega) hb hobj4 fun s5 pd5 OD5 hb5 hD5 ho5 hne5 hn5 hk5=>?_
       simp -implicitDefEqProofs only[↓Zd,(Zp),simprocAttr,(HEx)]
       obtain⟨hB6,hU6⟩:=loose_end (hin4 b hB.pin) (h4.own b (hin4 b hB.pin).1) hb5 ho5 hne5 hn5 hk5 hD5 (Nat.le_refl _) (fun _ _ _=>rfl) (fun c hc => .inl hc) (by show o.epoch+1≤_;omega)
       have h6:=h4.setO hij hlt4 hb hU6 hB6 (by rw[putO_putF];exact hok)
       rw[putO_putF]at h6
       exact hR _ _ ⟨hpr,_,_,_,_,_,h6.mono (by omega)⟩ (hUall.trans (re_upd hU6))
   ·have hqz:¬ (qn:Int)=0:=by omega
    simp -implicitDefEqProofs only[↓Zd,(Zp),simprocAttr,(HEx),hqz,co58]
    refine hfind_spec h hq (fun hno=>?_) (fun j2 b2 o2 hij2 hb2 ho2 hat2=>?_)
    ·have e:protoE H i (qn:Int)=4:=by unfold protoE;rw[if_pos (.inr ⟨hqz,hno⟩)]
     simp -implicitDefEqProofs only[↓Zd,(Zp),simprocAttr,(HEx)]
     exact hno4 e
    ·simp -implicitDefEqProofs only[↓Zd,(Zp),simprocAttr,(HEx),co69]
     refine QC.mono (hrest (.inr ⟨o2,hat2⟩)) fun v s' hv=>?_
     obtain⟨rfl,rfl⟩:=hv
     have hqok:¬ (obAt H i=none∨(((qn:Nat):Int)≠0∧obAt H ((qn:Nat):Int)=none)):=by rintro (h|h);rw[hat]at h;cases h;rw[hat2]at h;cases h.2
     have hup:onB H i ((qn:Nat):Int)=false→HOk (putO H i { o with proto:=qn,epoch:=o.epoch+1 }):=fun hon=>by
      subst hij
      unfold putO
      rw[show ((j+1:Nat):Int).toNat - 1=j by omega]
      exact h.ok.upd (F':=H.F) (T':=H.T) ho (fun _ _ h=>h) (fun _ _ _=>rfl) (Nat.le_refl _) h.ok.nodup h.ok.ids (fun h2=>h.ok.fits j o ho h2) (h.ok.keys j o ho) (h.ok.lens j o ho) (proto_up h.ok ho (.inr (by have:=(List.getElem?_eq_some_iff.1 ho2).1;omega)) hon rfl)
     cases hon:onB H i ((qn:Nat):Int) with
     |true =>
      have e:protoE H i ((qn:Nat):Int)=32:=by unfold protoE;rw[if_neg hqok,if_pos hon]
      simp -implicitDefEqProofs only[↓Zd,(Zp),simprocAttr,(HEx)]
      exact hno32 e
     |false =>
      have e:protoE H i ((qn:Nat):Int)=0:=by unfold protoE;rw[if_neg hqok,if_neg (by rw[hon];simp)]
      have hok:=proto_ok h.ok i ((qn:Nat):Int)
      have hpr:=proto_pro h.ok hpro i ((qn:Nat):Int)
      have hok1:=hup hon
      rcases hB.bl with ⟨h0,pd,OD,g1,g2,g3⟩|⟨h0,ps,sv,g1,g2,g3,g4,g5,g6⟩
      ·have e1:protoH H i ((qn:Nat):Int)=putO H i { o with proto:=qn,epoch:=o.epoch+1 }:=by unfold protoH;rw[if_pos e,hat];simp only[if_pos h0];rfl
       rw[e1]at hok hpr hR
       rw[e]at hR
       simp -implicitDefEqProofs only[↓Zd,(Zp),simprocAttr,qP,Value.cells,qC,cld2,(HEx),g1,w1]
       have hB1:=hB.head g1 qn o.epoch (N':=N+1) (by omega) (by omega)
       have hB2:=hB1.head (by rw[St.at_put,if_pos rfl]) qn (o.epoch+1) (N':=N+1) (by show o.epoch+1≤_;omega) (Nat.le_refl _)
       have h3:=(h.mono (N':=N+1) (by omega)).setO hij hj hb ((upd_put hB.pin).trans (upd_put hB.pin)) hB2 hok1
       exact hR _ _ ⟨hpr,_,_,_,_,_,h3.mono (by omega)⟩ (re_upd ((upd_put hB.pin).trans (upd_put hB.pin)))
      ·have e1:protoH H i ((qn:Nat):Int)=putO { H with F:=moveF H.F H.most o.shape qn } i { o with proto:=qn,epoch:=o.epoch+1,shape:=moveN H.F H.most o.shape qn }:=by unfold protoH;rw[if_pos e,hat];simp only[if_neg (show ¬ o.shape=0 by omega)];rfl
       rw[e1]at hok hpr hR
       rw[e]at hR
       have hgs:¬ ps=b:=g4
       have hF12:o.shape≤150:=by
        obtain⟨q0,l,h1,_⟩:=h.ok.fits j o ho h0
        have:=(List.getElem?_eq_some_iff.1 h1).1
        have:=h.fo.le
        omega
       have hB1:=hB.head g1 qn o.epoch (N':=N+1) (by omega) (by omega)
       have hB2:=hB1.head (by rw[St.at_put,if_pos rfl]) qn (o.epoch+1) (N':=N+1) (by show o.epoch+1≤_;omega) (Nat.le_refl _)
       have h3:=(h.mono (N':=N+1) (by omega)).setO hij hj hb ((upd_put hB.pin).trans (upd_put hB.pin)) hB2 hok1
       have hU3:=re_upd ((upd_put (s:=s') (B := .cells [.iface 88 (.pointer (some ⟨ps,0,none⟩)),.int .i64 ((qn:Nat):Int),.int .i64 (o.epoch:Int)] 119 true) hB.pin).trans (upd_put (B := .cells [.iface 88 (.pointer (some ⟨ps,0,none⟩)),.int .i64 ((qn:Nat):Int),.int .i64 ((o.epoch+1:Nat):Int)] 119 true) hB.pin))
       simp -implicitDefEqProofs only[↓Zd,(Zp),simprocAttr,qP,Value.cells,qC,cld2,(HEx),g1,g2,hgs,w1,hhb,hpb,ord23,co70]
       refine fmove_spec (i:=(o.shape:Int)) (q:=qn) h3.fo (by simp only[St.next_put];omega) (by omega) fun s4 O4 hF4 hU4=>?_
       have hF4':FAt lo s4 pf (moveF H.F H.most (o.shape:Int) qn) H.most O4:=hF4
       show Cs.shape Tryz.prog 3 (.int .i64 ((moveN H.F H.most (o.shape:Int) qn:Nat):Int)) _
       have h4:=h3.newF hU4 hF4' (move_ok hok1 o.shape qn)
       have hU4':=re_upd hU4
       have hn4:=hU4.next
       simp only[St.next_put]at hn4
       generalize hO3:reO O tg (j+3) (fun c=>O c∧tg c=j+3)=O3 at h3 h4 hU3 hU4 hU4'
       generalize hT3:reT tg (j+3) (fun c=>O c∧tg c=j+3)=tg3 at h3 h4 hU4 hU4'
       have hin3:∀ c,O c∧tg c=j+3→O3 c∧tg3 c=j+3:=fun c hc=>by
        have:=re_pin (O:=O) (tg:=tg) (j:=j+3) (O':=fun c=>O c∧tg c=j+3) hc
        rw[hO3,hT3]at this;exact this
       have hat4:∀ c,O c∧tg c=j+3→s4.at' c=((s'.put b (.cells [.iface 88 (.pointer (some ⟨ps,0,none⟩)),.int .i64 ((qn:Nat):Int),.int .i64 (o.epoch:Int)] 119 true)).put b (.cells [.iface 88 (.pointer (some ⟨ps,0,none⟩)),.int .i64 ((qn:Nat):Int),.int .i64 ((o.epoch+1:Nat):Int)] 119 true)).at' c:=fun c hc =>
        re_keep h3.own hU4 c (hin3 c hc).1 (by rw[(hin3 c hc).2];omega)
       have hin4:∀ c,O c∧tg c=j+3→reO O3 tg3 1 O4 c∧reT tg3 1 O4 c=j+3:=fun c hc=>re_tag (fun b hb=>(h3.own b hb).2) hU4.own (by omega) (hin3 c hc)
       have hps4:s4.at' ps=some (.cells [.int .i64 (o.shape:Int),sv] 92 true):=by
        rw[hat4 ps g3,St.at_put,if_neg g4,St.at_put,if_neg g4];exact g2
       have hb4:s4.at' b=some (.cells [.iface 88 (.pointer (some ⟨ps,0,none⟩)),.int .i64 ((qn:Nat):Int),.int .i64 ((o.epoch+1:Nat):Int)] 119 true):=by
        rw[hat4 b hB.pin,St.at_put,if_pos rfl]
       have hsl4:SlU 36 3 s4 sv (valsC o.L) o.L.length:=g5.same fun q n c e=>by
        have:=g6 q n c e
        rw[hat4 _ this.1,St.at_put,if_neg this.2.1,St.at_put,if_neg this.2.1]
       have hok4:HOk (putO { H with F:=moveF H.F H.most (o.shape:Int) qn } i { o with proto:=qn,epoch:=o.epoch+1 }):=h4.ok
       have hUall:=hU3.trans hU4'
       have hobj4:({ putO H i { o with proto:=qn,epoch:=o.epoch+1 } with F:=moveF H.F H.most (o.shape:Int) qn }:Hp).obs[j]?=some { o with proto:=qn,epoch:=o.epoch+1 }:=putO_at (o:=o) hij hj
       have hlt4:j<({ putO H i { o with proto:=qn,epoch:=o.epoch+1 } with F:=moveF H.F H.most (o.shape:Int) qn }:Hp).obs.length:=by simp only[putO,List.length_set];exact hj
       by_cases hpos:(0:Int)<((moveN H.F H.most (o.shape:Int) qn:Nat):Int)
       ·simp -implicitDefEqProofs only[↓Zd,(Zp),simprocAttr,qP,Value.cells,qC,(HEx),hpos,hps4]
        have hB5:ObAt lo (s4.put ps (.cells [.int .i64 ((moveN H.F H.most (o.shape:Int) qn:Nat):Int),sv] 92 true)) (N+1) b { o with proto:=qn,epoch:=o.epoch+1,shape:=moveN H.F H.most (o.shape:Int) qn } (fun c=>reO O3 tg3 1 O4 c∧reT tg3 1 O4 c=j+3):=by
         refine⟨fun c hc=>h4.own c hc.1,hin4 b hB.pin,by show o.epoch+1≤_;omega,.inr ⟨by show 0<moveN H.F H.most (o.shape:Int) qn;omega,ps,sv,?_,by rw[St.at_put,if_pos rfl],hin4 ps g3,g4,hsl4.same fun q n c e=>?_,fun q n c e=>?_⟩⟩
         ·rw[St.at_put,if_neg (fun e:b=ps=>g4 e.symm)];exact hb4
         ·rw[St.at_put,if_neg (g6 q n c e).2.2]
         ·exact⟨hin4 _ (g6 q n c e).1,(g6 q n c e).2⟩
        have h5:=h4.setO hij hlt4 hb (upd_put (hin4 ps g3)) hB5 (by rw[putO_putF];exact hok)
        rw[putO_putF]at h5
        exact hR _ _ ⟨hpr,_,_,_,_,_,h5.mono (by omega)⟩ (hUall.trans (re_upd (upd_put (hin4 ps g3))))
       ·have hz:moveN H.F H.most (o.shape:Int) qn=0:=by omega
        rw[hz]at hok hpr hR
        simp -implicitDefEqProofs only[↓Zd,(Zp),simprocAttr,(HEx),hpos,co66]
        refine hloosen_spec h4 (by omega) (by omega) (by omega) hb hobj4 fun s5 pd5 OD5 hb5 hD5 ho5 hne5 hn5 hk5=>?_
        simp -implicitDefEqProofs only[↓Zd,(Zp),simprocAttr,(HEx)]
        obtain⟨hB6,hU6⟩:=loose_end (hin4 b hB.pin) (h4.own b (hin4 b hB.pin).1) hb5 ho5 hne5 hn5 hk5 hD5 (Nat.le_refl _) (fun _ _ _=>rfl) (fun c hc => .inl hc) (by show o.epoch+1≤_;omega)
        have h6:=h4.setO hij hlt4 hb hU6 hB6 (by rw[putO_putF];exact hok)
        rw[putO_putF]at h6
        exact hR _ _ ⟨hpr,_,_,_,_,_,h6.mono (by omega)⟩ (hUall.trans (re_upd hU6))
end
end Go.Proofs.Tryz
namespace Go.Proofs.Tryz
open Go.Cs
open Go.RowKit (Below)
set_option maxRecDepth 100000
attribute [local irreducible] QC WLoop WScope CRound WRange
theorem rowPtr(a:Option Addr):crow Tryz.prog 72 1 #[(0,.pointer a)]=some (.cells [.pointer a] 111 true):=by kernel_rfl
theorem infoPtr:∃ ie,Tryz.prog.info? 111=some ie∧ie.size=1∧0<ie.bytes∧ie.bytes≤100:=by
 obtain⟨ie,h⟩:=Option.isSome_iff_exists.1 is111
 have h1:=ce111
 have h2:decide (0<Tryz.prog.bytesOf 111∧Tryz.prog.bytesOf 111≤100)=true:=by kernel_rfl
 rw[cellsOf_info h]at h1
 simp only[Program.bytesOf,h,decide_eq_true_eq]at h2
 exact⟨ie,h,h1,h2.1,h2.2⟩
section
variable {M:Type}[Mem M]{w0:World}{s:St M}{R:Value→St M→Prop}{lo p N:Nat}{H:Hp}{O:Nat→Prop}
theorem wch_app_ptr{s:St M}{sl:Value}{l:List Nat}{a:Nat}{K:Value→St M→Prop}(hlen:l.length≤1000000)(hsl:SlU 111 1 s sl (ptrs l) l.length)(hfr:∀ q m c,sl = .slice (some q) m c→q.block<s.next)
  (h:∀ s',s'.next=s.next+2→s'.at' (s.next+1)=some (.cells (ptrs (l ++ [a])) 111 true)→(∀ b,b<s.next→(∀ q n c,sl = .slice (some q) n c→b≠q.block)→s'.at' b=s.at' b)→K (.slice (some ⟨s.next+1,0,none⟩) (l.length+1) UNK) s') :
  wch (capp Tryz.prog #[72,72] #[sl,.slice (some ⟨s.next,0,none⟩) 1 1] (s.new (.cells [.pointer (some ⟨a,0,none⟩)] 111 true))) K:=by
 obtain⟨ie,hie,h1,h2,h3⟩:=infoPtr
 have hcapp:capp Tryz.prog #[72,72] #[sl,.slice (some ⟨s.next,0,none⟩) 1 1] (s.new (.cells [.pointer (some ⟨a,0,none⟩)] 111 true))=capp3 Tryz.prog 111 ie sl (s.new (.cells [.pointer (some ⟨a,0,none⟩)] 111 true)) (cmore ie.size (.slice (some ⟨s.next,0,none⟩) 1 1) (s.new (.cells [.pointer (some ⟨a,0,none⟩)] 111 true))):=
  app_eq underlying72 underlying72 hie
 have hv:cmore ie.size (.slice (some ⟨s.next,0,none⟩) 1 1) (s.new (.cells [.pointer (some ⟨a,0,none⟩)] 111 true))=some (1,[.pointer (some ⟨a,0,none⟩)]):=by
  simp only[more_at,St.at_new,if_true,more2,h1];rfl
 obtain⟨s',h3,h4,h5,h6⟩:=app_rowU (n:=l.length) (k:=1) hie ze111 (by rw[h1];rfl) h2 hcapp (by omega) (by
  have:(l.length+1)*ie.bytes≤1000001*100:=Nat.mul_le_mul (by omega) h3
  omega) rfl hv (by rw[h1];exact hsl.same fun q m c e=>by rw[St.at_new,if_neg (by have:=hfr q m c e;omega)])
 refine⟨_,s',h3,h s' (by simp at h4;omega) (by simpa [ptrs] using h5) fun b hb hq=>?_⟩
 rw[h6 b (by simp;omega) hq,St.at_new,if_neg (by omega)]
open Classical in
theorem HpIn.addO{s':St M}{tg:Nat→Nat}{pf pn b r:Nat}{sl sl':Value}{bs:List Nat}{o':Ob}{OO:Nat→Prop}(h:HpIn lo s p H N O tg pf pn sl bs)(hn:s.next≤s'.next)(hk:∀ c,O c→tg c≠0→s'.at' c=s.at' c)
  (hp:s'.at' p=some (.cells [sl',.pointer (some ⟨pf,0,none⟩),.pointer (some ⟨pn,0,none⟩),.int .i64 (H.maxO:Int),.int .i64 (H.maxP:Int)] 74 true))(hsl:SlU 111 1 s' sl' (ptrs (bs ++ [b])) (bs ++ [b]).length)(hr:∀ q n c,sl' = .slice (some q) n c→q.block=r)
  (hr1:¬ O r∧lo≤r∧r<s'.next)(hOO:∀ c,OO c→¬ O c∧c≠r)(hB:ObAt lo s' N b o' OO)(hok:HOk { H with obs:=H.obs ++ [o'] }) :
  HpIn lo s' p { H with obs:=H.obs ++ [o'] } N (fun c=>(O c∧tg c≠bs.length+3)∨OO c∨c=r) (fun c=>if OO c then bs.length+3 else if c=r then 0 else tg c) pf pn sl' (bs ++ [b]):=by
 have hrp:r≠p:=fun e=>hr1.1 (e▸h.pin.1)
 have hold:∀ k,k≠bs.length+3→k≠0→(fun c=>((O c∧tg c≠bs.length+3)∨OO c∨c=r)∧(if OO c then bs.length+3 else if c=r then 0 else tg c)=k)=fun c=>O c∧tg c=k:=by
  intro k hk1 hk2
  funext c
  apply propext
  by_cases h1:OO c
  ·simp only[h1,if_true,true_or,or_true,true_and]
   exact⟨fun e=>absurd e.symm hk1,fun e=>absurd e.1 (hOO c h1).1⟩
  ·by_cases h2:c=r
   ·subst h2
    simp only[h1,if_false,if_true,or_true,true_and]
    exact⟨fun e=>absurd e.symm hk2,fun e=>absurd e.1 hr1.1⟩
   ·simp only[h1,h2,if_false,or_false]
    exact⟨fun ⟨⟨a,_⟩,b⟩=>⟨a,b⟩,fun ⟨a,b⟩=>⟨⟨a,by omega⟩,b⟩⟩
 have hnew:(fun c=>((O c∧tg c≠bs.length+3)∨OO c∨c=r)∧(if OO c then bs.length+3 else if c=r then 0 else tg c)=bs.length+3)=OO:=by
  funext c
  apply propext
  by_cases h1:OO c
  ·simp[h1]
  ·by_cases h2:c=r
   ·subst h2
    simp[h1]
   ·simp only[h1,h2,if_false,or_false,iff_false]
    exact fun ⟨⟨_,a⟩,b⟩=>a b
 have hpO:¬ OO p:=fun hc=>(hOO p hc).1 h.pin.1
 refine⟨fun c hc=>?_,hok,h.tn,⟨.inl ⟨h.pin.1,by rw[h.pin.2];omega⟩,?_⟩,hp,hsl,fun q n c e=>?_,?_,?_,by simp[h.len],fun i b' o h1 h2=>?_⟩
 ·rcases hc with ⟨hc,_⟩|hc|rfl
  ·have:=h.own c hc;omega
  ·exact hB.own c hc
  ·exact hr1.2
 ·rw[if_neg hpO,if_neg (fun e=>hrp e.symm)];exact h.pin.2
 ·have:=hr q n c e
  rw[this]
  exact⟨.inr (.inr rfl),by rw[if_neg (fun hc=>(hOO r hc).2 rfl),if_pos rfl],hrp⟩
 ·rw[hold 1 (by omega) (by omega)]
  exact h.fo.same hn fun c hc=>hk c hc.1 (by rw[hc.2];omega)
 ·rw[hold 2 (by omega) (by omega)]
  exact h.ta.same hn fun c hc=>hk c hc.1 (by rw[hc.2];omega)
 ·by_cases hi:i<bs.length
  ·rw[List.getElem?_append_left hi]at h1
   rw[List.getElem?_append_left (by rw[← h.len];exact hi)]at h2
   rw[hold (i+3) (by omega) (by omega)]
   exact (h.obj i b' o h1 h2).same hn fun c hc=>hk c hc.1 (by rw[hc.2];omega)
  ·have h0:i=bs.length:=by
    have:=(List.getElem?_eq_some_iff.1 h1).1
    simp at this;omega
   subst h0
   rw[List.getElem?_append_right (Nat.le_refl _)]at h1
   rw[List.getElem?_append_right (by rw[← h.len];exact Nat.le_refl _),← h.len]at h2
   simp at h1 h2
   subst h1 h2
   rw[hnew];exact hB
set_option maxHeartbeats 8000000 in
theorem hmake_spec(h:HpAt lo s p H N O)(hlo:lo≤s.next)(hR:∀ s' O',HpAt lo s' p (makeH H) N O'→Upd s s' O O'→R (makeV H) s'):QC Tryz.prog w0 17 #[.pointer (some ⟨p,0,none⟩)] s R:=by
 refine wfun2 hmix ok17 func17 rfl ntmps17 results17 (by simp) ?_
 obtain⟨hpro,tg,pf,pn,sl,bs,h⟩:=h
 have hhb:=h.bl
 have hlim:=h.ok.lim
 have hlen:=h.len
 obtain⟨an,cn,rfl⟩:∃ a c,sl = .slice a bs.length c:=by
  rcases h.row with ⟨e1,_,rfl⟩|⟨b2,junk,rfl,_⟩
  ·exact⟨none,0,by rw[e1]⟩
  ·exact⟨_,_,rfl⟩
 simp -implicitDefEqProofs only[↓Zd,(Zp),simprocAttr,co48]
 refine hdead_spec h ?_
 by_cases hmx:(H.maxO:Int)≤(bs.length:Int)
 ·have e1:makeH H=H:=by unfold makeH;rw[if_pos (by omega)]
  have e2:makeV H = .tuple #[.int .i64 0,.int .i64 40]:=by unfold makeV;rw[if_pos (by omega)]
  rw[e1,e2]at hR
  simp -implicitDefEqProofs only[↓Zd,(Zp),simprocAttr,cld2,(HEx),hhb,hmx,ord17]
  exact hR _ _ ⟨hpro,tg,pf,pn,_,bs,h⟩ .refl
 ·have e1:makeH H={ H with obs:=H.obs ++ [{ L:=[],shape:=growN H.F H.most (0,[]),proto:=0,epoch:=0 }],F:=growF H.F H.most (0,[]) }:=by unfold makeH;rw[if_neg (by omega)]
  have e2:makeV H = .tuple #[.int .i64 ((bs.length+1:Nat):Int),.int .i64 0]:=by unfold makeV;rw[if_neg (by omega),hlen]
  have hok:=make_ok h.ok
  have hpr:=make_pro hpro
  rw[e1]at hok hpr
  rw[e1,e2]at hR
  have hbl:∀ (m:Nat),cbuild Tryz.prog 115 #[(0,.pointer (some ⟨m,0,none⟩))]=some (.agg #[.pointer (some ⟨m,0,none⟩)]):=fun m=>by kernel_rfl
  have hmk:∀ v,cmkI Tryz.prog 115 v=some (.iface 115 v):=fun v=>mkI_s underlying115
  have hmp:∀ v,cmkI Tryz.prog 88 v=some (.iface 88 v):=fun v=>mkI_p underlying88
  have hbo:∀ (v:Value),cbuild Tryz.prog 119 #[(0,.iface 115 (.agg #[v]))]=some (.agg #[.iface 115 (.agg #[v]),.int .i64 0,.int .i64 0]):=fun v=>by kernel_rfl
  have hbs:∀ (n:Int),cbuild Tryz.prog 92 #[(0,.int .i64 n)]=some (.agg #[.int .i64 n,.slice none 0 0]):=fun v=>by kernel_rfl
  simp -implicitDefEqProofs only[↓Zd,(Zp),simprocAttr,cld2,(HEx),hhb,hmx,ord17,co49]
  refine dnew_spec fun s1 pd hD1 hs1=>?_
  have hn1:=hs1.1
  have hhb1:=(h.le hs1).bl
  have hpn:=(h.own p h.pin.1).2
  have hps1:¬ p=s1.next:=by omega
  simp -implicitDefEqProofs only[↓Zd,(Zp),simprocAttr,qP,Value.cells,cld2,(HEx),hhb1,hps1,hbl,hmk,hbo,co50]
  have l2:s.le (s1.new (.cells [.iface 115 (.agg #[.pointer (some ⟨pd,0,none⟩)]),.int .i64 0,.int .i64 0] 119 true)):=lN hs1
  have h2:=h.le l2
  refine froot_spec (q:=0) h2.fo (by simp only[St.next_new];omega) fun s3 O3 hF3 hU3=>?_
  have hn3:=hU3.next
  simp only[St.next_new]at hn3
  have hokF:HOk { H with F:=growF H.F H.most (0,[]) }:=h.ok.more (F':=growF H.F H.most (0,[])) (T':=H.T) (fun j t ht=>growF_get ht) (fun _ _ _=>rfl) (Nat.le_refl _) h.ok.nodup (fun j t ht y hy=>by
   rcases growF_mem ht with h1|rfl
   ·exact h.ok.ids j t h1 y hy
   ·cases hy)
  have h3:=h2.newF hU3 hF3 hokF
  have hU3':=re_upd hU3
  have hhb3:=h3.bl
  generalize hO4:reO O tg 1 O3=O4 at h3 hU3'
  generalize hT4:reT tg 1 O3=tg4 at h3
  have hUall:Upd s s3 O O4:=(Upd.of_le l2).trans hU3'
  have hfresh:∀ c,s.next≤c→c<s1.next+1→¬ O4 c:=fun c h1 h2' hc=>by
   rcases hU3'.own c hc with g|g
   ·have:=(h.own c g).2
    omega
   ·simp only[St.next_new]at g;omega
  have hke:∀ c,s.next≤c→c<s1.next+1→s3.at' c=(s1.new (.cells [.iface 115 (.agg #[.pointer (some ⟨pd,0,none⟩)]),.int .i64 0,.int .i64 0] 119 true)).at' c:=fun c h1 h2'=>by
   refine hU3'.keep c (by simp only[St.next_new];omega) (fun hc=>?_)
   have:=(h.own c hc).2;omega
  have hob3:s3.at' s1.next=some (.cells [.iface 115 (.agg #[.pointer (some ⟨pd,0,none⟩)]),.int .i64 0,.int .i64 0] 119 true):=by rw[hke _ (by omega) (by omega),St.at_new,if_pos rfl]
  have hpO4:=h3.pin.1
  have hsl3:=h3.row
  have hfr3:∀ q m c,Value.slice an bs.length cn = .slice (some q) m c→q.block<s3.next:=fun q m c e=>(h3.own _ (h3.rowO q m c e).1).2
  have hpn3:=(h3.own p hpO4).2
  by_cases hpos:(0:Int)<((growN H.F H.most (0,[]):Nat):Int)
  ·have hob3n:¬ s1.next=s3.next:=by omega
   have hpne1:¬ p=s1.next:=by omega
   have hpne3:¬ p=s3.next:=by omega
   simp -implicitDefEqProofs only[↓Zd,(Zp),simprocAttr,qP,Value.cells,qC,cld2,(HEx),hpos,hob3,hob3n,hpne1,hpne3,hhb3,hbs,hmp,rowPtr]
   have hle4:∀ c,O4 c→((s3.new (.cells [.int .i64 ((growN H.F H.most (0,[]):Nat):Int),.slice none 0 0] 92 true)).put s1.next (.cells [.iface 88 (.pointer (some ⟨s3.next,0,none⟩)),.int .i64 0,.int .i64 0] 119 true)).at' c=s3.at' c:=fun c hc=>by
    have:=(h3.own c hc).2
    have:c≠s1.next:=fun e=>hfresh s1.next (by omega) (by omega) (e▸hc)
    rw[St.at_put,if_neg this,St.at_new,if_neg (by omega)]
   refine wch_app_ptr (l:=bs) (a:=s1.next) (by omega) (hsl3.same fun q n c e=>hle4 _ (h3.rowO q n c e).1) (fun q m c e=>by have:=hfr3 q m c e;simp only[(Sn)];omega) fun s5 hn5 hb5 hk5=>?_
   simp only[(Sn)]at hn5 hb5 hk5
   have hp5:s5.at' p=some (.cells [.slice an bs.length cn,.pointer (some ⟨pf,0,none⟩),.pointer (some ⟨pn,0,none⟩),.int .i64 (H.maxO:Int),.int .i64 (H.maxP:Int)] 74 true):=by
    rw[hk5 p (by omega) (fun q m c e e2=>(h3.rowO q m c e).2.2 e2.symm),hle4 p hpO4];exact hhb3
   simp -implicitDefEqProofs only[↓Zd,(Zp),simprocAttr,qP,Value.cells,qC,cld2,(HEx),hp5]
   have hk6:∀ c,c<s3.next+1→c≠s1.next→c≠p→(∀ q m k,Value.slice an bs.length cn = .slice (some q) m k→c≠q.block)→c≠s3.next→(s5.put p (.cells [.slice (some ⟨s3.next+1+1,0,none⟩) (bs.length+1) UNK,.pointer (some ⟨pf,0,none⟩),.pointer (some ⟨pn,0,none⟩),.int .i64 (H.maxO:Int),.int .i64 (H.maxP:Int)] 74 true)).at' c=s3.at' c:=fun c h1 h2 h3' h4 h5=>by
    rw[St.at_put,if_neg h3',hk5 c h1 h4,St.at_put,if_neg h2,St.at_new,if_neg h5]
   have hB:ObAt lo (s5.put p (.cells [.slice (some ⟨s3.next+1+1,0,none⟩) (bs.length+1) UNK,.pointer (some ⟨pf,0,none⟩),.pointer (some ⟨pn,0,none⟩),.int .i64 (H.maxO:Int),.int .i64 (H.maxP:Int)] 74 true)) N s1.next { L:=[],shape:=growN H.F H.most (0,[]),proto:=0,epoch:=0 } (fun c=>c=s1.next∨c=s3.next):=by
    refine⟨?_,.inl rfl,Nat.zero_le _,.inr ⟨by show 0<growN H.F H.most (0,[]);omega,s3.next,.slice none 0 0,?_,?_,.inr rfl,by omega,.inl ⟨rfl,rfl,rfl⟩,fun q n c e=>by cases e⟩⟩
    ·rintro c (rfl|rfl)<;>simp only[St.next_put]<;>omega
    ·rw[St.at_put,if_neg (fun e=>hpne1 e.symm),hk5 _ (by omega) (fun q m c e e2=>hfresh s1.next (by omega) (by omega) (by rw[e2];exact (h3.rowO q m c e).1)),St.at_put,if_pos rfl];rfl
    ·rw[St.at_put,if_neg (fun e=>hpne3 e.symm),hk5 _ (by omega) (fun q m c e e2=>by have:=hfr3 q m c e;omega),St.at_put,if_neg (fun e=>hob3n e.symm),St.at_new,if_pos rfl]
   have h6:=h3.addO (r:=s3.next+1+1) (b:=s1.next) (by simp only[St.next_put];omega) (fun c hc hct=>hk6 c (by have:=(h3.own c hc).2;omega) (fun e=>hfresh s1.next (by omega) (by omega) (e▸hc)) (fun e=>hct (by rw[e];exact h3.pin.2)) (fun q m k e e2=>hct (by rw[e2];exact (h3.rowO q m k e).2.1)) (by have:=(h3.own c hc).2;omega)) (by rw[St.at_put,if_pos rfl]) (.inr ⟨s3.next+1+1,[],by simp,by rw[St.at_put,if_neg (by omega),List.append_nil];exact hb5,by rw[ptrs_len,Nat.mul_one]⟩) (fun q n c e=>by cases e;rfl) ⟨fun hc=>by have:=(h3.own _ hc).2;omega,by omega,by simp only[St.next_put];omega⟩ (fun c hc=>by
    rcases hc with rfl|rfl
    ·exact⟨hfresh _ (by omega) (by omega),by omega⟩
    ·exact⟨fun hc=>by have:=(h3.own _ hc).2;omega,by omega⟩) hB hok
   refine hR _ _ ⟨hpr,_,_,_,_,_,h6⟩ ⟨by simp only[St.next_put];omega,fun c hc hno=>?_,fun c hc=>?_⟩
   ·have hno4:¬ O4 c:=fun h4=>by
     rcases hUall.own c h4 with g|g
     ·exact hno g
     ·omega
    have g:=hk6 c (by omega) (by omega) (fun e=>hno4 (e▸hpO4)) (fun q m k e e2=>hno4 (by rw[e2];exact (h3.rowO q m k e).1)) (by omega)
    exact g.trans (hUall.keep c hc hno)
   ·rcases hc with ⟨hc,_⟩|(rfl|rfl)|rfl
    ·exact hUall.own c hc
    ·exact .inr (by omega)
    ·exact .inr (by omega)
    ·exact .inr (by omega)
  ·have hz:growN H.F H.most (0,[])=0:=by omega
   rw[hz]at hok hpr hR
   simp -implicitDefEqProofs only[↓Zd,(Zp),simprocAttr,cld2,(HEx),hpos,hhb3,rowPtr]
   refine wch_app_ptr (l:=bs) (a:=s1.next) (by omega) hsl3 hfr3 fun s5 hn5 hb5 hk5=>?_
   have hp5:s5.at' p=some (.cells [.slice an bs.length cn,.pointer (some ⟨pf,0,none⟩),.pointer (some ⟨pn,0,none⟩),.int .i64 (H.maxO:Int),.int .i64 (H.maxP:Int)] 74 true):=by
    rw[hk5 p (by omega) (fun q m c e e2=>(h3.rowO q m c e).2.2 e2.symm)];exact hhb3
   simp -implicitDefEqProofs only[↓Zd,(Zp),simprocAttr,qP,Value.cells,qC,cld2,(HEx),hp5]
   have hk6:∀ c,c<s3.next→c≠p→(∀ q m k,Value.slice an bs.length cn = .slice (some q) m k→c≠q.block)→(s5.put p (.cells [.slice (some ⟨s3.next+1,0,none⟩) (bs.length+1) UNK,.pointer (some ⟨pf,0,none⟩),.pointer (some ⟨pn,0,none⟩),.int .i64 (H.maxO:Int),.int .i64 (H.maxP:Int)] 74 true)).at' c=s3.at' c:=fun c h1 h3' h4=>by
    rw[St.at_put,if_neg h3',hk5 c h1 h4]
   have hfr6:∀ c,s.next≤c→c<s1.next+1→(s5.put p (.cells [.slice (some ⟨s3.next+1,0,none⟩) (bs.length+1) UNK,.pointer (some ⟨pf,0,none⟩),.pointer (some ⟨pn,0,none⟩),.int .i64 (H.maxO:Int),.int .i64 (H.maxP:Int)] 74 true)).at' c=s3.at' c:=fun c h1 h2=>hk6 c (by omega) (by omega) (fun q m k e e2=>hfresh c h1 h2 (by rw[e2];exact (h3.rowO q m k e).1))
   have hD6:DictAt lo (s5.put p (.cells [.slice (some ⟨s3.next+1,0,none⟩) (bs.length+1) UNK,.pointer (some ⟨pf,0,none⟩),.pointer (some ⟨pn,0,none⟩),.int .i64 (H.maxO:Int),.int .i64 (H.maxP:Int)] 74 true)) pd [] 0 (fun b=>s.next≤b∧b<s1.next):=(hD1.low hlo).same (by simp only[St.next_put];omega) fun c hc=>by
    rw[hfr6 c hc.1 (by omega),hke c hc.1 (by omega),St.at_new,if_neg (by omega)]
   have hB:=ObAt.loose (lo:=lo) (b:=s1.next) (o:={ L:=[],shape:=0,proto:=0,epoch:=0 }) (by rw[hfr6 _ (by omega) (by omega)];exact hob3) rfl hD6 (fun c hc=>by omega) ⟨by omega,by simp only[St.next_put];omega⟩ (Nat.le_refl _)
   have h6:=h3.addO (r:=s3.next+1) (b:=s1.next) (by simp only[St.next_put];omega) (fun c hc hct=>hk6 c (h3.own c hc).2 (fun e=>hct (by rw[e];exact h3.pin.2)) (fun q m k e e2=>hct (by rw[e2];exact (h3.rowO q m k e).2.1))) (by rw[St.at_put,if_pos rfl]) (.inr ⟨s3.next+1,[],by simp,by rw[St.at_put,if_neg (by omega),List.append_nil];exact hb5,by rw[ptrs_len,Nat.mul_one]⟩) (fun q n c e=>by cases e;rfl) ⟨fun hc=>by have:=(h3.own _ hc).2;omega,by omega,by simp only[St.next_put];omega⟩ (fun c hc=>by
    rcases hc with rfl|hc
    ·exact⟨hfresh _ (by omega) (by omega),by omega⟩
    ·exact⟨hfresh _ hc.1 (by omega),by omega⟩) (hB.mono (Nat.zero_le _)) hok
   refine hR _ _ ⟨hpr,_,_,_,_,_,h6⟩ ⟨by simp only[St.next_put];omega,fun c hc hno=>?_,fun c hc=>?_⟩
   ·have hno4:¬ O4 c:=fun h4=>by
     rcases hUall.own c h4 with g|g
     ·exact hno g
     ·omega
    have g:=hk6 c (by omega) (fun e=>hno4 (e▸hpO4)) (fun q m k e e2=>hno4 (by rw[e2];exact (h3.rowO q m k e).1))
    exact g.trans (hUall.keep c hc hno)
   ·rcases hc with ⟨hc,_⟩|(rfl|hc)|rfl
    ·exact hUall.own c hc
    ·exact .inr (by omega)
    ·exact .inr hc.1
    ·exact .inr (by omega)
end
end Go.Proofs.Tryz
namespace Go.Proofs.Tryz
open Go.Cs
open Go.RowKit (Below)
set_option maxRecDepth 100000
attribute [local irreducible] QC WLoop WScope CRound WRange
section
variable {M:Type}[Mem M]{w0:World}{s:St M}{R:Value→St M→Prop}{lo p N:Nat}{H:Hp}{O:Nat→Prop}
set_option maxHeartbeats 8000000 in
theorem hgrow_spec(h:HpAt lo s p H N O)(hlo:lo≤s.next){i to:Int}{y:ByteArray}{k n:Int}(hN:N+3≤1000000)(hi : -9223372036854775808≤i∧i≤9223372036854775807)(hto : -9223372036854775808≤to∧to≤9223372036854775807)
  (hR:∀ s' O',HpAt lo s' p (growH H i to (k,n,y)) (N+3) O'→Upd s s' O O'→R (.int .i64 (growE H i to)) s'):QC Tryz.prog w0 60 #[.pointer (some ⟨p,0,none⟩),.int .i64 i,.int .i64 to,vA k n y] s R:=by
 refine wfun2 hmix ok60 func60 rfl ntmps60 results60 (by simp) ?_
 have hok:=grow_ok h.ok h.fok i to (k,n,y)
 have hpr:=grow_pro h.ok h.fok h.1 i to (k,n,y)
 obtain⟨hpro,tg,pf,pn,sl,bs,h⟩:=h
 have l1:s.le (s.new (.cells [.int .i64 k,.int .i64 n,.string y] 36 true)):=lN (lR _)
 have hbad:∀ e:Int,e≠0→growE H i to=e→R (.int .i64 e) (s.new (.cells [.int .i64 k,.int .i64 n,.string y] 36 true)):=fun e e0 he=>by
  have e1:growH H i to (k,n,y)=H:=by
   unfold growH
   split
   ·rfl
   ·rw[if_neg (by omega)]
  rw[e1,he]at hR
  exact hR _ _ ⟨hpro,tg,pf,pn,sl,bs,(h.le l1).mono (by omega)⟩ (.of_le l1)
 have h1':=h.le l1
 have hhb1:=h1'.bl
 have hhb:=h.bl
 have hpn:=(h.own p h.pin.1).2
 have hpne:¬ p=s.next:=by omega
 simp -implicitDefEqProofs only[↓Zd,(Zp),simprocAttr,qP,Value.cells,(HEx),vA,co48]
 refine hdead_spec h1' ?_
 simp -implicitDefEqProofs only[↓Zd,(Zp),simprocAttr,(HEx),vA,co58]
 refine hfind_spec h1' hi (fun hno=>?_) (fun j b o hij hb ho hat=>?_)
 ·simp -implicitDefEqProofs only[↓Zd,(Zp),simprocAttr,(HEx),vA]
  exact hbad 4 (by omega) (by unfold growE;rw[hno])
 ·have hj:=(List.getElem?_eq_some_iff.1 ho).1
  have hml:o.L.length≤32:=by have:=h.ok.lens j o ho;have:=h.ok.lim;omega
  have hB:=h.obj j b o hb ho
  have hbn:=(hB.own b hB.pin).2
  have hne:¬ b=s.next:=by omega
  have hep:=hB.ep
  have w1:IntKind.i64.wrap ((o.epoch:Int)+1)=((o.epoch+1:Nat):Int):=by rw[wrap_i64 (by omega)];omega
  rcases hB.bl with ⟨h0,pd,OD,g1,g2,g3⟩|⟨h0,ps,sv,g1,g2,g3,g4,g5,g6⟩
  ·simp -implicitDefEqProofs only[↓Zd,(Zp),simprocAttr,cld2,(HEx),vA,g1,hne,ord60]
   exact hbad 2 (by omega) (by unfold growE;rw[hat];simp only[if_pos h0])
  ·have hpsn:=(hB.own ps g3).2
   have hpse:¬ ps=s.next:=by omega
   have hs0:¬ o.shape=0:=by omega
   simp -implicitDefEqProofs only[↓Zd,(Zp),simprocAttr,cld2,(HEx),vA,g1,g2,hhb,hne,hpne,hpse,ord60,co111]
   refine fparent_spec h1'.fo hto ?_
   cases ht:shAt H.F to with
   |none =>
    have hz:¬ (0:Int)=(o.shape:Int):=by omega
    simp -implicitDefEqProofs only[↓Zd,(Zp),simprocAttr,cld2,(HEx),g2,hpse,hz]
    exact hbad 2 (by omega) (by unfold growE;rw[hat];simp only[if_neg hs0,ht];rw[if_pos (by omega)])
   |some t =>
    by_cases hpar:parId H.F t=o.shape
    ·obtain⟨q,x,l,rfl,f1,f2,f3,f4,f5⟩:=grow_fits (n:=0) h.ok h.fo.ok ho h0 ht hpar
     have hpi:((parId H.F (q,x::l):Nat):Int)=(o.shape:Int):=by omega
     have hnm:namesOf H.F to=x::l:=by unfold namesOf;rw[ht]
     obtain⟨an,cn,rfl⟩:∃ a c,sv = .slice a o.L.length c:=by
      rcases g5 with ⟨e1,_,rfl⟩|⟨b2,junk,rfl,_⟩
      ·exact⟨none,0,by rw[e1]⟩
      ·exact⟨_,_,rfl⟩
     simp only[hpi]
     by_cases hmx:(H.maxP:Int)≤(o.L.length:Int)
     ·simp -implicitDefEqProofs only[↓Zd,(Zp),simprocAttr,cld2,(HEx),g2,hhb,hpne,hpse,hmx]
      exact hbad 42 (by omega) (by unfold growE;rw[hat];simp only[if_neg hs0,ht];rw[if_neg (by omega),if_pos (by omega)])
     ·have he:growE H i to=0:=by unfold growE;rw[hat];simp only[if_neg hs0,ht];rw[if_neg (by omega),if_neg (by omega)]
      have e1:growH H i to (k,n,y)=putO H i { L:=o.L ++ [(txt H.T x,k,n,y)],shape:=to.toNat,proto:=o.proto,epoch:=o.epoch+1 }:=by unfold growH;rw[hat];simp only[if_pos he,hnm];rfl
      rw[e1]at hok hpr hR
      rw[he]at hR
      have htn:to=((to.toNat:Nat):Int):=by omega
      have hsl1:SlU 36 3 (s.new (.cells [.int .i64 k,.int .i64 n,.string y] 36 true)) (.slice an o.L.length cn) (valsC o.L) o.L.length:=g5.same fun q n c e=>by
       have:=(hB.own _ (g6 q n c e).1).2
       rw[St.at_new,if_neg (by omega)]
      simp -implicitDefEqProofs only[↓Zd,(Zp),simprocAttr,cut,cld2,(HEx),g2,hhb,hpne,hpse,hmx,rowVal]
      refine wch_app_val (by omega) hsl1 (fun q n c e=>by have:=(hB.own _ (g6 q n c e).1).2;simp only[St.next_new];omega) fun s5 hn5 hb5 hk5=>?_
      simp only[St.next_new]at hn5 hb5 hk5
      have hps5:s5.at' ps=some (.cells [.int .i64 (o.shape:Int),.slice an o.L.length cn] 92 true):=by
       rw[hk5 ps (by omega) (fun q n c e e2=>(g6 q n c e).2.2 e2.symm),St.at_new,if_neg hpse];exact g2
      have hb5':s5.at' b=some (.cells [.iface 88 (.pointer (some ⟨ps,0,none⟩)),.int .i64 (o.proto:Int),.int .i64 (o.epoch:Int)] 119 true):=by
       rw[hk5 b (by omega) (fun q n c e e2=>(g6 q n c e).2.1 e2.symm),St.at_new,if_neg hne];exact g1
      have c75:s5.at' s.next=some (.cells [.int .i64 k,.int .i64 n,.string y] 36 true):=by
       rw[hk5 _ (by omega) (fun q m c e e2=>by have:=(hB.own _ (g6 q m c e).1).2;omega),St.at_new,if_pos rfl]
      have hbps:¬ b=ps:=fun e=>g4 e.symm
      simp -implicitDefEqProofs only[↓Zd,(Zp),simprocAttr,qP,Value.cells,qC,cld2,(HEx),hps5,hb5',hbps,w1]
      rw[htn]
      have hB6:ObAt lo (((s5.put ps (.cells [.int .i64 ((to.toNat:Nat):Int),.slice an o.L.length cn] 92 true)).put ps (.cells [.int .i64 ((to.toNat:Nat):Int),.slice (some ⟨s.next+2,0,none⟩) (o.L.length+1) UNK] 92 true)).put b (.cells [.iface 88 (.pointer (some ⟨ps,0,none⟩)),.int .i64 (o.proto:Int),.int .i64 ((o.epoch+1:Nat):Int)] 119 true)) (N+1) b { L:=o.L ++ [(txt H.T x,k,n,y)],shape:=to.toNat,proto:=o.proto,epoch:=o.epoch+1 } (fun c=>(O c∧tg c=j+3)∨c=s.next+2):=by
       refine⟨fun c hc=>?_,.inl hB.pin,by show o.epoch+1≤_;omega,.inr ⟨by show 0<to.toNat;omega,ps,_,by rw[St.at_put,if_pos rfl],by rw[St.at_put,if_neg g4,St.at_put,if_pos rfl],.inl g3,g4,.inr ⟨s.next+2,[],by simp,?_,valsC_len _⟩,fun q m c e=>?_⟩⟩
       ·rcases hc with hc|rfl
        ·have:=hB.own c hc
         simp only[St.next_put];omega
        ·simp only[St.next_put];omega
       ·rw[St.at_put,if_neg (by omega),St.at_put,if_neg (by omega),St.at_put,if_neg (by omega),hb5,valsC_app,List.append_nil];rfl
       ·cases e
        exact⟨.inr rfl,by show s.next+2≠b;omega,by show s.next+2≠ps;omega⟩
      have hU6:Upd (s.new (.cells [.int .i64 k,.int .i64 n,.string y] 36 true)) (((s5.put ps (.cells [.int .i64 ((to.toNat:Nat):Int),.slice an o.L.length cn] 92 true)).put ps (.cells [.int .i64 ((to.toNat:Nat):Int),.slice (some ⟨s.next+2,0,none⟩) (o.L.length+1) UNK] 92 true)).put b (.cells [.iface 88 (.pointer (some ⟨ps,0,none⟩)),.int .i64 (o.proto:Int),.int .i64 ((o.epoch+1:Nat):Int)] 119 true)) (fun c=>O c∧tg c=j+3) (fun c=>(O c∧tg c=j+3)∨c=s.next+2):=by
       refine⟨by simp only[(Sn)];omega,fun c hc hno=>?_,fun c hc=>?_⟩
       ·have hcp:¬ c=ps:=fun e=>hno (e▸g3)
        have hcb:¬ c=b:=fun e=>hno (e▸hB.pin)
        simp only[St.next_new]at hc
        rw[St.at_put,if_neg hcb,St.at_put,if_neg hcp,St.at_put,if_neg hcp,hk5 c hc (fun q m k e e2=>hno (by rw[e2];exact (g6 q m k e).1))]
       ·rcases hc with hc|rfl
        ·exact .inl hc
        ·exact .inr (by simp only[St.next_new];omega)
      have h6:=(h1'.mono (N':=N+1) (by omega)).setO hij hj hb hU6 hB6 hok
      exact hR _ _ ⟨hpr,_,_,_,_,_,h6.mono (by omega)⟩ ((Upd.of_le l1).trans (re_upd hU6))
    ·have hz:¬ ((parId H.F t:Nat):Int)=(o.shape:Int):=by omega
     simp -implicitDefEqProofs only[↓Zd,(Zp),simprocAttr,cld2,(HEx),g2,hpse,hz]
     exact hbad 2 (by omega) (by unfold growE;rw[hat];simp only[if_neg hs0,ht];rw[if_pos hpar])
theorem FAt.low{lo lo':Nat}{s:St M}{p:Nat}{F:List Sh}{most:Nat}{O:Nat→Prop}(h:FAt lo s p F most O)(hl:lo'≤lo):FAt lo' s p F most O:=
 ⟨fun b hb=>⟨by have:=(h.own b hb).1;omega,(h.own b hb).2⟩,h.pin,h.ok,h.le,h.bl⟩
theorem TabAt.low{lo lo':Nat}{s:St M}{p:Nat}{T:List ByteArray}{O:Nat→Prop}(h:TabAt lo s p T O)(hl:lo'≤lo):TabAt lo' s p T O:=
 ⟨fun b hb=>⟨by have:=(h.own b hb).1;omega,(h.own b hb).2⟩,h.pin,h.bl⟩
theorem tnew_spec(h:∀ s' p,TabAt s.next s' p [] (fun b=>s.next≤b∧b<s'.next)→s.le s'→R (.pointer (some ⟨p,0,none⟩)) s'):QC Tryz.prog w0 30 #[] s R:=by
 refine wfun2 hmix ok30 func30 rfl ntmps30 results30 (by simp) ?_
 have newTab:∀ (m:Nat),cbuild Tryz.prog 174 #[(0,.map (some m))]=some (.agg #[.map (some m),.slice none 0 0]):=fun m=>by kernel_rfl
 simp -implicitDefEqProofs only[↓Zd,(Zp),simprocAttr,qP,Value.cells,is174,newTab]
 refine h _ _ ⟨fun b hb=>hb,by simp,s.next,.slice none 0 0,by simp,by simp;rfl,⟨by omega,by simp only[St.next_new];omega⟩,by simp,.inl ⟨rfl,rfl,rfl⟩,fun q n c e=>by cases e⟩ (by repeat (first|exact lR _|assumption|refine lN ?_|refine lP ?_ (by first|omega|(simp only[(Sn)];omega))|refine lT ?_ (by assumption)))
theorem between_spec{a b:Int}(h:R (.int .i64 (max 0 (min a b))) s):QC Tryz.prog w0 31 #[.int .i64 a,.int .i64 b] s R:=by
 refine wfun2 hmix ok31 func31 rfl ntmps31 results31 (by simp) ?_
 have hmx:(if (if b<a then b else a)>0 then (if b<a then b else a) else 0)=max 0 (min a b):=by omega
 simp -implicitDefEqProofs only[↓Zd,(Zp),simprocAttr,o_min,o_max,bi_min,bi_max,hmx]
 exact h
def newH(objects props shapes:Int):Hp:={ obs:=[],F:=[],T:=[],most:=(max 0 (min shapes 150)).toNat,maxO:=(max 0 (min objects 200)).toNat,maxP:=(max 0 (min props 32)).toNat }
theorem newH_ok(a b c:Int):HOk (newH a b c):=
 ⟨List.nodup_nil,fun i t h=>by simp[newH]at h,fun i o h=>by simp[newH]at h,fun i o h=>by simp[newH]at h,fun i o h=>by simp[newH]at h,⟨fun _=>0,fun i o h=>by simp[newH]at h⟩,⟨by simp[newH];omega,by simp[newH],by simp[newH];omega⟩⟩
theorem newH_pro(a b c:Int):HPro (newH a b c):=fun i o h=>by simp[newH]at h
set_option maxHeartbeats 8000000 in
theorem hnew_spec{a b c d n:Int}(h:∀ s' p,HpAt s.next s' p (newH a c n) 0 (fun b=>s.next≤b∧b<s'.next)→s.le s'→R (.pointer (some ⟨p,0,none⟩)) s'):QC Tryz.prog w0 6 #[.agg #[.int .i64 a,.int .i64 b,.int .i64 c,.int .i64 d],.int .i64 n] s R:=by
 refine wfun2 hmix ok6 func6 rfl ntmps6 results6 (by simp) ?_
 simp -implicitDefEqProofs only[↓Zd,(Zp),simprocAttr,qP,Value.cells,cld2,(HEx),is26,fa26x0,fa26x2,ord6,co29]
 refine fnew_spec fun s1 pf hF1 hs1=>?_
 have hn1:=hs1.1
 simp only[St.next_new]at hn1
 have hbx1:s1.at' s.next=some (.cells [.int .i64 a,.int .i64 b,.int .i64 c,.int .i64 d] 26 true):=by rw[hs1.2 _ (by simp only[St.next_new];omega),St.at_new,if_pos rfl]
 simp -implicitDefEqProofs only[↓Zd,(Zp),simprocAttr,cld2,(HEx),hbx1,co30]
 refine tnew_spec fun s2 pn hT2 hs2=>?_
 have hn2:=hs2.1
 have hbx2:s2.at' s.next=_:=(hs2.2 _ (by omega)).trans hbx1
 have hbH:∀ (u v:Value) (e f:Int),cbuild Tryz.prog 74 #[(1,.pointer (some ⟨pf,0,none⟩)),(2,.pointer (some ⟨pn,0,none⟩)),(3,.int .i64 e),(4,.int .i64 f)]=some (.agg #[.slice none 0 0,.pointer (some ⟨pf,0,none⟩),.pointer (some ⟨pn,0,none⟩),.int .i64 e,.int .i64 f]):=fun u v e f=>by kernel_rfl
 simp -implicitDefEqProofs only[↓Zd,(Zp),simprocAttr,cld2,(HEx),hbx2,co31]
 refine between_spec ?_
 simp -implicitDefEqProofs only[↓Zd,(Zp),simprocAttr,cld2,(HEx),hbx2,co31]
 refine between_spec ?_
 simp -implicitDefEqProofs only[↓Zd,(Zp),simprocAttr,qP,Value.cells,(HEx),hbH .nilFunc .nilFunc]
 have hl:s.le (s2.new (.cells [.slice none 0 0,.pointer (some ⟨pf,0,none⟩),.pointer (some ⟨pn,0,none⟩),.int .i64 (max 0 (min a 200)),.int .i64 (max 0 (min c 32))] 74 true)):=lN (lT (lT (lN (lR _)) hs1) hs2)
 refine h _ _ ⟨newH_pro a c n,(fun c=>if s1.next≤c∧c<s2.next then 2 else if s.next+1≤c∧c<s1.next then 1 else 0),pf,pn,.slice none 0 0,[],⟨fun b hb=>hb,newH_ok a c n,Nat.zero_le _,⟨⟨by omega,by simp only[St.next_new];omega⟩,by rw[if_neg (by omega),if_neg (by omega)]⟩,?_,.inl ⟨rfl,rfl,rfl⟩,(fun q n c e=>by cases e),?_,?_,rfl,fun i b o hb _=>by simp at hb⟩⟩ hl
 ·rw[St.at_new,if_pos rfl]
  have e1:((newH a c n).maxO:Int)=max 0 (min a 200):=by simp only[newH];omega
  have e2:((newH a c n).maxP:Int)=max 0 (min c 32):=by simp only[newH];omega
  rw[e1,e2]
 ·have e:(fun b=>(s.next≤b∧b<(s2.new (.cells [.slice none 0 0,.pointer (some ⟨pf,0,none⟩),.pointer (some ⟨pn,0,none⟩),.int .i64 (max 0 (min a 200)),.int .i64 (max 0 (min c 32))] 74 true)).next)∧(if s1.next≤b∧b<s2.next then 2 else if s.next+1≤b∧b<s1.next then 1 else 0)=1)=fun b=>s.next+1≤b∧b<s1.next:=by
   funext b
   apply propext
   simp only[St.next_new]
   split
   ·omega
   ·split<;>omega
  rw[e]
  simp only[St.next_new]at hF1
  refine (hF1.low (by omega)).same (by simp only[St.next_new];omega) fun c hc=>?_
  rw[St.at_new,if_neg (by omega),hs2.2 c (by omega)]
 ·have e:(fun b=>(s.next≤b∧b<(s2.new (.cells [.slice none 0 0,.pointer (some ⟨pf,0,none⟩),.pointer (some ⟨pn,0,none⟩),.int .i64 (max 0 (min a 200)),.int .i64 (max 0 (min c 32))] 74 true)).next)∧(if s1.next≤b∧b<s2.next then 2 else if s.next+1≤b∧b<s1.next then 1 else 0)=2)=fun b=>s1.next≤b∧b<s2.next:=by
   funext b
   apply propext
   simp only[St.next_new]
   split
   ·omega
   ·split<;>omega
  rw[e]
  refine (hT2.low (by omega)).same (by simp only[St.next_new];omega) fun c hc=>?_
  rw[St.at_new,if_neg (by omega)]
end
end Go.Proofs.Tryz
namespace Go.Proofs.Tryz
open Go.Cs
open Go.RowKit (Below)
set_option maxRecDepth 100000
attribute [local irreducible] QC WLoop WScope CRound WRange
def PSz(B:Nat)(p:ByteArray×V3):Prop:=p.1.size≤B∧p.2.2.2.size≤B ∧ -9223372036854775808≤p.2.2.1∧p.2.2.1≤9223372036854775807
def HSz(B:Nat)(H:Hp):Prop:=∀ (i:Nat) (o:Ob),H.obs[i]?=some o→∀ p∈o.L,PSz B p
section
variable {M:Type}[Mem M]{w0:World}{s:St M}{R:Value→St M→Prop}{lo p N:Nat}{H:Hp}{O:Nat→Prop}
theorem BAt.go{s0 s s':St M}{p:Nat}{l:List UInt8}(h:BAt s0 s p l)(hs:s.le s'):BAt s0 s' p l:=by
 obtain⟨h1,h2,h3,ad,sl,h4,h5,h6⟩:=h
 have:=hs.1
 refine⟨lT h1 hs,h2,by omega,ad,sl,(hs.2 p h3).trans h4,h5,?_⟩
 rcases h6 with h6|⟨g1,b,g2,g3,g4,g5,g6⟩
 ·exact .inl h6
 ·exact .inr ⟨g1,b,g2,(hs.2 b g6).trans g3,g4,g5,by omega⟩
theorem Fix.sub{W W':List Nat}{a b:Env}(h:Fix W a b)(hs:∀ t,W'.contains t=false→W.contains t=false):Fix W' a b:=fun t ht=>h t (hs t ht)
end
end Go.Proofs.Tryz
end
section
set_option maxRecDepth 100000
namespace Go.Proofs.Tryz
open Go.Cs Go.ChangeShapes Go.WideShapes Go.ChangeAt Go.RowKit
abbrev QMem:=Nat→Option Blk
def qSt(L:List (TypeId×List Value)):St QMem:=⟨fun j=>(L[j]?).map fun r => .cells r.2 r.1 false,L.length⟩
def qRen(B:List (Option BI)):Ren:=fun j=>(B[j]?).join
def QIn(ρ:Ren)(w:World)(oi:Option BI)(r:List Value):Prop:=
 ∀ i,oi=some i→i.esz=0∧i.kd=0∧∃ cs e' fr,w.heap[i.blk]?=some (.cells cs e' fr)∧i.sh+r.length≤cs.size∧∀ k,k<r.length→VRel ρ (r.getD k Go.undef) (cs.getD (i.sh+k) Go.undef)
theorem q_at(L:List (TypeId×List Value))(b:Nat):(qSt L).at' b=(L[b]?).map fun r=>Blk.cells r.2 r.1 false:=rfl
theorem rel_q{w:World}{L:List (TypeId×List Value)}{B:List (Option BI)}(hn:B.length=L.length)(h:∀ (j:Nat) (oi:Option BI) (r:TypeId×List Value),B[j]?=some oi→L[j]?=some r→QIn (qRen B) w oi r.2):Rel prog w (qRen B) (qSt L) w:=by
 have hget:∀ b i,qRen B b=some i→b<L.length∧B[b]?=some (some i):=by
  intro b i hb
  unfold qRen at hb
  cases hc:B[b]? with
  |none=>rw[hc]at hb;cases hb
  |some o =>
   rw[hc]at hb
   have:=(List.getElem?_eq_some_iff.1 hc).1
   exact⟨by omega,by cases hb;rfl⟩
 have hq:∀ b i,qRen B b=some i→∃ r,L[b]?=some r∧QIn (qRen B) w (some i) r.2:=by
  intro b i hb
  obtain⟨h1,h2⟩:=hget b i hb
  exact⟨L[b],by simp[h1],h b _ L[b] h2 (by simp[h1])⟩
 have hown:∀ b B',(qSt L).at' b=some B'→B'.owned=false:=by
  intro b B' hb
  rw[q_at]at hb
  obtain⟨ss,_,rfl⟩:=Option.map_eq_some_iff.1 hb
  rfl
 refine⟨fun b i hb=>(hget b i hb).1,fun b i hb=>?_,fun b i B' hb hs=>?_,fun b i B' hb hs ho=>?_,fun b i B' b2 i2 B2 hb hs _ _ _ ho=>?_,Below.refl _ _,fun b hb=>?_,fun b i hb hk=>?_,fun b i hb hk=>?_⟩
 ·obtain⟨r,_,h2⟩:=hq b i hb
  obtain⟨_,_,cs,e',fr,h3,_⟩:=h2 i rfl
  exact (Array.getElem?_eq_some_iff.1 h3).1
 ·obtain⟨r,h1,h2⟩:=hq b i hb
  rw[q_at,h1]at hs
  cases hs
  obtain⟨hz,_,cs,e',fr,h3,h4,h5⟩:=h2 i rfl
  exact⟨_,h3,cs,e',fr,rfl,h4,h5,.inl hz,fun e=>by cases e⟩
 ·rw[hown b B' hs]at ho;cases ho
 ·rw[hown b B' hs]at ho;cases ho
 ·rw[q_at,List.getElem?_eq_none (show L.length≤b from hb)];rfl
 ·obtain⟨r,_,h2⟩:=hq b i hb
  rw[(h2 i rfl).2.1]at hk;cases hk
 ·obtain⟨r,_,h2⟩:=hq b i hb
  rw[(h2 i rfl).2.1]at hk;cases hk
theorem calls_q{f:FuncId}{args args':Array Value}{w:World}{L:List (TypeId×List Value)}{B:List (Option BI)}(hn:B.length=L.length)(hr:∀ (j:Nat) (oi:Option BI) (r:TypeId×List Value),B[j]?=some oi→L[j]?=some r→QIn (qRen B) w oi r.2)
  (hv:VsRel (qRen B) args args')(h:QC (M:=QMem) prog w f args (qSt L) fun v _=>v = .bool true) :
  Calls prog f args' w fun e w'=>e = .returned (.bool true)∧Below w.heap.size w w':=by
 refine (h _ w args' (rel_q hn hr) hv).mono ?_
 rintro e w' ⟨v,s',ρ',v',rfl,rfl,hv,hR,_⟩
 exact⟨by rw[hv.bool_inv],hR.below⟩
theorem open_rows{α H:Type}{enc:TypeId×Value→H}{W:World}{r:Reach}{b0 c:Nat}{t e:TypeId}{v:Value}{d:DataW H}{ps:List MemPlace}(cellsA:α→List Value)(good:α→Prop)(hu:prog.underlying t=some (.slice e))(hc:prog.cellsOf e=c)(hlen:∀ a,(cellsA a).length=c)
  (hpl:∀ a,∀ x∈cellsA a,plain 6 x=true)(hc0:0<c)(hel:∀ (n:Nat) (cs:List Value) y,DataW.trod enc prog W 0 (fun _=>true) true n e cs=some y→∃ a,cs=cellsA a∧good a)
  (hval:Value.okWide prog W r b0 t v)(hd:DataW.Trod enc prog W 0 (fun _=>true) true t v d ps) :
  ∃ (A us:List α) (cp:Nat) (oi:Option BI) (ad:Nat→Option Addr),(∀ ρ,QIn ρ W oi (us.flatMap cellsA))∧(∀ (ρ:Ren) j,ρ j=oi→VRel ρ (.slice (ad j) A.length cp) v)∧(∀ a∈A,good a)∧(A=[]∨(ad=fun j=>some ⟨j,0,none⟩)∧∀ k,k<A.length→us[k]?=A[k]?)∧A.length≤9223372036854775807:=by
 have hmx:maxLen=9223372036854775807:=by decide
 obtain⟨a0,len,cap,rfl⟩:=okWide_slice hu hval
 obtain⟨fuel,hf⟩:=hd
 rcases DataW.trod_slice hu hf with ⟨hcs,hx⟩|⟨a,len',cap',elems,rest,n,_,hcs,hx,hb,hl,hm,hlen',hel',hsp,hns⟩
 ·have hcs:[Value.slice a0 len cap]=[.slice none 0 0]:=hcs
  simp only[List.cons.injEq,Value.slice.injEq,and_true]at hcs
  obtain⟨rfl,rfl,rfl⟩:=hcs
  exact⟨[],[],0,none,fun _=>none,(by intro ρ i hi;cases hi),(fun ρ j _ => .nilSlice),(by simp),.inl rfl,Nat.zero_le _⟩
 ·have hcs:[Value.slice a0 len cap]=[.slice (some a) len' cap']:=hcs
  simp only[List.cons.injEq,Value.slice.injEq,and_true]at hcs
  obtain⟨rfl,rfl,rfl⟩:=hcs
  obtain⟨hrl,hr⟩:=hsp rfl
  have hU:cap<UNK:=by unfold UNK;have:maxLen=9223372036854775807:=by decide
                      omega
  have hspot:a.spot=none∧∃ row cells,W.shape? a.block=some (row,cells):=by
   simp only[Value.okWide,hu,Cell.okWide]at hval
   simp only[Cell.ok,hu]at hval
   obtain⟨_,_,_,h1,row,cells,h2,_⟩:=hval
   exact⟨h1,row,cells,h2⟩
  obtain⟨hs1,row,cells,hs2⟩:=hspot
  have hblk:∃ cs e' fr,W.heap[a.block]?=some (.cells cs e' fr):=by
   unfold World.shape? at hs2
   split at hs2
   ·rename_i c el fr hh;exact⟨c,el,fr,hh⟩
   ·cases hs2
  obtain⟨cs,e',fr,hh⟩:=hblk
  have ha:a=⟨a.block,a.off,none⟩:=by cases a;simp at hs1;simp[hs1]
  have hadd:∀ i,a.add i=⟨a.block,a.off+i,none⟩:=by
   intro i
   unfold Addr.add
   split
   ·subst_vars;exact ha
   ·rfl
  have hadd2:∀ i k,(a.add i).add k=⟨a.block,a.off+i+k,none⟩:=by
   intro i k
   rw[hadd]
   unfold Addr.add
   split
   ·subst_vars;simp
   ·rfl
  have each:∀ i,i<cap→∃ x,good x∧∀ k,k<c→cs[a.off+i*c+k]?=(cellsA x)[k]?:=by
   intro i hi
   have hb':∃ y,(W.cells? 0 (a.add (i*c)) c).bind (DataW.trod enc prog W 0 (fun _=>true) true n e)=some y:=by
    by_cases h1:i<len
    ·have:=hel' i h1
     rw[hc]at this
     exact⟨elems[i]'(by omega),by rw[this];simp[hlen',h1]⟩
    ·have:=hr (i - len) (by omega)
     rw[hc,show len+(i - len)=i by omega]at this
     exact⟨rest[i - len]'(by omega),by rw[this];simp⟩
   obtain⟨y,hy⟩:=hb'
   obtain⟨cs',hcs',hy'⟩:=Option.bind_eq_some_iff.1 hy
   obtain⟨x,rfl,hg⟩:=hel n cs' y hy'
   obtain⟨_,_,hcell⟩:=World.cells?_some hcs'
   refine⟨x,hg,fun k hk=>?_⟩
   have:=hcell k hk
   rw[hadd2]at this
   unfold World.cell? at this
   simp only[hh,Option.isSome_none,Bool.false_eq_true,if_false]at this
   exact this
  have hall:∃ us:List α,us.length=cap∧∀ i x,us[i]?=some x→good x∧∀ k,k<c→cs[a.off+i*c+k]?=(cellsA x)[k]?:=by
   clear hcs hrl hr hel' hval hf hx hb hl hm hlen' hsp hns hU
   induction cap with
   |zero=>exact⟨[],rfl,fun i x h=>by simp at h⟩
   |succ m ih =>
    obtain⟨us,h1,h2⟩:=ih (fun i hi=>each i (by omega))
    obtain⟨x,h3⟩:=each m (by omega)
    refine⟨us ++ [x],by simp[h1],fun i y hy=>?_⟩
    by_cases hi:i<us.length
    ·rw[List.getElem?_append_left hi]at hy;exact h2 i y hy
    ·rw[List.getElem?_append_right (by omega)]at hy
     have h0:i - us.length=0:=by
      have:=(List.getElem?_eq_some_iff.1 hy).1
      simp at this;omega
     rw[h0]at hy
     simp at hy
     subst hy
     have:i=m:=by omega
     subst this;exact h3
  obtain⟨us,hal,has⟩:=hall
  have hfl:∀ (l:List α),(l.flatMap cellsA).length=l.length*c:=by
   intro l
   induction l with
   |nil=>simp
   |cons x l ih=>rw[List.flatMap_cons,List.length_append,ih,hlen,List.length_cons,Nat.succ_mul];omega
  have hget:∀ (l:List α) (i k:Nat) (x:α),l[i]?=some x→k<c→(l.flatMap cellsA)[i*c+k]?=(cellsA x)[k]?:=by
   intro l
   induction l with
   |nil=>intro i k x h;simp at h
   |cons y l ih =>
    intro i k x h hk
    rw[List.flatMap_cons]
    cases i with
    |zero =>
     simp at h;subst h
     rw[Nat.zero_mul,Nat.zero_add,List.getElem?_append_left (by rw[hlen];exact hk)]
    |succ i =>
     have:c≤(i+1)*c+k:=by rw[Nat.succ_mul];omega
     rw[List.getElem?_append_right (by rw[hlen];exact this),hlen,show (i+1)*c+k - c=i*c+k by rw[Nat.succ_mul];omega]
     exact ih i k x (by simpa using h) hk
  by_cases h0:cap=0
  ·have hl0:len=0:=by omega
   subst hl0
   refine⟨[],[],cap,some ⟨a.block,0,0,0,0⟩,fun j=>some ⟨j,a.off,none⟩,?_,?_,(by simp),.inl rfl,Nat.zero_le _⟩
   ·rintro ρ i ⟨⟩
    exact⟨rfl,rfl,cs,e',fr,hh,by simp,fun k hk=>by simp at hk⟩
   ·intro ρ j hj
    exact .slice ⟨_,hj,rfl,ha⟩ (.inl ⟨rfl,hU⟩)
  ·refine⟨us.take len,us,cap,some ⟨a.block,a.off,0,0,0⟩,fun j=>some ⟨j,0,none⟩,?_,?_,?_,.inr ⟨rfl,?_⟩,by simp;omega⟩
   ·rintro ρ i ⟨⟩
    have hlast:cap - 1<cap:=by omega
    have hsz:a.off+cap*c≤cs.size:=by
     have h1:us[cap - 1]?=some (us[cap - 1]'(by omega)):=List.getElem?_eq_getElem _
     have h2:=(has _ _ h1).2 (c - 1) (by omega)
     rw[List.getElem?_eq_getElem (by rw[hlen];omega)]at h2
     have:=(Array.getElem?_eq_some_iff.1 h2).1
     have e:cap*c=(cap - 1)*c+c:=by
      conv=>lhs;rw[show cap=(cap - 1)+1 by omega,Nat.succ_mul]
     omega
    refine⟨rfl,rfl,cs,e',fr,hh,by rw[hfl,hal];exact hsz,fun k hk=>?_⟩
    rw[hfl,hal]at hk
    have hi:k / c<cap:=by rw[Nat.div_lt_iff_lt_mul hc0];exact hk
    have hk2:k % c<c:=Nat.mod_lt _ hc0
    have e:k / c*c+k % c=k:=Nat.div_add_mod' k c
    have h1:us[k / c]?=some (us[k / c]'(by omega)):=List.getElem?_eq_getElem _
    have h2:=(has _ _ h1).2 (k % c) hk2
    have h3:=hget us _ _ _ h1 hk2
    have hlt:k % c<(cellsA (us[k / c]'(by omega))).length:=by rw[hlen];exact hk2
    rw[List.getElem?_eq_getElem hlt]at h2 h3
    show VRel ρ _ (cs.getD (a.off+k) Go.undef)
    rw[show a.off+k / c*c+k % c=a.off+k by omega]at h2
    rw[e]at h3
    rw[Array.getD_eq_getD_getElem?,h2,List.getD_eq_getElem?_getD,h3]
    exact VRel.of_plain 6 (hpl _ _ (List.getElem_mem _))
   ·intro ρ j hj
    have:(us.take len).length=len:=by simp;omega
    rw[this]
    exact .slice ⟨_,hj,rfl,by show a=⟨a.block,0+a.off,none⟩;rw[Nat.zero_add];exact ha⟩ (.inl ⟨rfl,hU⟩)
   ·intro x hx
    obtain⟨i,hi⟩:=List.getElem?_of_mem (List.mem_of_mem_take hx)
    exact (has i x hi).1
   ·intro k hk
    simp only[List.length_take]at hk
    rw[List.getElem?_take,if_pos (by omega)]
def QRow{α M:Type}[Mem M](e:TypeId)(cellsA:α→List Value)(s:St M)(a:Option Addr)(A:List α):Prop:=
 A=[]∨∃ (j:Nat) (us:List α),a=some ⟨j,0,none⟩∧j<s.next∧s.at' j=some (.cells (us.flatMap cellsA) e false)∧∀ k,k<A.length→us[k]?=A[k]?
end Go.Proofs.Tryz
end
section
set_option maxRecDepth 100000
namespace Go.Proofs.Tryz
open Go.Cs Go.ChangeShapes Go.WideShapes Go.ChangeAt Go.RowKit Go.ChangeMaps
section
variable {H:Type}{enc:TypeId×Value→H}{w:World}{base:Nat}{sp:Nat→Bool}{held:Bool}
theorem open_value_c{m:Nat}{c0 c1 c2:Value}{y:DataW H×List MemPlace}(h:DataW.trod enc prog w base sp held m 36 [c0,c1,c2]=some y) :
  ∃ (k n:Int) (x:ByteArray),c0 = .int .i64 k∧c1 = .int .i64 n∧c2 = .string x∧y=(.agg [.lit (.int .i64 k),.lit (.int .i64 n),.lit (.string x.data.toList)],[])∧(Lit.int .i64 k).wf=true∧(Lit.int .i64 n).wf=true∧x.size≤maxLen:=by
 obtain⟨d,ps⟩:=y
 obtain⟨xs,m,_,hx,hl,hlen,hp⟩:=DataW.trod_struct underlying36 h
 have h0:DataW.trod enc prog w base sp held m 3 (List.take (prog.cellsOf 3) (List.drop 0 [c0,c1,c2]))=xs[0]?:=hp 0 _ rfl
 have h1:DataW.trod enc prog w base sp held m 3 (List.take (prog.cellsOf 3) (List.drop 1 [c0,c1,c2]))=xs[1]?:=hp 1 _ rfl
 have h2:DataW.trod enc prog w base sp held m 9 (List.take (prog.cellsOf 9) (List.drop 2 [c0,c1,c2]))=xs[2]?:=hp 2 _ rfl
 have hlen:xs.length=3:=hlen
 rw[ce3]at h0 h1
 rw[ce9]at h2
 match xs,hlen with
 | [y0,y1,y2],_ =>
  simp only[List.drop_zero,List.drop_succ_cons,List.take_succ_cons,List.take_zero,List.getElem?_cons_zero,List.getElem?_cons_succ]at h0 h1 h2
  obtain⟨k,e0,rfl,w0⟩:=DataW.trod_int underlying3 h0
  obtain⟨n,e1,rfl,w1⟩:=DataW.trod_int underlying3 h1
  obtain⟨x,e2,rfl,w2⟩:=DataW.trod_string underlying9 h2
  simp only[List.cons.injEq,and_true]at e0 e1 e2
  subst e0 e1 e2
  simp only[List.map_cons,List.map_nil,List.flatMap_cons,List.flatMap_nil,List.append_nil,Prod.mk.injEq]at hx
  exact⟨k,n,x,rfl,rfl,rfl,by rw[hx.1,hx.2],w0,w1,w2⟩
end
end Go.Proofs.Tryz
end
namespace Go.Proofs.Tryz
open Go.Cs
open Go.RowKit (Below)
set_option maxRecDepth 100000
attribute [local irreducible] QC WLoop WScope CRound WRange
set_option maxHeartbeats 32000000
variable {M:Type}[Mem M]{w0:World}{s:St M}{R:Value→St M→Prop}
structure Sim(H G:Hp):Prop where
 len:H.obs.length=G.obs.length
 obs:∀ (i:Nat) (a b:Ob),H.obs[i]?=some a→G.obs[i]?=some b→a.L=b.L∧a.proto=b.proto∧a.epoch=b.epoch
 mo:H.maxO=G.maxO
 mp:H.maxP=G.maxP
theorem Sim.so{H G:Hp}(h:Sim H G){i:Int}{a:Ob}(ha:obAt H i=some a):∃ b,obAt G i=some b∧a.L=b.L∧a.proto=b.proto∧a.epoch=b.epoch:=by
 obtain⟨j,rfl,hj,hoj⟩:=obAt_some ha
 have hb:G.obs[j]?=some (G.obs[j]'(by have:=h.len;omega)):=List.getElem?_eq_getElem _
 exact⟨_,by rw[obAt_get];exact hb,h.obs j a _ hoj hb⟩
theorem Sim.no{H G:Hp}(h:Sim H G){i:Int}(ha:obAt H i=none):obAt G i=none:=by
 rw[obAt_none]at ha ⊢
 rw[← h.len];exact ha
theorem Sim.proto{H G:Hp}(h:Sim H G)(i:Int):protoV H i=protoV G i:=by
 unfold protoV
 cases ha:obAt H i with
 |none=>rw[h.no ha]
 |some a=>obtain⟨b,hb,_,h2,_⟩:=h.so ha;rw[hb];simp only;rw[h2]
theorem Sim.epoch{H G:Hp}(h:Sim H G)(i:Int):epochV H i=epochV G i:=by
 unfold epochV
 cases ha:obAt H i with
 |none=>rw[h.no ha]
 |some a=>obtain⟨b,hb,_,_,h2⟩:=h.so ha;rw[hb];simp only;rw[h2]
theorem Sim.get{H G:Hp}(h:Sim H G){x:ByteArray}{i:Int}{v:V3}(hg:GetR H x i v):GetR G x i v:=by
 induction hg with
 |none ha=>exact .none (h.no ha)
 |own ha hv=>obtain⟨b,hb,h1,_⟩:=h.so ha;exact .own hb (by rw[← h1];exact hv)
 |up ha hv _ ih=>obtain⟨b,hb,h1,h2,_⟩:=h.so ha;exact .up hb (by rw[← h1];exact hv) (by rw[← h2];exact ih)
theorem Sim.symm{H G:Hp}(h:Sim H G):Sim G H:=
 ⟨h.len.symm,fun i a b ha hb=>by obtain⟨h1,h2,h3⟩:=h.obs i b a hb ha;exact⟨h1.symm,h2.symm,h3.symm⟩,h.mo.symm,h.mp.symm⟩
theorem Sim.on{H G:Hp}(h:Sim H G){o p:Int}{b:Bool}(hr:OnR H o p b):OnR G o p b:=by
 induction hr with
 |here=>exact .here
 |zero h0=>exact .zero h0
 |up h0 h1 _ ih=>rw[h.proto]at ih;exact .up h0 h1 ih
theorem Sim.onB{H G:Hp}(h:Sim H G)(o p:Int):onB H o p=onB G o p:=by
 unfold Tryz.onB
 by_cases h1:OnR H o p true
 ·rw[if_pos h1,if_pos (h.on h1)]
 ·rw[if_neg h1,if_neg (fun h2=>h1 (h.symm.on h2))]
theorem Sim.put{H G:Hp}(h:Sim H G){H' G':Hp}{i:Int}{a b:Ob}(hH:H'.obs=H.obs∧H'.maxO=H.maxO∧H'.maxP=H.maxP)(hG:G'.obs=G.obs∧G'.maxO=G.maxO∧G'.maxP=G.maxP)(hab:a.L=b.L∧a.proto=b.proto∧a.epoch=b.epoch):Sim (putO H' i a) (putO G' i b):=by
 refine⟨by simp only[putO,List.length_set,hH.1,hG.1];exact h.len,fun j u w hu hw=>?_,by simp only[putO,hH.2.1,hG.2.1];exact h.mo,by simp only[putO,hH.2.2,hG.2.2];exact h.mp⟩
 simp only[putO,hH.1,hG.1,List.getElem?_set]at hu hw
 by_cases e:i.toNat - 1=j
 ·simp only[e,if_true]at hu hw
  split at hu
  ·split at hw
   ·cases hu;cases hw;exact hab
   ·cases hw
  ·cases hu
 ·simp only[e,if_false]at hu hw
  exact h.obs j u w hu hw
theorem same3(H:Hp):H.obs=H.obs∧H.maxO=H.maxO∧H.maxP=H.maxP:=⟨rfl,rfl,rfl⟩
theorem next3(H:Hp)(k:Int)(x:ByteArray):(nextH H k x).obs=H.obs∧(nextH H k x).maxO=H.maxO∧(nextH H k x).maxP=H.maxP:=by
 have:=next_obs H k x
 exact⟨this.1,this.2.2.2,this.2.1⟩
theorem Sim.setE{H G:Hp}(h:Sim H G)(i:Int)(x:ByteArray):setE H i x=setE G i x:=by
 unfold Tryz.setE
 cases ha:obAt H i with
 |none=>rw[h.no ha]
 |some a=>obtain⟨b,hb,h1,_⟩:=h.so ha;rw[hb];simp only;rw[h1,h.mp]
theorem Sim.set{H G:Hp}(h:Sim H G)(i:Int)(x:ByteArray)(v:V3):Sim (setH H i x v) (setH G i x v):=by
 unfold setH
 cases ha:obAt H i with
 |none=>rw[h.no ha];exact h
 |some a =>
  obtain⟨b,hb,h1,h2,h3⟩:=h.so ha
  rw[hb]
  simp only
  rw[h1,h.mp]
  split
  ·exact h.put (same3 H) (same3 G) ⟨by simp only[],h2,h3⟩
  ·split
   ·exact h
   ·split<;>split
    ·exact h.put (same3 H) (same3 G) ⟨rfl,h2,by simp only[h3]⟩
    ·exact h.put (same3 H) (next3 G _ _) ⟨rfl,h2,by simp only[h3]⟩
    ·exact h.put (next3 H _ _) (same3 G) ⟨rfl,h2,by simp only[h3]⟩
    ·exact h.put (next3 H _ _) (next3 G _ _) ⟨rfl,h2,by simp only[h3]⟩
theorem Sim.delB{H G:Hp}(h:Sim H G)(i:Int)(x:ByteArray):delB H i x=delB G i x:=by
 unfold Tryz.delB
 cases ha:obAt H i with
 |none=>rw[h.no ha]
 |some a=>obtain⟨b,hb,h1,_⟩:=h.so ha;rw[hb];simp only[Option.bind_some];rw[h1]
theorem Sim.del{H G:Hp}(h:Sim H G)(i:Int)(x:ByteArray):Sim (delH H i x) (delH G i x):=by
 unfold delH
 cases ha:obAt H i with
 |none=>rw[h.no ha];exact h
 |some a =>
  obtain⟨b,hb,h1,h2,h3⟩:=h.so ha
  rw[hb]
  simp only
  rw[h1]
  split
  ·exact h.put (same3 H) (same3 G) ⟨rfl,h2,by simp only[h3]⟩
  ·exact h
theorem Sim.protoE{H G:Hp}(h:Sim H G)(i q:Int):protoE H i q=protoE G i q:=by
 have hn:∀ k,obAt H k=none↔obAt G k=none:=fun k=>⟨h.no,h.symm.no⟩
 unfold Tryz.protoE
 rw[h.onB]
 have e:(obAt H i=none∨(q≠0∧obAt H q=none))=(obAt G i=none∨(q≠0∧obAt G q=none)):=by rw[propext (hn i),propext (hn q)]
 by_cases h1:obAt H i=none∨(q≠0∧obAt H q=none)
 ·rw[if_pos h1];exact (if_pos (e▸h1)).symm
 ·rw[if_neg h1];exact (if_neg (e▸h1)).symm
theorem Sim.protoH{H G:Hp}(h:Sim H G)(i q:Int):Sim (protoH H i q) (protoH G i q):=by
 unfold Tryz.protoH
 rw[h.protoE]
 split
 ·cases ha:obAt H i with
  |none=>rw[h.no ha];exact h
  |some a =>
   obtain⟨b,hb,h1,h2,h3⟩:=h.so ha
   rw[hb]
   simp only
   split<;>split
   ·exact h.put (same3 H) (same3 G) ⟨h1,rfl,by simp only[h3]⟩
   ·exact h.put (G':={ G with F:=moveF G.F G.most b.shape q.toNat }) (same3 H) ⟨rfl,rfl,rfl⟩ ⟨h1,rfl,by simp only[h3]⟩
   ·exact h.put (H':={ H with F:=moveF H.F H.most a.shape q.toNat }) ⟨rfl,rfl,rfl⟩ (same3 G) ⟨h1,rfl,by simp only[h3]⟩
   ·exact h.put (H':={ H with F:=moveF H.F H.most a.shape q.toNat }) (G':={ G with F:=moveF G.F G.most b.shape q.toNat }) ⟨rfl,rfl,rfl⟩ ⟨rfl,rfl,rfl⟩ ⟨h1,rfl,by simp only[h3]⟩
 ·exact h
theorem Sim.makeV{H G:Hp}(h:Sim H G):makeV H=makeV G:=by
 unfold Tryz.makeV
 rw[h.mo,h.len]
theorem Sim.new(a c n m:Int):Sim (newH a c n) (newH a c m):=⟨rfl,fun i a b h=>by simp[newH]at h,rfl,rfl⟩
theorem HSz.put{B:Nat}{H H':Hp}(h:HSz B H)(hH:H'.obs=H.obs){i:Int}{a:Ob}(ha:∀ p∈a.L,PSz B p):HSz B (putO H' i a):=by
 intro j u hu
 simp only[putO,hH,List.getElem?_set]at hu
 split at hu
 ·split at hu
  ·cases hu;exact ha
  ·cases hu
 ·exact h j u hu
theorem HSz.mono{B C:Nat}{H:Hp}(h:HSz B H)(hBC:B≤C):HSz C H:=fun i o ho p hp=>by
 obtain⟨h1,h2,h3⟩:=h i o ho p hp
 exact⟨by omega,by omega,h3⟩
theorem setP_mem:∀ {L:List (ByteArray×V3)}{x:ByteArray}{v:V3}{p:ByteArray×V3},p∈setP L x v→p∈L∨p=(x,v):=by
 intro L
 induction L with
 |nil=>intro x v p h;simp only[setP,List.mem_cons,List.not_mem_nil,or_false]at h;exact .inr h
 |cons q L ih =>
  intro x v p h
  obtain⟨y,w⟩:=q
  unfold setP at h
  split at h
  ·rcases List.mem_cons.1 h with h|h
   ·exact .inr h
   ·exact .inl (List.mem_cons_of_mem _ h)
  ·rcases List.mem_cons.1 h with h|h
   ·exact .inl (by rw[h];exact List.mem_cons_self)
   ·rcases ih h with h|h
    ·exact .inl (List.mem_cons_of_mem _ h)
    ·exact .inr h
theorem delP_mem:∀ {L:List (ByteArray×V3)}{x:ByteArray}{p:ByteArray×V3},p∈delP L x→p∈L:=by
 intro L
 induction L with
 |nil=>intro x p h;cases h
 |cons q L ih =>
  intro x p h
  obtain⟨y,w⟩:=q
  unfold delP at h
  split at h
  ·exact List.mem_cons_of_mem _ h
  ·rcases List.mem_cons.1 h with h|h
   ·rw[h];exact List.mem_cons_self
   ·exact List.mem_cons_of_mem _ (ih h)
theorem HSz.at{B:Nat}{H:Hp}(h:HSz B H){i:Int}{a:Ob}(ha:obAt H i=some a):∀ p∈a.L,PSz B p:=by
 obtain⟨j,rfl,hj,hoj⟩:=obAt_some ha
 exact h j a hoj
theorem HSz.set{B:Nat}{H:Hp}(h:HSz B H)(i:Int){x:ByteArray}{v:V3}(hx:PSz B (x,v)):HSz B (setH H i x v):=by
 unfold setH
 cases ha:obAt H i with
 |none=>exact h
 |some a =>
  have hs:∀ p∈setP a.L x v,PSz B p:=fun p hp=>by
   rcases setP_mem hp with hp|rfl
   ·exact h.at ha p hp
   ·exact hx
  simp only
  split
  ·exact h.put rfl hs
  ·split
   ·exact h
   ·split
    ·exact h.put rfl hs
    ·exact h.put (next_obs _ _ _).1 hs
theorem HSz.del{B:Nat}{H:Hp}(h:HSz B H)(i:Int)(x:ByteArray):HSz B (delH H i x):=by
 unfold delH
 cases ha:obAt H i with
 |none=>exact h
 |some a =>
  simp only
  split
  ·exact h.put rfl fun p hp=>h.at ha p (delP_mem hp)
  ·exact h
theorem HSz.protoH{B:Nat}{H:Hp}(h:HSz B H)(i q:Int):HSz B (protoH H i q):=by
 unfold Tryz.protoH
 split
 ·cases ha:obAt H i with
  |none=>exact h
  |some a =>
   simp only
   split
   ·exact h.put rfl fun p hp=>h.at ha p hp
   ·exact h.put (H':={ H with F:=moveF H.F H.most a.shape q.toNat }) rfl fun p hp=>h.at ha p hp
 ·exact h
theorem HSz.new(B:Nat)(a c n:Int):HSz B (newH a c n):=fun i o h=>by simp[newH]at h
def z3:V3:=(0,0,⟨#[]⟩)
theorem countP_lt{α:Type}{p q:α→Bool}:∀ {l:List α},(∀ x∈l,p x=true→q x=true)→(∃ x∈l,q x=true∧p x=false)→l.countP p<l.countP q:=by
 intro l
 have hle:∀ l:List α,(∀ x∈l,p x=true→q x=true)→l.countP p≤l.countP q:=fun l h=>List.countP_mono_left h
 induction l with
 |nil=>intro _ ⟨x,hx,_⟩;cases hx
 |cons y l ih =>
  intro h ⟨x,hx,h1,h2⟩
  have hl:=hle l fun x hx=>h x (List.mem_cons_of_mem _ hx)
  rw[List.countP_cons,List.countP_cons]
  rcases List.mem_cons.1 hx with rfl|hx
  ·rw[h1,h2];simp;omega
  ·have:=ih (fun x hx=>h x (List.mem_cons_of_mem _ hx)) ⟨x,hx,h1,h2⟩
   have hy:=h y List.mem_cons_self
   cases hp:p y with
   |true=>rw[hy hp];simp;omega
   |false=>simp;split<;>omega
theorem deep_few{H:Hp}(h:HOk H):∃ d:Nat→Nat,Deep H d∧∀ i,i<H.obs.length→d (i+1)<H.obs.length:=by
 obtain⟨d,hd⟩:=h.up
 have key:∀ (i:Nat) (p:Nat→Bool),i<H.obs.length→p i=false→(List.range H.obs.length).countP p<H.obs.length:=by
  intro i p hi hp
  have:=countP_lt (p:=p) (q:=fun _=>true) (l:=List.range H.obs.length) (fun _ _ _=>rfl) ⟨i,by simpa using hi,rfl,hp⟩
  simpa using this
 refine⟨fun x=>(List.range H.obs.length).countP fun j=>decide (d (j+1)<d x),fun i o ho=>?_,fun i hi=>key i _ hi (by simp)⟩
 rcases hd i o ho with h1|⟨h1,h2⟩
 ·exact .inl h1
 ·by_cases h0:o.proto=0
  ·exact .inl h0
  ·refine .inr ⟨h1,countP_lt (fun j _ hj=>?_) ⟨o.proto - 1,by simp;omega,?_,?_⟩⟩
   ·simp only[decide_eq_true_eq]at hj ⊢;omega
   ·simp only[decide_eq_true_eq];rw[show o.proto - 1+1=o.proto by omega];exact h2
   ·simp only[decide_eq_false_iff_not];rw[show o.proto - 1+1=o.proto by omega];omega
structure Grows(H G:Hp):Prop where
 F:∀ (j:Nat) (t:Sh),H.F[j]?=some t→G.F[j]?=some t
 T:∀ (j:Nat) (x:ByteArray),H.T[j]?=some x→G.T[j]?=some x
 obs:∀ (i:Int) (o:Ob),obAt H i=some o→∃ u,obAt G i=some u∧o.epoch≤u.epoch∧(u.epoch=o.epoch→u.shape=o.shape)
theorem Grows.refl(H:Hp):Grows H H:=⟨fun _ _ h=>h,fun _ _ h=>h,fun _ o h=>⟨o,h,Nat.le_refl _,fun _=>rfl⟩⟩
theorem Grows.trans{H G K:Hp}(h1:Grows H G)(h2:Grows G K):Grows H K:=
 ⟨fun j t h=>h2.F j t (h1.F j t h),fun j t h=>h2.T j t (h1.T j t h),fun i o h=>by
  obtain⟨u,hu,e1,e2⟩:=h1.obs i o h
  obtain⟨v,hv,e3,e4⟩:=h2.obs i u hu
  exact⟨v,hv,by omega,fun e=>by rw[e4 (by omega),e2 (by omega)]⟩⟩
theorem obAt_putO{H:Hp}{i:Int}{o u:Ob}(hi:obAt H i=some o)(k:Int):obAt (putO H i u) k=if k=i then some u else obAt H k:=by
 obtain⟨j,rfl,hj,hoj⟩:=obAt_some hi
 unfold obAt putO
 by_cases hk:k=((j+1:Nat):Int)
 ·subst hk
  rw[if_pos rfl,if_pos (by omega)]
  simp only[List.getElem?_set]
  rw[if_pos trivial,if_pos (by omega)]
 ·rw[if_neg hk]
  split
  ·simp only[List.getElem?_set]
   rw[if_neg (by omega)]
  ·rfl
theorem Grows.put{H G:Hp}(h:Grows H G)(hobs:G.obs=H.obs){i:Int}{o u:Ob}(ho:obAt H i=some o)(he:o.epoch≤u.epoch)(hs:u.epoch=o.epoch→u.shape=o.shape):Grows H (putO G i u):=by
 have hoG:∀ k,obAt G k=obAt H k:=fun k=>by unfold obAt;rw[hobs]
 refine⟨h.F,h.T,fun k a ha=>?_⟩
 rw[obAt_putO (o:=o) (by rw[hoG];exact ho)]
 by_cases e:k=i
 ·subst e
  rw[ho]at ha
  cases ha
  exact⟨u,by rw[if_pos rfl],he,hs⟩
 ·exact⟨a,by rw[if_neg e,hoG];exact ha,Nat.le_refl _,fun _=>rfl⟩
theorem next_grows(H:Hp)(i:Int)(x:ByteArray):Grows H (nextH H i x):=by
 unfold nextH
 split
 ·exact⟨fun j t h=>addF_get h,fun j y h=>ofT_get x h,fun i o h=>⟨o,h,Nat.le_refl _,fun _=>rfl⟩⟩
 ·exact .refl H
theorem set_grows(H:Hp)(i:Int)(x:ByteArray)(v:V3):Grows H (setH H i x v):=by
 unfold setH
 cases ho:obAt H i with
 |none=>exact .refl H
 |some o =>
  simp only
  split
  ·exact (Grows.refl H).put rfl ho (Nat.le_refl _) (fun _=>rfl)
  ·split
   ·exact .refl H
   ·split
    ·exact (Grows.refl H).put rfl ho (by simp) (fun e=>by simp at e)
    ·exact (next_grows H _ _).put (next_obs _ _ _).1 ho (by simp) (fun e=>by simp at e)
theorem del_grows(H:Hp)(i:Int)(x:ByteArray):Grows H (delH H i x):=by
 unfold delH
 cases ho:obAt H i with
 |none=>exact .refl H
 |some o =>
  simp only
  split
  ·exact (Grows.refl H).put rfl ho (by simp) (fun e=>by simp at e)
  ·exact .refl H
theorem proto_grows(H:Hp)(i q:Int):Grows H (protoH H i q):=by
 unfold protoH
 split
 ·cases ho:obAt H i with
  |none=>exact .refl H
  |some o =>
   simp only
   split
   ·exact (Grows.refl H).put rfl ho (by simp) (fun e=>by simp at e)
   ·have h1:Grows H { H with F:=moveF H.F H.most o.shape q.toNat }:=by
     refine⟨fun j t h=>?_,fun _ _ h=>h,fun i o h=>⟨o,h,Nat.le_refl _,fun _=>rfl⟩⟩
     show (moveF H.F H.most o.shape q.toNat)[j]?=some t
     unfold moveF
     split
     ·exact h
     ·exact moveL_pre _ _ _ (growF_get h)
    exact h1.put rfl ho (by simp) (fun e=>by simp at e)
 ·exact .refl H
theorem make_grows(H:Hp):Grows H (makeH H):=by
 unfold makeH
 split
 ·exact .refl H
 ·refine⟨fun j t h=>growF_get h,fun _ _ h=>h,fun i o h=>⟨o,?_,Nat.le_refl _,fun _=>rfl⟩⟩
  obtain⟨j,rfl,hj,hoj⟩:=obAt_some h
  rw[obAt_get]
  show (H.obs++_)[j]?=some o
  rw[List.getElem?_append_left hj]
  exact hoj
theorem slotOf_grows{H G:Hp}(hH:HOk H)(hG:HOk G)(h:Grows H G){n:Nat}{t:Sh}(hn:0<n)(hF:H.F[n - 1]?=some t)(x:ByteArray):slotOf G n x=slotOf H n x:=by
 unfold slotOf
 rw[namesOf_at hn hF,namesOf_at hn (h.F _ _ hF)]
 cases hi:idxOf H.T x with
 |some j =>
  rw[idx_of_get hG.nodup (h.T _ _ (idx_lt hi).2)]
 |none =>
  cases hg:idxOf G.T x with
  |none=>rfl
  |some j =>
   simp only
   have h1:=idx_lt hg
   have hge:H.T.length≤j:=by
    refine Nat.le_of_not_lt fun hlt=>idx_none hi ?_
    have h2:H.T[j]?=some H.T[j]:=List.getElem?_eq_getElem hlt
    have h3:=h.T _ _ h2
    rw[h1.2]at h3
    have:x=H.T[j]:=Option.some.inj h3
    rw[this];exact List.getElem_mem _
   have h2:slotL t.2 (j+1)<0:=(slotL_neg _ _).2 fun hm=>by have:=(hH.ids _ _ hF _ hm).2;omega
   have:=slotL_ge t.2 (j+1)
   omega
structure Ent where
 shape:Nat
 holder:Int
 slot:Int
 to:Nat
 deps:List (Nat×Nat)
structure Sit where
 used:Bool
 sets:Bool
 mega:Bool
 name:ByteArray
 es:List Ent
inductive Chain (H:Hp) (x:ByteArray):Nat→List (Nat×Nat)→Int→Int→Prop
 |stop:Chain H x 0 [] (-1) 0
 |hit {q E n pr:Nat}{l:List Nat}{o:Ob}{k:Int}(hq:0<q) (ho:obAt H q=some o) (hE:E≤o.epoch) (hs:o.epoch=E→o.shape=n) (hn:0<n) (hF:H.F[n - 1]?=some (pr,l)) (hk:slotOf H n x=k) (hk0:0≤k):Chain H x q [(q,E)] q k
 |up {q E n pr:Nat}{l:List Nat}{o:Ob}{ds:List (Nat×Nat)}{h k:Int}(hq:0<q) (ho:obAt H q=some o) (hE:E≤o.epoch) (hs:o.epoch=E→o.shape=n) (hn:0<n) (hF:H.F[n - 1]?=some (pr,l)) (hk:slotOf H n x<0) (hu:Chain H x pr ds h k):Chain H x q ((q,E)::ds) h k
theorem Chain.grows{H G:Hp}(hH:HOk H)(hG:HOk G)(h:Grows H G){x:ByteArray}{q:Nat}{ds:List (Nat×Nat)}{a k:Int}(hc:Chain H x q ds a k):Chain G x q ds a k:=by
 induction hc with
 |stop=>exact .stop
 |hit hq ho hE hs hn hF hk hk0 =>
  obtain⟨u,hu,e1,e2⟩:=h.obs _ _ ho
  exact .hit hq hu (by omega) (fun e=>by rw[e2 (by omega)];exact hs (by omega)) hn (h.F _ _ hF) (by rw[slotOf_grows hH hG h hn hF];exact hk) hk0
 |up hq ho hE hs hn hF hk _ ih =>
  obtain⟨u,hu,e1,e2⟩:=h.obs _ _ ho
  exact .up hq hu (by omega) (fun e=>by rw[e2 (by omega)];exact hs (by omega)) hn (h.F _ _ hF) (by rw[slotOf_grows hH hG h hn hF];exact hk) ih
def GetOk(H:Hp)(x:ByteArray)(e:Ent):Prop:=0<e.shape∧(e.to=0∧e.deps.length≤201)∧∃ pr l,H.F[e.shape - 1]?=some (pr,l) ∧
 ((e.holder=0∧e.deps=[]∧slotOf H e.shape x=e.slot∧0≤e.slot)∨(slotOf H e.shape x<0∧e.holder≠0∧Chain H x pr e.deps e.holder e.slot))
def SetOk(H:Hp)(x:ByteArray)(e:Ent):Prop:=0<e.shape∧e.holder=0∧e.deps=[]∧∃ pr l,H.F[e.shape - 1]?=some (pr,l) ∧
 ((e.to=0∧slotOf H e.shape x=e.slot∧0≤e.slot)∨(e.slot=0∧0<e.to∧∃ j,idxOf H.T x=some j∧H.F[e.to - 1]?=some (pr,(j+1)::l)))
theorem GetOk.grows{H G:Hp}(hH:HOk H)(hG:HOk G)(h:Grows H G){x:ByteArray}{e:Ent}(he:GetOk H x e):GetOk G x e:=by
 obtain⟨h1,h2,pr,l,h3,h4⟩:=he
 refine⟨h1,h2,pr,l,h.F _ _ h3,?_⟩
 rw[slotOf_grows hH hG h h1 h3]
 rcases h4 with h4|⟨h5,h6,h7⟩
 ·exact .inl h4
 ·exact .inr ⟨h5,h6,h7.grows hH hG h⟩
theorem SetOk.grows{H G:Hp}(hH:HOk H)(hG:HOk G)(h:Grows H G){x:ByteArray}{e:Ent}(he:SetOk H x e):SetOk G x e:=by
 obtain⟨h1,h2,h0,pr,l,h3,h4⟩:=he
 refine⟨h1,h2,h0,pr,l,h.F _ _ h3,?_⟩
 rw[slotOf_grows hH hG h h1 h3]
 rcases h4 with h4|⟨h5,h6,j,h7,h8⟩
 ·exact .inl h4
 ·exact .inr ⟨h5,h6,j,idx_of_get hG.nodup (h.T _ _ (idx_lt h7).2),h.F _ _ h8⟩
def holdsE(H:Hp)(e:Ent):Bool:=e.deps.all fun d=>epochV H d.1=d.2
def valE(H:Hp)(e:Ent)(o:Int):V3:=if 0<e.holder then (slotG H e.holder e.slot).getD z3 else if e.holder<0 then z3 else (slotG H o e.slot).getD z3
theorem slotG_own{H:Hp}(h:HOk H){i:Int}{o:Ob}(ho:obAt H i=some o)(hs:0<o.shape){x:ByteArray}(hk:0≤slotOf H o.shape x):∃ v,slotG H i (slotOf H o.shape x)=some v∧getP o.L x=some v:=by
 obtain⟨j,rfl,hj,hoj⟩:=obAt_some ho
 rcases slot_fits h hoj hs x with ⟨h1,_⟩|⟨k,v,h1,h2,h3⟩
 ·omega
 ·refine⟨v,?_,h3⟩
  unfold slotG
  rw[ho,h1]
  simp only
  rw[if_neg (by omega),if_pos (by omega),Int.toNat_natCast,h2]
  rfl
theorem slotG_nil{H:Hp}(h:HOk H){i:Int}{o:Ob}(ho:obAt H i=some o)(hs:0<o.shape){x:ByteArray}(hk:slotOf H o.shape x<0):getP o.L x=none:=by
 obtain⟨j,rfl,hj,hoj⟩:=obAt_some ho
 rcases slot_fits h hoj hs x with ⟨_,h1⟩|⟨k,v,h1,h2,h3⟩
 ·exact h1
 ·omega
theorem hpro_at{H:Hp}(h:HPro H){i:Int}{o:Ob}(ho:obAt H i=some o)(hs:0<o.shape){pr:Nat}{l:List Nat}(hF:H.F[o.shape - 1]?=some (pr,l)):o.proto=pr:=by
 obtain⟨j,rfl,hj,hoj⟩:=obAt_some ho
 obtain⟨l2,h2⟩:=h j o hoj hs
 rw[hF]at h2
 cases h2;rfl
theorem shapeV_some{H:Hp}{i:Int}(h:shapeV H i≠0):∃ o,obAt H i=some o∧shapeV H i=(o.shape:Int)∧0<o.shape:=by
 unfold shapeV at h ⊢
 cases ho:obAt H i with
 |none=>rw[ho]at h;exact absurd rfl h
 |some o=>rw[ho]at h;exact⟨o,rfl,rfl,by simp only at h;omega⟩
theorem Chain.get{H:Hp}(h:HOk H)(hp:HPro H){x:ByteArray}{q:Nat}{ds:List (Nat×Nat)}{a k:Int}(hc:Chain H x q ds a k)(hh:∀ d∈ds,epochV H d.1=d.2):GetR H x q (if 0<a then (slotG H a k).getD z3 else z3):=by
 induction hc with
 |stop=>exact .none (by unfold obAt;rfl)
 | @hit q E n pr l o k hq ho hE hs hn hF hk hk0 =>
  have he:=hh (q,E) (by simp)
  unfold epochV at he
  rw[ho]at he
  have hsn:=hs (by simp only at he;omega)
  obtain⟨v,h1,h2⟩:=slotG_own h ho (by omega) (x:=x) (by rw[hsn,hk];exact hk0)
  rw[hsn,hk]at h1
  rw[if_pos (by omega),h1]
  exact .own ho h2
 | @up q E n pr l o ds a k hq ho hE hs hn hF hk _ ih =>
  have he:=hh (q,E) (by simp)
  unfold epochV at he
  rw[ho]at he
  have hsn:=hs (by simp only at he;omega)
  have h2:=slotG_nil h ho (by omega) (x:=x) (by rw[hsn];exact hk)
  have h3:=hpro_at hp ho (by omega) (by rw[hsn];exact hF)
  refine .up ho h2 ?_
  rw[h3]
  exact ih fun d hd=>hh d (List.mem_cons_of_mem _ hd)
theorem GetOk.get{H:Hp}(h:HOk H)(hp:HPro H){x:ByteArray}{e:Ent}(he:GetOk H x e){o:Int}(ho:shapeV H o=(e.shape:Int))(hh:holdsE H e=true):GetR H x o (valE H e o):=by
 obtain⟨h1,_,pr,l,h3,h4⟩:=he
 obtain⟨ob,hob,hsh,hpos⟩:=shapeV_some (H:=H) (i:=o) (by omega)
 have hs:ob.shape=e.shape:=by omega
 have hall:∀ d∈e.deps,epochV H d.1=d.2:=fun d hd=>by
  unfold holdsE at hh
  exact of_decide_eq_true (List.all_eq_true.1 hh d hd)
 unfold valE
 rcases h4 with ⟨h5,h6,h7,h8⟩|⟨h5,h6,h7⟩
 ·rw[if_neg (by omega),if_neg (by omega)]
  obtain⟨v,g1,g2⟩:=slotG_own h hob hpos (x:=x) (by rw[hs,h7];exact h8)
  rw[hs,h7]at g1
  rw[g1]
  exact .own hob g2
 ·have g2:=slotG_nil h hob hpos (x:=x) (by rw[hs];exact h5)
  have g3:=hpro_at hp hob hpos (by rw[hs];exact h3)
  have:=h7.get h hp hall
  have e1:(if 0<e.holder then (slotG H e.holder e.slot).getD z3 else if e.holder<0 then z3 else (slotG H o e.slot).getD z3)=if 0<e.holder then (slotG H e.holder e.slot).getD z3 else z3:=by
   split
   ·rfl
   ·rw[if_pos (by omega)]
  rw[e1]
  exact .up hob g2 (by rw[g3];exact this)
theorem SetOk.put{H:Hp}(h:HOk H){x:ByteArray}{e:Ent}(he:SetOk H x e){o:Int}(ho:shapeV H o=(e.shape:Int))(ht:e.to=0)(v:V3):setH H o x v=putH H o e.slot v∧setE H o x=0:=by
 obtain⟨h1,_,_,pr,l,h3,h4⟩:=he
 obtain⟨ob,hob,hsh,hpos⟩:=shapeV_some (H:=H) (i:=o) (by omega)
 have hs:ob.shape=e.shape:=by omega
 rcases h4 with ⟨h5,h6,h7⟩|⟨_,h5,_⟩
 ·obtain⟨j,rfl,hj,hoj⟩:=obAt_some hob
  rcases slot_fits h hoj hpos x with ⟨g1,_⟩|⟨k,w,g1,g2,g3⟩
  ·rw[hs,h6]at g1;omega
  ·rw[hs,h6]at g1
   unfold setH putH setE
   rw[hob]
   simp only[g3,Option.isSome_some,if_true,and_true]
   rw[if_neg (by omega),if_pos (by omega),g1,Int.toNat_natCast,g2]
   simp only
   rw[setP_some (h.keys j ob hoj) g2]
 ·omega
theorem nodup_not{H:Hp}(hF:FOk H.F){i pr x:Nat}{l:List Nat}(h:H.F[i]?=some (pr,x::l)):x ∉ l∧l.length<12:=by
 obtain⟨h1,h2⟩:=hF.names _ _ _ h
 exact⟨(List.nodup_cons.1 h1).1,by simp at h2;omega⟩
theorem growN_has{F:List Sh}{most j:Nat}{t:Sh}(hF:FOk F)(h:F[j]?=some t):growN F most t=j+1∧growF F most t=F:=by
 have hm:=List.mem_of_getElem? h
 have:=hF.is h
 unfold shIs at this
 rw[if_pos hm]at this
 unfold growN growF
 rw[if_pos hm,if_pos hm]
 exact⟨Option.some.inj this,rfl⟩
theorem SetOk.grow{H:Hp}(h:HOk H)(hF:FOk H.F){x:ByteArray}{e:Ent}(he:SetOk H x e){o:Int}(ho:shapeV H o=(e.shape:Int))(ht:0<e.to)(v:V3):setH H o x v=growH H o e.to v∧setE H o x=growE H o e.to:=by
 obtain⟨h1,_,_,pr,l,h3,h4⟩:=he
 obtain⟨ob,hob,hsh,hpos⟩:=shapeV_some (H:=H) (i:=o) (by omega)
 have hs:ob.shape=e.shape:=by omega
 rcases h4 with ⟨h5,_⟩|⟨_,_,j,h5,h6⟩
 ·omega
 obtain⟨n1,n2⟩:=nodup_not hF h6
 have hslot:slotOf H ob.shape x<0:=by
  unfold slotOf
  rw[h5,hs,namesOf_at h1 h3]
  exact (slotL_neg _ _).2 n1
 have hno:=slotG_nil h hob hpos hslot
 have hto:shAt H.F (e.to:Int)=some (pr,(j+1)::l):=by rw[shAt_at ht,h6]
 have hpar:parId H.F (pr,(j+1)::l)=e.shape:=by
  obtain⟨k,hk,g2,g3⟩:=hF.par h6
  rw[g3]
  have:=hF.one g2 h3
  omega
 have hsha:shAt H.F (ob.shape:Int)=some (pr,l):=by rw[shAt_at hpos,hs,h3]
 have hofI:ofI H.T x=j+1:=by unfold ofI;rw[h5]
 have hgr:=growN_has (most:=H.most) hF h6
 have hcond:¬ (12≤l.length∨(j+1)∈l):=by
  rintro (hc|hc)
  ·omega
  ·exact n1 hc
 have hnN:nextN H ob.shape x=e.to:=by
  unfold nextN addN
  rw[hsha,hofI]
  simp only[Option.isSome_some,if_true,if_neg hcond]
  rw[hgr.1]
  omega
 have hnH:nextH H ob.shape x=H:=by
  have e1:addF H.F H.most ob.shape (j+1)=H.F:=by
   unfold addF
   rw[hsha]
   simp only[if_neg hcond]
   exact hgr.2
  unfold nextH
  rw[hsha,hofI,e1,ofT_some h5]
  rfl
 have hE:growE H o e.to=if H.maxP≤ob.L.length then 42 else 0:=by
  unfold growE
  rw[hob,hto]
  simp only
  rw[if_neg (by omega),if_neg (by rw[hpar,hs];exact fun hc=>hc rfl)]
 have hnm:namesOf H.F (e.to:Int)=(j+1)::l:=namesOf_at ht h6
 have htx:txt H.T (j+1)=x:=by
  have:=idx_lt h5
  have g:=txt_get (T:=H.T) (i:=j+1) (by omega) (by omega)
  rw[Nat.add_sub_cancel,this.2]at g
  exact (Option.some.inj g).symm
 refine⟨?_,?_⟩
 ·unfold setH growH
  rw[hE,hob]
  simp only[hno,Option.isSome_none,Bool.false_eq_true,if_false]
  by_cases hm:H.maxP≤ob.L.length
  ·rw[if_pos hm,if_pos hm,if_neg (by omega)]
  ·rw[if_neg hm,if_neg hm,if_pos rfl,if_neg (by omega),hnH,hnN,hnm,setP_none _ _ _ hno]
   simp only[List.headD_cons,htx,Int.toNat_natCast]
 ·rw[hE]
  unfold setE
  rw[hob]
  simp only[hno,Option.isSome_none,Bool.false_eq_true,if_false]
inductive LookR (H:Hp) (x:ByteArray):Int→Option (List (Nat×Nat)×Int×Int)→Prop
 |stop:LookR H x 0 (some ([],-1,0))
 |loose {p:Int}(h:p≠0) (hs:shapeV H p=0):LookR H x p none
 |hit {p:Int}(h:p≠0) (hs:shapeV H p≠0) (hk:0≤slotOf H (shapeV H p) x):LookR H x p (some ([(p.toNat,(epochV H p).toNat)],p,slotOf H (shapeV H p) x))
 |up {p:Int}{r:Option (List (Nat×Nat)×Int×Int)}(h:p≠0) (hs:shapeV H p≠0) (hk:slotOf H (shapeV H p) x<0) (hu:LookR H x (protoV H p) r):LookR H x p (r.map fun q=>((p.toNat,(epochV H p).toNat)::q.1,q.2.1,q.2.2))
theorem fits_at{H:Hp}(h:HOk H)(hp:HPro H){i:Int}{o:Ob}(ho:obAt H i=some o)(hs:0<o.shape):∃ l,H.F[o.shape - 1]?=some (o.proto,l):=by
 obtain⟨j,rfl,hj,hoj⟩:=obAt_some ho
 exact hp j o hoj hs
theorem LookR.chain{H:Hp}(h:HOk H)(hp:HPro H){x:ByteArray}{p:Int}{r:Option (List (Nat×Nat)×Int×Int)}(hr:LookR H x p r):∀ q,r=some q→0≤p∧Chain H x p.toNat q.1 q.2.1 q.2.2∧q.2.1≠0:=by
 induction hr with
 |stop=>intro q hq;cases hq;exact⟨Int.le_refl _,.stop,by decide⟩
 |loose=>intro q hq;cases hq
 | @hit p h0 hs hk =>
  intro q hq
  cases hq
  obtain⟨o,ho,e1,e2⟩:=shapeV_some hs
  obtain⟨l,hl⟩:=fits_at h hp ho e2
  obtain⟨j,rfl,hj,hoj⟩:=obAt_some ho
  rw[e1]at hk ⊢
  have he:epochV H ((j+1:Nat):Int)=(o.epoch:Int):=by unfold epochV;rw[ho]
  refine⟨by omega,?_,by show ((j+1:Nat):Int)≠0;omega⟩
  rw[he,Int.toNat_natCast,Int.toNat_natCast]
  exact .hit (by omega) ho (Nat.le_refl _) (fun _=>rfl) e2 hl rfl hk
 | @up p r h0 hs hk _ ih =>
  intro q hq
  obtain⟨o,ho,e1,e2⟩:=shapeV_some hs
  obtain⟨l,hl⟩:=fits_at h hp ho e2
  obtain⟨j,rfl,hj,hoj⟩:=obAt_some ho
  rw[e1]at hk
  have he:epochV H ((j+1:Nat):Int)=(o.epoch:Int):=by unfold epochV;rw[ho]
  have hpr:protoV H ((j+1:Nat):Int)=(o.proto:Int):=by unfold protoV;rw[ho]
  obtain⟨q0,rfl,rfl⟩:=Option.map_eq_some_iff.1 hq
  obtain⟨g1,g2,g3⟩:=ih q0 rfl
  rw[hpr,Int.toNat_natCast]at g2
  refine⟨by omega,?_,g3⟩
  rw[he,Int.toNat_natCast,Int.toNat_natCast]
  exact .up (by omega) ho (Nat.le_refl _) (fun _=>rfl) e2 hl hk g2
theorem LookR.len{H:Hp}{d:Nat→Nat}(hd:Deep H d){x:ByteArray}{p:Int}{r:Option (List (Nat×Nat)×Int×Int)}(hr:LookR H x p r):∀ q,r=some q→(p=0→q.1.length=0)∧q.1.length≤d p.toNat+1:=by
 induction hr with
 |stop=>intro q hq;cases hq;exact⟨fun _=>rfl,Nat.zero_le _⟩
 |loose=>intro q hq;cases hq
 |hit h0=>intro q hq;cases hq;exact⟨fun h=>absurd h h0,by simp⟩
 | @up p r h0 hs hk _ ih =>
  intro q hq
  obtain⟨o,ho,e1,e2⟩:=shapeV_some hs
  obtain⟨j,rfl,hj,hoj⟩:=obAt_some ho
  have hpr:protoV H ((j+1:Nat):Int)=(o.proto:Int):=by unfold protoV;rw[ho]
  obtain⟨q0,rfl,rfl⟩:=Option.map_eq_some_iff.1 hq
  obtain⟨g1,g2⟩:=ih q0 rfl
  rw[hpr,Int.toNat_natCast]at g2
  rw[hpr]at g1
  refine⟨fun h=>absurd h h0,?_⟩
  rw[Int.toNat_natCast]
  simp only[List.length_cons]
  rcases hd j o hoj with h1|⟨_,h1⟩
  ·have:=g1 (by rw[h1];rfl);omega
  ·omega
theorem LookR.few{H:Hp}(h:HOk H){x:ByteArray}{o:Int}{r:Option (List (Nat×Nat)×Int×Int)}(hr:LookR H x (protoV H o) r):∀ q,r=some q→q.1.length≤201:=by
 intro q hq
 obtain⟨d,hd,hdl⟩:=deep_few h
 have hlim:=h.lim
 obtain⟨g1,g2⟩:=hr.len hd q hq
 have hpv:protoV H o=0∨∃ j:Nat,j<H.obs.length∧protoV H o=((j+1:Nat):Int):=by
  unfold protoV
  split
  ·rename_i o' ho'
   obtain⟨j,rfl,hj,hoj⟩:=obAt_some ho'
   by_cases h0:o'.proto=0
   ·exact .inl (by rw[h0];rfl)
   ·rcases hd j o' hoj with h1|⟨h1,_⟩
    ·exact absurd h1 h0
    ·exact .inr ⟨o'.proto - 1,by omega,by omega⟩
  ·exact .inl rfl
 rcases hpv with h0|⟨j,hj,h0⟩
 ·have:=g1 h0;omega
 ·rw[h0,Int.toNat_natCast]at g2
  have:=hdl j hj
  omega
def LookE(H:Hp)(x:ByteArray)(o:Int)(r:Option Ent):Prop:=
 if 0≤slotOf H (shapeV H o) x then r=some ⟨(shapeV H o).toNat,0,slotOf H (shapeV H o) x,0,[]⟩
 else ∃ q,LookR H x (protoV H o) q∧r=q.map fun q=>⟨(shapeV H o).toNat,q.2.1,q.2.2,0,q.1⟩
theorem LookE.ok{H:Hp}(h:HOk H)(hp:HPro H){x:ByteArray}{o:Int}{e:Ent}(ho:shapeV H o≠0)(he:LookE H x o (some e)):GetOk H x e∧(e.shape:Int)=shapeV H o:=by
 obtain⟨ob,hob,e1,e2⟩:=shapeV_some ho
 obtain⟨l,hl⟩:=fits_at h hp hob e2
 unfold LookE at he
 rw[e1]at he ⊢
 split at he
 ·rename_i hk
  cases he
  exact⟨⟨by simpa using e2,⟨rfl,by simp⟩,ob.proto,l,by simpa using hl,.inl ⟨rfl,rfl,by simp,hk⟩⟩,by simp⟩
 ·rename_i hk
  obtain⟨q,h1,h2⟩:=he
  obtain⟨q0,rfl,rfl⟩:=Option.map_eq_some_iff.1 h2.symm
  have hpr:protoV H o=(ob.proto:Int):=by unfold protoV;rw[hob]
  have hfew:=h1.few h q0 rfl
  rw[hpr]at h1
  obtain⟨_,g2,g3⟩:=h1.chain h hp q0 rfl
  rw[Int.toNat_natCast]at g2
  exact⟨⟨by simpa using e2,⟨rfl,hfew⟩,ob.proto,l,by simpa using hl,.inr ⟨by simp only[Int.toNat_natCast];omega,g3,g2⟩⟩,by simp⟩
theorem LookR.one{H:Hp}{x:ByteArray}{p:Int}{a b:Option (List (Nat×Nat)×Int×Int)}(h1:LookR H x p a)(h2:LookR H x p b):a=b:=by
 induction h1 generalizing b with
 |stop=>cases h2 with
  |stop=>rfl
  |loose h=>exact absurd rfl h
  |hit h=>exact absurd rfl h
  |up h=>exact absurd rfl h
 |loose h hs=>cases h2 with
  |stop=>exact absurd rfl h
  |loose=>rfl
  |hit _ h3=>exact absurd hs h3
  |up _ h3=>exact absurd hs h3
 |hit h hs hk=>cases h2 with
  |stop=>exact absurd rfl h
  |loose _ h3=>exact absurd h3 hs
  |hit=>rfl
  |up _ _ h3=>omega
 |up h hs hk _ ih=>cases h2 with
  |stop=>exact absurd rfl h
  |loose _ h3=>exact absurd h3 hs
  |hit _ _ h3=>omega
  |up _ _ _ h3=>rw[ih h3]
theorem LookE.one{H:Hp}{x:ByteArray}{o:Int}{a b:Option Ent}(h1:LookE H x o a)(h2:LookE H x o b):a=b:=by
 unfold LookE at h1 h2
 split at h1
 ·rename_i hk
  rw[if_pos hk]at h2
  rw[h1,h2]
 ·rename_i hk
  rw[if_neg hk]at h2
  obtain⟨q,h3,rfl⟩:=h1
  obtain⟨q2,h4,rfl⟩:=h2
  rw[h3.one h4]
theorem set_new{H:Hp}(h:HOk H)(hp:HPro H){o:Int}{x:ByteArray}{v:V3}(ho:shapeV H o≠0)(he:setE H o x=0)(hs:shapeV (setH H o x v) o≠0) :
  SetOk (setH H o x v) x (if 0≤slotOf H (shapeV H o) x then ⟨(shapeV H o).toNat,0,slotOf H (shapeV H o) x,0,[]⟩ else ⟨(shapeV H o).toNat,0,0,(shapeV (setH H o x v) o).toNat,[]⟩):=by
 have hg:=set_grows H o x v
 have hok:=set_ok h o x v
 obtain⟨ob,hob,e1,e2⟩:=shapeV_some ho
 obtain⟨l,hl⟩:=fits_at h hp hob e2
 rw[e1]
 split
 ·rename_i hk
  exact⟨by simpa using e2,rfl,rfl,ob.proto,l,by simpa using hg.F _ _ hl,.inl ⟨rfl,by simp only[Int.toNat_natCast];exact slotOf_grows h hok hg e2 hl x,hk⟩⟩
 ·rename_i hk
  have hno:=slotG_nil h hob e2 (x:=x) (by omega)
  have hlt:¬ H.maxP≤ob.L.length:=by
   unfold setE at he
   rw[hob]at he
   simp only[hno,Option.isSome_none,Bool.false_eq_true,if_false]at he
   intro hc
   rw[if_pos hc]at he
   omega
  have hset:setH H o x v=putO (nextH H ob.shape x) o { L:=setP ob.L x v,shape:=nextN H ob.shape x,proto:=ob.proto,epoch:=ob.epoch+1 }:=by
   unfold setH
   rw[hob]
   simp only[hno,Option.isSome_none,Bool.false_eq_true,if_false]
   rw[if_neg hlt,if_neg (by omega)]
  have hob2:obAt (nextH H ob.shape x) o=some ob:=by
   unfold obAt
   rw[(next_obs _ _ _).1]
   exact hob
  have hsh:shapeV (setH H o x v) o=(nextN H ob.shape x:Int):=by
   unfold shapeV
   rw[hset,obAt_putO hob2,if_pos rfl]
  rw[hsh]at hs ⊢
  have hpos:0<nextN H ob.shape x:=by omega
  obtain⟨g1,g2⟩:=nextN_get h (x:=x) e2 hl hpos
  have hT:(setH H o x v).T=ofT H.T x:=by
   rw[hset]
   show (nextH H ob.shape x).T=_
   unfold nextH
   rw[shAt_at e2,hl]
   rfl
  have hF:(setH H o x v).F=(nextH H ob.shape x).F:=by rw[hset];rfl
  have hofI:=ofI_ok H.T x
  refine⟨by simpa using e2,rfl,rfl,ob.proto,l,by simpa using hg.F _ _ hl,.inr ⟨rfl,by simpa using hpos,ofI H.T x - 1,?_,?_⟩⟩
  ·rw[hT]
   refine idx_of_get (ofT_nodup h.nodup x) ?_
   rw[txt_get hofI.1 hofI.2.1,hofI.2.2]
  ·rw[hF,Nat.sub_add_cancel hofI.1]
   simpa using g1
theorem slotOf_lt{H:Hp}(hF:FOk H.F){n:Nat}{t:Sh}(hn:0<n)(h:H.F[n - 1]?=some t)(x:ByteArray) : -1≤slotOf H n x∧slotOf H n x≤12:=by
 have h2:=(hF.names _ t.1 t.2 h).2
 unfold slotOf
 rw[namesOf_at hn h]
 split
 ·omega
 ·rename_i j _
  have:=slotL_ge t.2 (j+1)
  have:=slotL_le t.2 (j+1)
  omega
theorem Chain.small{H:Hp}(h:HOk H)(hF:FOk H.F){x:ByteArray}{q:Nat}{ds:List (Nat×Nat)}{a k:Int}(hc:Chain H x q ds a k) : -1≤a∧a≤200∧0≤k∧k≤12∧∀ d∈ds,d.1≤200:=by
 have hlim:=h.lim
 induction hc with
 |stop=>exact⟨by omega,by omega,by omega,by omega,fun d hd=>by cases hd⟩
 | @hit q E n pr l o k hq ho hE hs hn hFn hk hk0 =>
  obtain⟨j,hj,hjl,_⟩:=obAt_some ho
  have:=slotOf_lt hF hn hFn x
  exact⟨by omega,by omega,by omega,by omega,fun d hd=>by rw[List.mem_singleton.1 hd];show q≤200;omega⟩
 | @up q E n pr l o ds a k hq ho hE hs hn hFn hk _ ih =>
  obtain⟨j,hj,hjl,_⟩:=obAt_some ho
  obtain⟨h1,h2,h3,h4,h5⟩:=ih
  exact⟨h1,h2,h3,h4,fun d hd=>by
   rcases List.mem_cons.1 hd with rfl|hd
   ·show q≤200;omega
   ·exact h5 d hd⟩
theorem GetOk.small{H:Hp}(h:HOk H)(hF:FOk H.F){x:ByteArray}{e:Ent}(he:GetOk H x e) : -1≤e.holder∧e.holder≤200∧0≤e.slot∧e.slot≤12∧e.deps.length≤201∧∀ d∈e.deps,d.1≤200:=by
 obtain⟨h1,⟨_,h2⟩,pr,l,h3,h4⟩:=he
 rcases h4 with ⟨h5,h6,h7,h8⟩|⟨h5,h6,h7⟩
 ·have:=slotOf_lt hF h1 h3 x
  refine⟨by omega,by omega,by omega,by omega,h2,?_⟩
  rw[h6];intro d hd;cases hd
 ·obtain⟨g1,g2,g3,g4,g5⟩:=h7.small h hF
  exact⟨g1,g2,g3,g4,h2,g5⟩
theorem SetOk.small{H:Hp}(h:HOk H)(hF:FOk H.F){x:ByteArray}{e:Ent}(he:SetOk H x e):0≤e.slot∧e.slot≤12∧e.to≤H.F.length:=by
 obtain⟨h1,_,_,pr,l,h3,h4⟩:=he
 rcases h4 with ⟨h5,h6,h7⟩|⟨h5,h6,j,h7,h8⟩
 ·have:=slotOf_lt hF h1 h3 x
  exact⟨by omega,by omega,by omega⟩
 ·have:=(List.getElem?_eq_some_iff.1 h8).1
  exact⟨by omega,by omega,by omega⟩
def s0:Sit:=⟨false,false,false,⟨#[]⟩,[]⟩
def e0:Ent:=⟨0,0,0,0,[]⟩
structure Tab where
 fs:Nat
 n:Nat→Nat
 st:Nat→Nat→Sit
 hits:Nat
 misses:Nat
def hasT(T:Tab)(f k:Int):Prop:=0≤f∧f<T.fs∧0≤k∧k<T.n f.toNat
instance (T:Tab)(f k:Int):Decidable (hasT T f k):=inferInstanceAs (Decidable (_∧_∧_∧_))
def siteAt(T:Tab)(f k:Int):Sit:=T.st f.toNat k.toNat
def putT(T:Tab)(f k:Int)(z:Sit):Tab:={ T with st:=fun a b=>if a=f.toNat∧b=k.toNat then z else T.st a b }
def hitT(T:Tab):Tab:={ T with hits:=T.hits+1 }
def missT(T:Tab):Tab:={ T with misses:=T.misses+1 }
def playsB(z:Sit)(w:Bool)(x:ByteArray):Bool:=if z.mega then false else if z.used then decide (z.sets=w) && decide (z.name=x) else true
def playsS(z:Sit)(w:Bool)(x:ByteArray):Sit:=if z.used then z else { z with used:=true,sets:=w,name:=x }
def hitI(es:List Ent)(sh:Int):Option Nat:=es.findIdx? fun e=>decide ((e.shape:Int)=sh)
def keepS(z:Sit)(e:Ent):Sit:=match hitI z.es e.shape with
 |some i=>{ z with es:=z.es.set i e }
 |none=>if 4≤z.es.length then { z with es:=[],mega:=true } else { z with es:=z.es ++ [e] }
def keepO(z:Sit)(r:Option Ent):Sit:=match r with
 |some e=>keepS z e
 |none=>z
def getT(H:Hp)(T:Tab)(f k o:Int)(x:ByteArray)(r:Option Ent):Tab:=
 if shapeV H o=0 then missT T else if ¬ hasT T f k then missT T else if playsB (siteAt T f k) false x=false then missT T
 else match hitI (playsS (siteAt T f k) false x).es (shapeV H o) with
  |some i=>if holdsE H ((playsS (siteAt T f k) false x).es.getD i e0)=true then hitT (putT T f k (playsS (siteAt T f k) false x)) else missT (putT T f k (keepO (playsS (siteAt T f k) false x) r))
  |none=>missT (putT T f k (keepO (playsS (siteAt T f k) false x) r))
def newE(H:Hp)(o:Int)(x:ByteArray)(v:V3):Ent:=if 0≤slotOf H (shapeV H o) x then ⟨(shapeV H o).toNat,0,slotOf H (shapeV H o) x,0,[]⟩ else ⟨(shapeV H o).toNat,0,0,(shapeV (setH H o x v) o).toNat,[]⟩
def setT(H:Hp)(T:Tab)(f k o:Int)(x:ByteArray)(v:V3):Tab:=
 if shapeV H o=0 then missT T else if ¬ hasT T f k then missT T else if playsB (siteAt T f k) true x=false then missT T
 else match hitI (playsS (siteAt T f k) true x).es (shapeV H o) with
  |some _=>hitT (putT T f k (playsS (siteAt T f k) true x))
  |none=>if setE H o x=0∧shapeV (setH H o x v) o≠0 then missT (putT T f k (keepS (playsS (siteAt T f k) true x) (newE H o x v))) else missT (putT T f k (playsS (siteAt T f k) true x))
structure SitOk(H:Hp)(z:Sit):Prop where
 few:z.es.length≤4
 mega:z.mega=true→z.es=[]
 fresh:z.used=false→z.es=[]
 apart:(z.es.map (·.shape)).Nodup
 gets:z.sets=false→∀ e∈z.es,GetOk H z.name e
 sets:z.sets=true→∀ e∈z.es,SetOk H z.name e
def TabOk(H:Hp)(T:Tab):Prop:=∀ a b,a<T.fs→b<T.n a→SitOk H (T.st a b)
theorem s0_ok(H:Hp)(m:Bool):SitOk H { s0 with mega:=m }:=⟨Nat.zero_le _,fun _=>rfl,fun _=>rfl,List.nodup_nil,fun _ e he=>(by cases he),fun _ e he=>(by cases he)⟩
theorem SitOk.grows{H G:Hp}(hH:HOk H)(hG:HOk G)(h:Grows H G){z:Sit}(hz:SitOk H z):SitOk G z:=
 ⟨hz.few,hz.mega,hz.fresh,hz.apart,fun e a ha=>(hz.gets e a ha).grows hH hG h,fun e a ha=>(hz.sets e a ha).grows hH hG h⟩
theorem TabOk.grows{H G:Hp}(hH:HOk H)(hG:HOk G)(h:Grows H G){T:Tab}(hT:TabOk H T):TabOk G T:=fun a b h1 h2=>(hT a b h1 h2).grows hH hG h
theorem TabOk.put{H:Hp}{T:Tab}(hT:TabOk H T){f k:Int}{z:Sit}(hz:SitOk H z):TabOk H (putT T f k z):=fun a b h1 h2=>by
 show SitOk H (if a=f.toNat∧b=k.toNat then z else T.st a b)
 split
 ·exact hz
 ·exact hT a b h1 h2
theorem TabOk.miss{H:Hp}{T:Tab}(hT:TabOk H T):TabOk H (missT T):=hT
theorem TabOk.hit{H:Hp}{T:Tab}(hT:TabOk H T):TabOk H (hitT T):=hT
theorem TabOk.has{H:Hp}{T:Tab}(hT:TabOk H T){f k:Int}(h:hasT T f k):SitOk H (siteAt T f k):=hT _ _ (by have:=h.1;have:=h.2.1;omega) (by have:=h.2.2;omega)
theorem hitI_some{es:List Ent}{sh:Int}{i:Nat}(h:hitI es sh=some i):∃ e,es[i]?=some e∧(e.shape:Int)=sh∧es.getD i e0=e:=by
 unfold hitI at h
 rw[List.findIdx?_eq_some_iff_getElem]at h
 obtain⟨hi,h1,_⟩:=h
 exact⟨es[i],List.getElem?_eq_getElem hi,of_decide_eq_true h1,by rw[List.getD_eq_getElem?_getD,List.getElem?_eq_getElem hi];rfl⟩
theorem hitI_none{es:List Ent}{sh:Int}(h:hitI es sh=none):∀ e∈es,(e.shape:Int)≠sh:=by
 unfold hitI at h
 rw[List.findIdx?_eq_none_iff]at h
 intro e he
 exact of_decide_eq_false (h e he)
theorem plays_ok{H:Hp}{z:Sit}(hz:SitOk H z)(w:Bool)(x:ByteArray):SitOk H (playsS z w x):=by
 unfold playsS
 cases hu:z.used with
 |true=>simp only[if_true];exact hz
 |false =>
  have:=hz.fresh hu
  simp only[Bool.false_eq_true,if_false]
  exact⟨hz.few,hz.mega,fun h=>(by cases h),hz.apart,fun _ e he=>(by rw[this]at he;cases he),fun _ e he=>(by rw[this]at he;cases he)⟩
theorem plays_is{z:Sit}{w:Bool}{x:ByteArray}(h:playsB z w x=true):z.mega=false∧(playsS z w x).sets=w∧(playsS z w x).name=x∧(playsS z w x).used=true∧(playsS z w x).mega=false∧(playsS z w x).es=z.es:=by
 unfold playsB at h
 cases hm:z.mega with
 |true=>rw[hm]at h;simp at h
 |false =>
  rw[hm]at h
  simp only[Bool.false_eq_true,if_false]at h
  unfold playsS
  cases hu:z.used with
  |true =>
   rw[hu]at h
   simp only[if_true,Bool.and_eq_true,decide_eq_true_eq]at h ⊢
   exact⟨trivial,h.1,h.2,hu,hm,trivial⟩
  |false =>
   simp only[Bool.false_eq_true,if_false]
   exact⟨trivial,trivial,trivial,trivial,hm,trivial⟩
theorem nodup_set{es:List Ent}(h:(es.map (·.shape)).Nodup){i:Nat}{e u:Ent}(hi:es[i]?=some u)(hs:u.shape=e.shape):((es.set i e).map (·.shape)).Nodup:=by
 have:(es.set i e).map (·.shape)=es.map (·.shape):=by
  apply List.ext_getElem?
  intro j
  rw[List.getElem?_map,List.getElem?_map,List.getElem?_set]
  split
  ·rename_i e1
   subst e1
   rw[if_pos (List.getElem?_eq_some_iff.1 hi).1,hi]
   simp[hs]
  ·rfl
 rw[this];exact h
theorem mem_set{α:Type}{l:List α}{i:Nat}{a b:α}(h:b∈l.set i a):b∈l∨b=a:=List.mem_or_eq_of_mem_set h
theorem keep_ok{H:Hp}{z:Sit}(hz:SitOk H z)(hu:z.used=true)(hm:z.mega=false){e:Ent}(hg:z.sets=false→GetOk H z.name e)(hs:z.sets=true→SetOk H z.name e):SitOk H (keepS z e):=by
 unfold keepS
 cases hi:hitI z.es e.shape with
 |some i =>
  obtain⟨u,h1,h2,_⟩:=hitI_some hi
  refine⟨by simpa using hz.few,fun h=>(by rw[hm]at h;cases h),fun h=>(by rw[hu]at h;cases h),nodup_set hz.apart h1 (by omega),fun h a ha=>?_,fun h a ha=>?_⟩
  ·rcases mem_set ha with ha|rfl
   ·exact hz.gets h a ha
   ·exact hg h
  ·rcases mem_set ha with ha|rfl
   ·exact hz.sets h a ha
   ·exact hs h
 |none =>
  simp only
  split
  ·exact⟨Nat.zero_le _,fun _=>rfl,fun _=>rfl,List.nodup_nil,fun _ a ha=>(by cases ha),fun _ a ha=>(by cases ha)⟩
  ·rename_i hl
   have hn:=hitI_none hi
   refine⟨by simp;omega,fun h=>(by rw[hm]at h;cases h),fun h=>(by rw[hu]at h;cases h),?_,fun h a ha=>?_,fun h a ha=>?_⟩
   ·show ((z.es ++ [e]).map (·.shape)).Nodup
    rw[List.map_append,List.nodup_append]
    refine⟨hz.apart,by simp,fun a ha b hb e2=>?_⟩
    simp only[List.map_cons,List.map_nil,List.mem_singleton]at hb
    subst hb;subst e2
    obtain⟨u,hu1,hu2⟩:=List.mem_map.1 ha
    exact hn u hu1 (by omega)
   ·rcases List.mem_append.1 ha with ha|ha
    ·exact hz.gets h a ha
    ·rw[List.mem_singleton.1 ha];exact hg h
   ·rcases List.mem_append.1 ha with ha|ha
    ·exact hz.sets h a ha
    ·rw[List.mem_singleton.1 ha];exact hs h
theorem get_ok{H:Hp}(h:HOk H)(hp:HPro H){T:Tab}(hT:TabOk H T){f k o:Int}{x:ByteArray}{r:Option Ent}(hr:LookE H x o r):TabOk H (getT H T f k o x r):=by
 unfold getT
 split
 ·exact hT.miss
 ·rename_i h0
  split
  ·exact hT.miss
  ·rename_i h1
   have hz:=hT.has (Decidable.not_not.1 h1)
   split
   ·exact hT.miss
   ·rename_i h2
    have hpl:=plays_is (Bool.not_eq_false _▸h2)
    have hk:SitOk H (keepO (playsS (siteAt T f k) false x) r):=by
     cases r with
     |none=>exact plays_ok hz false x
     |some e=>exact keep_ok (plays_ok hz false x) hpl.2.2.2.1 hpl.2.2.2.2.1 (fun _=>by rw[hpl.2.2.1];exact (hr.ok h hp h0).1) (fun hs=>by rw[hpl.2.1]at hs;cases hs)
    split
    ·split
     ·exact (hT.put (plays_ok hz false x)).hit
     ·exact (hT.put hk).miss
    ·exact (hT.put hk).miss
theorem get_hit{H:Hp}(h:HOk H)(hp:HPro H){z:Sit}(hz:SitOk H z){x:ByteArray}{o:Int}{i:Nat}(hpl:playsB z false x=true)(hi:hitI (playsS z false x).es (shapeV H o)=some i)(hh:holdsE H ((playsS z false x).es.getD i e0)=true):GetR H x o (valE H ((playsS z false x).es.getD i e0) o):=by
 obtain⟨e,h1,h2,h3⟩:=hitI_some hi
 have hp2:=plays_is hpl
 rw[h3]at hh ⊢
 have:=(plays_ok hz false x).gets hp2.2.1 e (List.mem_of_getElem? h1)
 rw[hp2.2.2.1]at this
 exact this.get h hp h2.symm hh
theorem set_hit{H:Hp}{z:Sit}(hz:SitOk H z){x:ByteArray}{o:Int}{i:Nat}(hpl:playsB z true x=true)(hi:hitI (playsS z true x).es (shapeV H o)=some i):∃ e,(playsS z true x).es.getD i e0=e∧(playsS z true x).es[i]?=some e∧shapeV H o=(e.shape:Int)∧SetOk H x e:=by
 obtain⟨e,h1,h2,h3⟩:=hitI_some hi
 have hp2:=plays_is hpl
 have:=(plays_ok hz true x).sets hp2.2.1 e (List.mem_of_getElem? h1)
 rw[hp2.2.2.1]at this
 exact⟨e,h3,h1,h2.symm,this⟩
theorem set_tab{H:Hp}(h:HOk H)(hp:HPro H){T:Tab}(hT:TabOk H T)(f k o:Int)(x:ByteArray)(v:V3):TabOk (setH H o x v) (setT H T f k o x v):=by
 have hT':=hT.grows h (set_ok h o x v) (set_grows H o x v)
 unfold setT
 split
 ·exact hT'.miss
 ·rename_i h0
  split
  ·exact hT'.miss
  ·rename_i h1
   have hz:=hT'.has (Decidable.not_not.1 h1)
   split
   ·exact hT'.miss
   ·rename_i h2
    have hpl:=plays_is (Bool.not_eq_false _▸h2)
    split
    ·exact (hT'.put (plays_ok hz true x)).hit
    ·split
     ·rename_i h3
      refine (hT'.put (keep_ok (plays_ok hz true x) hpl.2.2.2.1 hpl.2.2.2.2.1 (fun hs=>?_) (fun _=>?_))).miss
      ·rw[hpl.2.1]at hs;cases hs
      ·rw[hpl.2.2.1]
       exact set_new h hp h0 h3.1 h3.2
     ·exact (hT'.put (plays_ok hz true x)).miss
theorem getT_n(H:Hp)(T:Tab)(f k o:Int)(x:ByteArray)(r:Option Ent):(getT H T f k o x r).fs=T.fs∧(getT H T f k o x r).n=T.n∧(getT H T f k o x r).hits≤T.hits+1∧(getT H T f k o x r).misses≤T.misses+1:=by
 unfold getT
 split
 ·exact⟨rfl,rfl,Nat.le_succ _,Nat.le_refl _⟩
 ·split
  ·exact⟨rfl,rfl,Nat.le_succ _,Nat.le_refl _⟩
  ·split
   ·exact⟨rfl,rfl,Nat.le_succ _,Nat.le_refl _⟩
   ·split
    ·split
     ·exact⟨rfl,rfl,Nat.le_refl _,Nat.le_succ _⟩
     ·exact⟨rfl,rfl,Nat.le_succ _,Nat.le_refl _⟩
    ·exact⟨rfl,rfl,Nat.le_succ _,Nat.le_refl _⟩
theorem setT_n(H:Hp)(T:Tab)(f k o:Int)(x:ByteArray)(v:V3):(setT H T f k o x v).fs=T.fs∧(setT H T f k o x v).n=T.n∧(setT H T f k o x v).hits≤T.hits+1∧(setT H T f k o x v).misses≤T.misses+1:=by
 unfold setT
 split
 ·exact⟨rfl,rfl,Nat.le_succ _,Nat.le_refl _⟩
 ·split
  ·exact⟨rfl,rfl,Nat.le_succ _,Nat.le_refl _⟩
  ·split
   ·exact⟨rfl,rfl,Nat.le_succ _,Nat.le_refl _⟩
   ·split
    ·exact⟨rfl,rfl,Nat.le_refl _,Nat.le_succ _⟩
    ·split
     ·exact⟨rfl,rfl,Nat.le_succ _,Nat.le_refl _⟩
     ·exact⟨rfl,rfl,Nat.le_succ _,Nat.le_refl _⟩
theorem lookR_total{H:Hp}(h:HOk H)(x:ByteArray):∀ p:Int,0≤p→∃ r,LookR H x p r:=by
 obtain⟨d,hd⟩:=h.up
 have key:∀ n:Nat,∀ p:Int,0≤p→d p.toNat≤n→∃ r,LookR H x p r:=by
  intro n
  induction n with
  |zero =>
   intro p hp hn
   by_cases h0:p=0
   ·subst h0;exact⟨_,.stop⟩
   by_cases hs:shapeV H p=0
   ·exact⟨_,.loose h0 hs⟩
   by_cases hk:0≤slotOf H (shapeV H p) x
   ·exact⟨_,.hit h0 hs hk⟩
   obtain⟨o,ho,_,_⟩:=shapeV_some hs
   have hpr:protoV H p=(o.proto:Int):=by unfold protoV;rw[ho]
   obtain⟨j,rfl,hj,hoj⟩:=obAt_some ho
   rcases hd j o hoj with h1|⟨_,h1⟩
   ·exact⟨_,.up h0 hs (by omega) (by rw[hpr,h1];exact .stop)⟩
   ·rw[Int.toNat_natCast]at hn;omega
  |succ n ih =>
   intro p hp hn
   by_cases h0:p=0
   ·subst h0;exact⟨_,.stop⟩
   by_cases hs:shapeV H p=0
   ·exact⟨_,.loose h0 hs⟩
   by_cases hk:0≤slotOf H (shapeV H p) x
   ·exact⟨_,.hit h0 hs hk⟩
   obtain⟨o,ho,_,_⟩:=shapeV_some hs
   have hpr:protoV H p=(o.proto:Int):=by unfold protoV;rw[ho]
   obtain⟨j,rfl,hj,hoj⟩:=obAt_some ho
   rcases hd j o hoj with h1|⟨_,h1⟩
   ·exact⟨_,.up h0 hs (by omega) (by rw[hpr,h1];exact .stop)⟩
   ·rw[Int.toNat_natCast]at hn
    obtain⟨r,hr⟩:=ih (protoV H ((j+1:Nat):Int)) (by rw[hpr];omega) (by rw[hpr,Int.toNat_natCast];omega)
    exact⟨_,.up h0 hs (by omega) hr⟩
 exact fun p hp=>key _ p hp (Nat.le_refl _)
theorem look_total{H:Hp}(h:HOk H)(x:ByteArray)(o:Int):∃ r,LookE H x o r:=by
 unfold LookE
 by_cases hk:0≤slotOf H (shapeV H o) x
 ·exact⟨_,by rw[if_pos hk]⟩
 ·have hp:0≤protoV H o:=by unfold protoV;split<;>omega
  obtain⟨r,hr⟩:=lookR_total h x _ hp
  exact⟨_,by rw[if_neg hk];exact⟨r,hr,rfl⟩⟩
def depC(d:Nat×Nat):List Value:=[.int .i64 (d.1:Int),.int .i64 (d.2:Int)]
def entC(e:Ent)(dl:Value):List Value:=[.int .i64 (e.shape:Int),.int .i64 e.holder,.int .i64 e.slot,.int .i64 (e.to:Int),dl]
def sitC(z:Sit)(sl:Value):List Value:=[.bool z.used,.bool z.sets,.bool z.mega,.string z.name,sl]
structure STy where
 tT:TypeId
 tA:TypeId
 tR:TypeId
 tE:TypeId
 tD:TypeId
 w:Nat
 sc:Sit→Value→List Value
 len:∀ z v,(sc z v).length=w
 tr:tT≠tR
 ar:tA≠tR
 er:tE≠tR
 dr:tD≠tR
 te:tT≠tE
 ae:tA≠tE
 de:tD≠tE
 at':tA≠tT
 dt:tD≠tT
section
theorem at_apart{b c:Nat}{cs ds:List Value}{t u:TypeId}{x y:Bool}(h1:s.at' b=some (.cells cs t x))(h2:s.at' c=some (.cells ds u y))(htu:t≠u):b≠c:=by
 intro e
 subst e
 rw[h1]at h2
 injection h2 with h2
 injection h2 with h3 h4 h5
 exact htu h4
def DepsAt(Y:STy)(s:St M)(O:Nat→Prop)(dl:Value)(ds:List (Nat×Nat)):Prop:=SlU Y.tD 2 s dl (rows (fun j=>depC (ds.getD j (0,0))) ds.length) ds.length∧(∀ q n c,dl = .slice (some q) n c→O q.block)∧(ds=[]→dl = .slice none 0 0)
def EntsAt(Y:STy)(s:St M)(O:Nat→Prop)(sl:Value)(es:List Ent):Prop:=∃ dl:Nat→Value,SlU Y.tE 5 s sl (rows (fun j=>entC (es.getD j e0) (dl j)) es.length) es.length∧(∀ q n c,sl = .slice (some q) n c→O q.block)∧(∀ j,j<es.length→DepsAt Y s O (dl j) (es.getD j e0).deps)∧(es=[]→sl = .slice none 0 0)
theorem DepsAt.same{Y:STy}{s':St M}{O O':Nat→Prop}{dl:Value}{ds:List (Nat×Nat)}(h:DepsAt Y s O dl ds)(hs:∀ b,O b→O' b∧s'.at' b=s.at' b):DepsAt Y s' O' dl ds:=⟨h.1.same fun q n c e=>(hs _ (h.2.1 q n c e)).2,fun q n c e=>(hs _ (h.2.1 q n c e)).1,h.2.2⟩
theorem EntsAt.same{Y:STy}{s':St M}{O O':Nat→Prop}{sl:Value}{es:List Ent}(h:EntsAt Y s O sl es)(hs:∀ b,O b→O' b∧s'.at' b=s.at' b):EntsAt Y s' O' sl es:=by
 obtain⟨dl,h1,h2,h3,h4⟩:=h
 exact⟨dl,h1.same fun q n c e=>(hs _ (h2 q n c e)).2,fun q n c e=>(hs _ (h2 q n c e)).1,fun j hj=>(h3 j hj).same hs,h4⟩
structure SAt(Y:STy)(lo:Nat)(s:St M)(t:Nat)(T:Tab)(N:Nat)(O:Nat→Prop)(al:Value)(rb cp:Nat→Nat)(sl:Nat→Nat→Value):Prop where
 own:∀ b,O b→lo≤b∧b<s.next
 pin:O t
 bl:s.at' t=some (.cells [al,.int .i64 (T.hits:Int),.int .i64 (T.misses:Int)] Y.tT true)
 cnt:T.hits≤N∧T.misses≤N
 all:SlU Y.tA 1 s al (rows (fun i=>[.slice (some ⟨rb i,0,none⟩) (T.n i) (cp i)]) T.fs) T.fs
 allO:∀ q n c,al = .slice (some q) n c→O q.block
 pinR:∀ i,i<T.fs→O (rb i)
 row:∀ i,i<T.fs→s.at' (rb i)=some (.cells (rows (fun j=>Y.sc (T.st i j) (sl i j)) (T.n i)) Y.tR true)
 inj:∀ i j,i<T.fs→j<T.fs→rb i=rb j→i=j
 es:∀ i j,i<T.fs→j<T.n i→EntsAt Y s O (sl i j) (T.st i j).es
 apart:∀ i j i' j' q n c q' n' c',i<T.fs→j<T.n i→i' < T.fs→j' < T.n i'→sl i j = .slice (some q) n c→sl i' j' = .slice (some q') n' c'→q.block=q'.block→i=i'∧j=j'
 small:T.fs≤100∧∀ i,i<T.fs→T.n i≤4000
def STab(Y:STy)(lo:Nat)(s:St M)(t:Nat)(T:Tab)(N:Nat)(O:Nat→Prop):Prop:=∃ al rb cp sl,SAt Y lo s t T N O al rb cp sl
variable {Y:STy}{lo t N:Nat}{T:Tab}{O:Nat→Prop}{al:Value}{rb cp:Nat→Nat}{sl:Nat→Nat→Value}
theorem SAt.same{s':St M}(h:SAt Y lo s t T N O al rb cp sl)(hn:s.next≤s'.next)(hs:∀ b,O b→s'.at' b=s.at' b):SAt Y lo s' t T N O al rb cp sl:=
 ⟨fun b hb=>⟨(h.own b hb).1,by have:=(h.own b hb).2;omega⟩,h.pin,by rw[hs _ h.pin];exact h.bl,h.cnt,h.all.same fun q n c e=>hs _ (h.allO q n c e),h.allO,h.pinR,fun i hi=>by rw[hs _ (h.pinR i hi)];exact h.row i hi,h.inj,fun i j hi hj=>(h.es i j hi hj).same fun b hb=>⟨hb,hs b hb⟩,h.apart,h.small⟩
theorem STab.same{s':St M}(h:STab Y lo s t T N O)(hn:s.next≤s'.next)(hs:∀ b,O b→s'.at' b=s.at' b):STab Y lo s' t T N O:=by
 obtain⟨al,rb,cp,sl,h⟩:=h
 exact⟨al,rb,cp,sl,h.same hn hs⟩
theorem SAt.le{s':St M}(h:SAt Y lo s t T N O al rb cp sl)(hs:s.le s'):SAt Y lo s' t T N O al rb cp sl:=h.same hs.1 fun b hb=>hs.2 b (h.own b hb).2
theorem STab.own(h:STab Y lo s t T N O):∀ b,O b→lo≤b∧b<s.next:=by
 obtain⟨al,rb,cp,sl,h⟩:=h
 exact h.own
theorem STab.le{s':St M}(h:STab Y lo s t T N O)(hs:s.le s'):STab Y lo s' t T N O:=h.same hs.1 fun b hb=>hs.2 b (h.own b hb).2
theorem STab.mono{N':Nat}(h:STab Y lo s t T N O)(hN:N≤N'):STab Y lo s t T N' O:=by
 obtain⟨al,rb,cp,sl,h⟩:=h
 exact⟨al,rb,cp,sl,{ h with cnt:=⟨by have:=h.cnt.1;omega,by have:=h.cnt.2;omega⟩ }⟩
theorem STab.low{lo':Nat}(h:STab Y lo s t T N O)(hl:lo'≤lo):STab Y lo' s t T N O:=by
 obtain⟨al,rb,cp,sl,h⟩:=h
 exact⟨al,rb,cp,sl,{ h with own:=fun b hb=>⟨by have:=(h.own b hb).1;omega,(h.own b hb).2⟩ }⟩
theorem STab.other{s':St M}{O1 O1':Nat→Prop}(h:STab Y lo s t T N O)(hU:Upd s s' O1 O1')(hd:∀ b,O1 b→¬ O b):STab Y lo s' t T N O∧∀ b,O1' b→¬ O b:=by
 refine⟨h.same hU.next fun c hc=>hU.keep c (h.own c hc).2 fun h1=>hd c h1 hc,fun b hb hO=>?_⟩
 rcases hU.own b hb with h1|h1
 ·exact hd b h1 hO
 ·have:=(h.own b hO).2;omega
theorem EntsAt.blk{es:List Ent}{v:Value}(h:EntsAt Y s O v es){q:Addr}{n c:Nat}(e:v = .slice (some q) n c):∃ cs,s.at' q.block=some (.cells cs Y.tE true)∧q=⟨q.block,0,none⟩:=by
 obtain⟨dl,h1,_,_⟩:=h
 rcases h1 with ⟨_,_,h1⟩|⟨b,junk,h1,h2,_⟩
 ·rw[h1]at e;cases e
 ·rw[h1]at e;cases e;exact⟨_,h2,rfl⟩
theorem EntsAt.keep{s':St M}{O':Nat→Prop}{es:List Ent}{v:Value}(h:EntsAt Y s O v es)(hO:∀ b,O b→O' b)(hs:∀ b cs ty,O b→s.at' b=some (.cells cs ty true)→(ty=Y.tD∨(ty=Y.tE∧∃ q n c,v = .slice (some q) n c∧q.block=b))→s'.at' b=s.at' b):EntsAt Y s' O' v es:=by
 obtain⟨dl,h1,h2,h3,h3n⟩:=h
 refine⟨dl,?_,fun q n c e=>hO _ (h2 q n c e),fun j hj=>⟨?_,fun q n c e=>hO _ ((h3 j hj).2.1 q n c e),(h3 j hj).2.2⟩,h3n⟩
 ·rcases h1 with h1|⟨b,junk,g1,g2,g3⟩
  ·exact .inl h1
  ·exact .inr ⟨b,junk,g1,(hs b _ _ (h2 _ _ _ g1) g2 (.inr ⟨rfl,_,_,_,g1,rfl⟩)).trans g2,g3⟩
 ·obtain⟨h4,h5,_⟩:=h3 j hj
  rcases h4 with h4|⟨b,junk,g1,g2,g3⟩
  ·exact .inl h4
  ·exact .inr ⟨b,junk,g1,(hs b _ _ (h5 _ _ _ g1) g2 (.inl rfl)).trans g2,g3⟩
theorem SAt.set{s':St M}{O':Nat→Prop}(h:SAt Y lo s t T N O al rb cp sl){i j:Nat}{z':Sit}{v':Value}(hi:i<T.fs)(hj:j<T.n i)(hn:s.next≤s'.next)(hO:∀ b,O b→O' b)(hO':∀ b,O' b→lo≤b∧b<s'.next)
  (hrow:s'.at' (rb i)=some (.cells (rows (fun m=>if m=j then Y.sc z' v' else Y.sc (T.st i m) (sl i m)) (T.n i)) Y.tR true))
  (hkeep:∀ b,O b→b≠rb i→(∀ q n c,sl i j = .slice (some q) n c→b≠q.block)→s'.at' b=s.at' b)(hes:EntsAt Y s' O' v' z'.es)
  (hap:∀ q n c,v' = .slice (some q) n c→(∃ q0 n0 c0,sl i j = .slice (some q0) n0 c0∧q.block=q0.block)∨s.next≤q.block) :
  SAt Y lo s' t (putT T i j z') N O' al rb cp (fun a b=>if a=i∧b=j then v' else sl a b):=by
 have hrb:=h.row i hi
 have hold:∀ b cs ty,O b→s.at' b=some (.cells cs ty true)→ty≠Y.tR→ty≠Y.tE→s'.at' b=s.at' b:=fun b cs ty hb h1 h2 h3=>hkeep b hb (at_apart h1 hrb h2) fun q n c e=>by
  obtain⟨cs2,h4,_⟩:=(h.es i j hi hj).blk e
  exact at_apart h1 h4 h3
 have hst:∀ a b,(putT T i j z').st a b=if a=i∧b=j then z' else T.st a b:=fun a b=>by
  show (if a=(i:Int).toNat∧b=(j:Int).toNat then z' else T.st a b)=_
  rw[Int.toNat_natCast,Int.toNat_natCast]
 have hall:SlU Y.tA 1 s' al (rows (fun i=>[.slice (some ⟨rb i,0,none⟩) (T.n i) (cp i)]) T.fs) T.fs:=by
  rcases h.all with h1|⟨b,junk,g1,g2,g3⟩
  ·exact .inl h1
  ·exact .inr ⟨b,junk,g1,(hold _ _ _ (h.allO _ _ _ g1) g2 Y.ar Y.ae).trans g2,g3⟩
 refine⟨hO',hO _ h.pin,(hold _ _ _ h.pin h.bl Y.tr Y.te).trans h.bl,h.cnt,hall,fun q n c e=>hO _ (h.allO q n c e),fun a ha=>hO _ (h.pinR a ha),fun a ha2=>?_,h.inj,fun a b ha2 hb2=>?_,fun a b a' b' q n c q' n' c' h1 h2 h3 h4 e1 e2 eb=>?_,h.small⟩
 ·by_cases e:a=i
  ·subst e
   rw[hrow]
   congr 2
   refine rows_congr fun m hm=>?_
   show (if m=j then Y.sc z' v' else Y.sc (T.st a m) (sl a m))=Y.sc ((putT T a j z').st a m) (if a=a∧m=j then v' else sl a m)
   rw[hst]
   by_cases em:m=j
   ·rw[if_pos em,if_pos ⟨rfl,em⟩,if_pos ⟨rfl,em⟩]
   ·rw[if_neg em,if_neg (fun hc=>em hc.2),if_neg (fun hc=>em hc.2)]
  ·have hr:=h.row a ha2
   have hra:rb a≠rb i:=fun hc=>e (h.inj a i ha2 hi hc)
   have:s'.at' (rb a)=s.at' (rb a):=hkeep _ (h.pinR a ha2) hra fun q n c e2=>by
    obtain⟨cs2,h4,_⟩:=(h.es i j hi hj).blk e2
    exact at_apart hr h4 (fun e=>Y.er e.symm)
   rw[this,hr]
   congr 2
   refine rows_congr fun m hm=>?_
   show Y.sc (T.st a m) (sl a m)=Y.sc ((putT T i j z').st a m) (if a=i∧m=j then v' else sl a m)
   rw[hst,if_neg (fun hc=>e hc.1),if_neg (fun hc=>e hc.1)]
 ·show EntsAt Y s' O' (if a=i∧b=j then v' else sl a b) ((putT T i j z').st a b).es
  rw[hst]
  by_cases e:a=i∧b=j
  ·rw[if_pos e,if_pos e];exact hes
  ·rw[if_neg e,if_neg e]
   refine (h.es a b ha2 hb2).keep hO fun b2 cs ty h1 h2 h3=>?_
   rcases h3 with rfl|⟨rfl,q,n,c,h4,h5⟩
   ·exact hold _ _ _ h1 h2 Y.dr Y.de
   ·refine hkeep _ h1 (at_apart h2 hrb Y.er) fun q0 n0 c0 e0 hc=>?_
    have:=h.apart a b i j q n c q0 n0 c0 ha2 hb2 hi hj h4 e0 (by rw[h5,hc])
    exact e this
 ·have key:∀ a b q n c q' n' c',a<T.fs→b<T.n a→¬ (a=i∧b=j)→sl a b = .slice (some q) n c→v' = .slice (some q') n' c'→q.block≠q'.block:=fun a b q n c q' n' c' g1 g2 g3 g4 g5 g6=>by
   rcases hap q' n' c' g5 with ⟨q0,n0,c0,g7,g8⟩|g7
   ·exact g3 (h.apart a b i j q n c q0 n0 c0 g1 g2 hi hj g4 g7 (g6.trans g8))
   ·obtain⟨dl,_,g9,_⟩:=h.es a b g1 g2
    have:=(h.own _ (g9 _ _ _ g4)).2
    omega
  have e1:(if a=i∧b=j then v' else sl a b) = .slice (some q) n c:=e1
  have e2:(if a'=i∧b'=j then v' else sl a' b') = .slice (some q') n' c':=e2
  by_cases c1:a=i∧b=j
  ·by_cases c2:a'=i∧b'=j
   ·exact⟨by rw[c1.1,c2.1],by rw[c1.2,c2.2]⟩
   ·rw[if_pos c1]at e1
    rw[if_neg c2]at e2
    exact absurd eb.symm (key a' b' _ _ _ _ _ _ h3 h4 c2 e2 e1)
  ·by_cases c2:a'=i∧b'=j
   ·rw[if_neg c1]at e1
    rw[if_pos c2]at e2
    exact absurd eb (key a b _ _ _ _ _ _ h1 h2 c1 e1 e2)
   ·rw[if_neg c1]at e1
    rw[if_neg c2]at e2
    exact h.apart a b a' b' _ _ _ _ _ _ h1 h2 h3 h4 e1 e2 eb
theorem SAt.count{s':St M}{T':Tab}{N':Nat}(h:SAt Y lo s t T N O al rb cp sl)(hT:T'.fs=T.fs∧T'.n=T.n∧T'.st=T.st)(hc:T'.hits≤N'∧T'.misses≤N')(hn:s'.next=s.next)(hb:s'.at' t=some (.cells [al,.int .i64 (T'.hits:Int),.int .i64 (T'.misses:Int)] Y.tT true))(hk:∀ b,b≠t→s'.at' b=s.at' b):SAt Y lo s' t T' N' O al rb cp sl:=by
 obtain⟨fs,n,st,hits,misses⟩:=T'
 obtain⟨rfl,rfl,rfl⟩:=hT
 have hd:∀ b cs ty,s.at' b=some (.cells cs ty true)→ty≠Y.tT→s'.at' b=s.at' b:=fun b cs ty h1 h2=>hk b (at_apart h1 h.bl h2)
 have hall:SlU Y.tA 1 s' al (rows (fun i=>[.slice (some ⟨rb i,0,none⟩) (T.n i) (cp i)]) T.fs) T.fs:=by
  rcases h.all with h1|⟨b,junk,g1,g2,g3⟩
  ·exact .inl h1
  ·exact .inr ⟨b,junk,g1,(hd _ _ _ g2 Y.at').trans g2,g3⟩
 exact⟨fun b hb=>⟨(h.own b hb).1,by have:=(h.own b hb).2;omega⟩,h.pin,hb,hc,hall,h.allO,h.pinR,fun i hi=>(hd _ _ _ (h.row i hi) (fun e=>Y.tr e.symm)).trans (h.row i hi),h.inj,fun i j hi hj=>(h.es i j hi hj).keep (fun _ h=>h) fun b cs ty h1 h2 h3=>hd b cs ty h2 (by rcases h3 with rfl|⟨rfl,_⟩;exact Y.dt;exact fun e=>Y.te e.symm),h.apart,h.small⟩
end
theorem rows_get0{c:Nat→List Value}{k:Nat}(hc:∀ i,(c i).length=k){n i j:Nat}(hi:i<n)(hj:j<k):(rows c n)[i*k+j]?=(c i)[j]?:=by
 have:=rows_get hc [] hi hj
 simpa using this
theorem rows_set0{c d:Nat→List Value}{k:Nat}(hc:∀ i,(c i).length=k)(hd:∀ i,(d i).length=k){n i j:Nat}{v:Value}(hi:i<n)(hj:j<k)(he:∀ m,m≠i→d m=c m)(hs:d i=(c i).set j v) :
  (rows c n).set (i*k+j) v=rows d n:=by
 have:=rows_set hc hd [] hi hj he hs
 simpa using this
theorem nsA{x y:Operand}:cbin prog .eql 82 x y (.slice none 0 0) (.slice none 0 0)=some (.bool true):=by kernel_rfl
theorem nsB{x y:Operand}{a:Addr}{n c:Nat}:cbin prog .eql 82 x y (.slice (some a) n c) (.slice none 0 0)=some (.bool false):=by kernel_rfl
theorem nsC{x y:Operand}:cbin prog .eql 42 x y (.slice none 0 0) (.slice none 0 0)=some (.bool true):=by kernel_rfl
theorem nsD{x y:Operand}{a:Addr}{n c:Nat}:cbin prog .eql 42 x y (.slice (some a) n c) (.slice none 0 0)=some (.bool false):=by kernel_rfl
theorem nsE{x y:Operand}:cbin prog .eql 49 x y (.slice none 0 0) (.slice none 0 0)=some (.bool true):=by kernel_rfl
theorem nsF{x y:Operand}{a:Addr}{n c:Nat}:cbin prog .eql 49 x y (.slice (some a) n c) (.slice none 0 0)=some (.bool false):=by kernel_rfl
theorem bbA:(false == true)=false:=rfl
theorem bbB:(true == false)=false:=rfl
theorem bbC:(false == false)=true:=rfl
theorem bbD:(true == true)=true:=rfl
def STx:=(And.intro (And.intro (And.intro (And.intro (And.intro (And.intro (And.intro @underlying84 @sz84) (And.intro @is84 @ce84)) (And.intro (And.intro @ag84 @ze84) (And.intro @fa84x0 @fa84x1))) (And.intro (And.intro (And.intro @fa84x2 @underlying29) (And.intro @sz29 @is29)) (And.intro (And.intro @ce29 @ag29) (And.intro @ze29 @nt29)))) (And.intro (And.intro (And.intro (And.intro @nn29 @nf29) (And.intro @ng29 @underlying96)) (And.intro (And.intro @sz96 @is96) (And.intro @ce96 @ag96))) (And.intro (And.intro (And.intro @ze96 @fa96x0) (And.intro @fa96x1 @fa96x2)) (And.intro (And.intro @fa96x3 @fa96x4) (And.intro @underlying93 (And.intro @sz93 @is93)))))) (And.intro (And.intro (And.intro (And.intro (And.intro @ce93 @ag93) (And.intro @ze93 @nt93)) (And.intro (And.intro @nn93 @nf93) (And.intro @ng93 @underlying85))) (And.intro (And.intro (And.intro @sz85 @is85) (And.intro @ce85 @ag85)) (And.intro (And.intro @ze85 @underlying82) (And.intro @sz82 @is82)))) (And.intro (And.intro (And.intro (And.intro @ce82 @ag82) (And.intro @ze82 @underlying51)) (And.intro (And.intro @sz51 @is51) (And.intro @ce51 @ag51))) (And.intro (And.intro (And.intro @ze51 @fa51x0) (And.intro @fa51x1 @fa51x2)) (And.intro (And.intro @fa51x3 @fa51x4) (And.intro @underlying121 (And.intro @sz121 @is121))))))) (And.intro (And.intro (And.intro (And.intro (And.intro (And.intro @ce121 @ag121) (And.intro @ze121 @nt121)) (And.intro (And.intro @nn121 @nf121) (And.intro @ng121 @underlying42))) (And.intro (And.intro (And.intro @sz42 @is42) (And.intro @ce42 @ag42)) (And.intro (And.intro @ze42 @underlying99) (And.intro @sz99 @is99)))) (And.intro (And.intro (And.intro (And.intro @ce99 @ag99) (And.intro @ze99 @fa99x0)) (And.intro (And.intro @fa99x1 @underlying49) (And.intro @sz49 @is49))) (And.intro (And.intro (And.intro @ce49 @ag49) (And.intro @ze49 @underlying125)) (And.intro (And.intro @sz125 @is125) (And.intro @ce125 (And.intro @ag125 @underlying200)))))) (And.intro (And.intro (And.intro (And.intro (And.intro @sz200 @is200) (And.intro @ce200 @ag200)) (And.intro (And.intro @underlying43 @sz43) (And.intro @is43 @ce43))) (And.intro (And.intro (And.intro @ag43 @underlying157) (And.intro @sz157 @is157)) (And.intro (And.intro @ce157 @ag157) (And.intro @underlying149 (And.intro @sz149 @is149))))) (And.intro (And.intro (And.intro (And.intro @ce149 @ag149) (And.intro @underlying86 @sz86)) (And.intro (And.intro @is86 @ce86) (And.intro @ag86 @nsA))) (And.intro (And.intro (And.intro @nsB @nsC) (And.intro @nsD @nsE)) (And.intro (And.intro @nsF @bbA) (And.intro @bbB (And.intro @bbC @bbD))))))))
def PY:STy:=⟨84,85,96,51,99,5,sitC,fun _ _=>rfl,by decide,by decide,by decide,by decide,by decide,by decide,by decide,by decide,by decide⟩
section
variable {lo t N:Nat}{T:Tab}{O:Nat→Prop}{al:Value}{rb cp:Nat→Nat}{sl:Nat→Nat→Value}
theorem sdead_spec(h:SAt PY lo s t T N O al rb cp sl)(hfs:0<T.fs)(hR:R (.bool false) s):QC prog w0 51 #[.pointer (some ⟨t,0,none⟩)] s R:=by
 refine wfun2 hmix ok51 func51 rfl ntmps51 results51 (by simp) ?_
 have hb:s.at' t=some (.cells [al,.int .i64 (T.hits:Int),.int .i64 (T.misses:Int)] 84 true):=h.bl
 rcases h.all with ⟨h0,_,rfl⟩|⟨b0,junk,rfl,ha,_⟩
 ·omega
 ·simp -implicitDefEqProofs only[↓Zd,(Zp),simprocAttr,cld2,(STx),hb]
  exact hR
theorem sfind_spec(h:SAt PY lo s t T N O al rb cp sl)(hfs:0<T.fs){f k:Int}(hno:¬ hasT T f k→R (.pointer none) s)(hyes:∀ i j:Nat,f=(i:Int)→k=(j:Int)→i<T.fs→j<T.n i→hasT T f k→R (.pointer (some ⟨rb i,j*5,none⟩)) s) :
  QC prog w0 36 #[.pointer (some ⟨t,0,none⟩),.int .i64 f,.int .i64 k] s R:=by
 refine wfun2 hmix ok36 func36 rfl ntmps36 results36 (by simp) ?_
 simp -implicitDefEqProofs only[↓Zd,(Zp),simprocAttr,co51]
 refine sdead_spec h hfs ?_
 by_cases f1:f<0
 ·simp -implicitDefEqProofs only[↓Zd,(Zp),simprocAttr,(HEx),f1]
  exact hno fun hc=>by have:=hc.1;omega
 have hb:s.at' t=some (.cells [al,.int .i64 (T.hits:Int),.int .i64 (T.misses:Int)] 84 true):=h.bl
 rcases h.all with ⟨h0,_,rfl⟩|⟨b0,junk,rfl,ha,_⟩
 ·exact absurd h0 (by omega)
 have ha:s.at' b0=some (.cells (rows (fun i=>[.slice (some ⟨rb i,0,none⟩) (T.n i) (cp i)]) T.fs++junk) 85 true):=ha
 by_cases f2:(T.fs:Int)≤f
 ·simp -implicitDefEqProofs only[↓Zd,(Zp),simprocAttr,cld2,(HEx),(STx),hb,f1,f2]
  exact hno fun hc=>by have:=hc.2.1;omega
 by_cases k1:k<0
 ·simp -implicitDefEqProofs only[↓Zd,(Zp),simprocAttr,cld2,(HEx),(STx),hb,f1,f2,k1]
  exact hno fun hc=>by have:=hc.2.2.1;omega
 obtain⟨i,rfl⟩:∃ i:Nat,f=(i:Int):=⟨f.toNat,by omega⟩
 obtain⟨j,rfl⟩:∃ j:Nat,k=(j:Int):=⟨k.toNat,by omega⟩
 have hi:i<T.fs:=by omega
 have hii:(0:Int)≤(i:Int)∧(i:Int)<(T.fs:Int):=by omega
 have hg:=rows_get (c:=fun i=>[.slice (some ⟨rb i,0,none⟩) (T.n i) (cp i)]) (k:=1) (fun _=>rfl) (j:=0) junk hi (by omega)
 simp only[Nat.mul_one,Nat.add_zero,List.getElem?_cons_zero]at hg
 by_cases k2:(T.n i:Int)≤(j:Int)
 ·simp -implicitDefEqProofs only[↓Zd,(Zp),simprocAttr,cld2,(HEx),(STx),hb,f1,f2,k1,k2,hii,ha,hg,Nat.add_zero]
  exact hno fun hc=>by have:=hc.2.2.2;rw[Int.toNat_natCast]at this;omega
 ·have hj:j<T.n i:=by omega
  have hjj:(0:Int)≤(j:Int)∧(j:Int)<(T.n i:Int):=by omega
  simp -implicitDefEqProofs only[↓Zd,(Zp),simprocAttr,cld2,(HEx),(STx),hb,f1,f2,k1,k2,hii,hjj,ha,hg,Nat.add_zero]
  exact hyes i j rfl rfl hi hj ⟨by omega,by omega,by omega,by rw[Int.toNat_natCast];omega⟩
theorem splays0_spec{w:Bool}{x:ByteArray}(hR:R (.bool false) s):QC prog w0 52 #[.pointer none,.bool w,.string x] s R:=by
 refine wfun2 hmix ok52 func52 rfl ntmps52 results52 (by simp) ?_
 simp -implicitDefEqProofs only[↓Zd,(Zp),simprocAttr,(STx)]
 exact hR
theorem splays_spec{b n j:Nat}{c:Nat→List Value}{z:Sit}{v:Value}{w:Bool}{x:ByteArray}(hb:s.at' b=some (.cells (rows c n) 96 true))(hc:∀ i,(c i).length=5)(hj:j<n)(hcj:c j=sitC z v)
  (hR:∀ s',s'.next=s.next→s'.at' b=some (.cells (rows (fun m=>if m=j then sitC (if z.mega then z else playsS z w x) v else c m) n) 96 true)→(∀ a,a≠b→s'.at' a=s.at' a)→R (.bool (playsB z w x)) s') :
  QC prog w0 52 #[.pointer (some ⟨b,j*5,none⟩),.bool w,.string x] s R:=by
 refine wfun2 hmix ok52 func52 rfl ntmps52 results52 (by simp) ?_
 have g0:=rows_get0 hc hj (j:=0) (by omega)
 have g1:=rows_get0 hc hj (j:=1) (by omega)
 have g2:=rows_get0 hc hj (j:=2) (by omega)
 have g3:=rows_get0 hc hj (j:=3) (by omega)
 rw[hcj]at g0 g1 g2 g3
 simp only[sitC,List.getElem?_cons_zero,List.getElem?_cons_succ,Nat.add_zero]at g0 g1 g2 g3
 have hself:(fun m=>if m=j then sitC z v else c m)=c:=by
  funext m
  split
  ·rename_i e;rw[e,hcj]
  ·rfl
 obtain⟨zu,zs,zm,zn,ze⟩:=z
 cases zm with
 |true =>
  have hR2:=hR s rfl (by simp only[if_true,hself];exact hb) (fun _ _=>rfl)
  unfold playsB at hR2
  simp -implicitDefEqProofs only[↓Zd,(Zp),simprocAttr,cld2,(HEx),(STx),hb,g2]
  exact hR2
 |false =>
  cases zu with
  |true =>
   have hR2:=hR s rfl (by simp only[playsS,if_true,Bool.false_eq_true,if_false,hself];exact hb) (fun _ _=>rfl)
   unfold playsB at hR2
   simp only[Bool.false_eq_true,if_false,if_true]at hR2
   by_cases e2:zn=x
   ·subst e2
    simp only[decide_true,Bool.and_true]at hR2
    cases zs<;>cases w <;>
    ·simp only[reduceCtorEq,decide_true,decide_false]at hR2
     simp -implicitDefEqProofs only[↓Zd,(Zp),simprocAttr,cld2,(HEx),(STx),hb,g0,g1,g2,g3,Nat.add_zero]
     exact hR2
   ·simp only[e2,decide_false,Bool.and_false]at hR2
    cases zs<;>cases w <;>
    ·simp -implicitDefEqProofs only[↓Zd,(Zp),simprocAttr,cld2,(HEx),(STx),hb,g0,g1,g2,g3,e2,Nat.add_zero]
     exact hR2
  |false =>
   have e1:=rows_set0 (k:=5) (c:=c) (d:=fun m=>if m=j then [.bool true,.bool zs,.bool false,.string zn,v] else c m) (j:=0) (v := .bool true) hc (fun i=>by (try dsimp only);split;rfl;exact hc i) hj (by omega) (fun m hm=>if_neg hm) (by (try dsimp only);rw[if_pos rfl,hcj];rfl)
   have e2:=rows_set0 (k:=5) (c:=fun m=>if m=j then [.bool true,.bool zs,.bool false,.string zn,v] else c m) (d:=fun m=>if m=j then [.bool true,.bool w,.bool false,.string zn,v] else c m) (j:=1) (v := .bool w) (fun i=>by (try dsimp only);split;rfl;exact hc i) (fun i=>by (try dsimp only);split;rfl;exact hc i) hj (by omega) (fun m hm=>by (try dsimp only);rw[if_neg hm,if_neg hm]) (by (try dsimp only);rw[if_pos rfl,if_pos rfl];rfl)
   have e3:=rows_set0 (k:=5) (c:=fun m=>if m=j then [.bool true,.bool w,.bool false,.string zn,v] else c m) (d:=fun m=>if m=j then [.bool true,.bool w,.bool false,.string x,v] else c m) (j:=3) (v := .string x) (fun i=>by (try dsimp only);split;rfl;exact hc i) (fun i=>by (try dsimp only);split;rfl;exact hc i) hj (by omega) (fun m hm=>by (try dsimp only);rw[if_neg hm,if_neg hm]) (by (try dsimp only);rw[if_pos rfl,if_pos rfl];rfl)
   have k1:=rows_get0 (k:=5) (c:=fun m=>if m=j then [.bool true,.bool w,.bool false,.string x,v] else c m) (fun i=>by (try dsimp only);split;rfl;exact hc i) hj (j:=1) (by omega)
   have k3:=rows_get0 (k:=5) (c:=fun m=>if m=j then [.bool true,.bool w,.bool false,.string x,v] else c m) (fun i=>by (try dsimp only);split;rfl;exact hc i) hj (j:=3) (by omega)
   simp only[if_true,List.getElem?_cons_zero,List.getElem?_cons_succ]at k1 k3
   have l0:=rows_len hc n
   have l1:=rows_len (c:=fun m=>if m=j then [.bool true,.bool zs,.bool false,.string zn,v] else c m) (k:=5) (fun i=>by (try dsimp only);split;rfl;exact hc i) n
   have l2:=rows_len (c:=fun m=>if m=j then [.bool true,.bool w,.bool false,.string zn,v] else c m) (k:=5) (fun i=>by (try dsimp only);split;rfl;exact hc i) n
   have m0:j*5+1≤n*5:=by omega
   have m1:j*5+2≤n*5:=by omega
   have m2:j*5+4≤n*5:=by omega
   rw[Nat.add_zero]at e1
   have hR2:∀ s',s'.next=s.next→s'.at' b=some (.cells (rows (fun m=>if m=j then [.bool true,.bool w,.bool false,.string x,v] else c m) n) 96 true)→(∀ a,a≠b→s'.at' a=s.at' a)→R (.bool true) s':=fun s' h1 h2 h3=>by
    have:=hR s' h1 (by simp only[playsS,Bool.false_eq_true,if_false,sitC];exact h2) h3
    simpa [playsB] using this
   cases w <;>
   ·simp -implicitDefEqProofs only[↓Zd,(Zp),simprocAttr,qP,Value.cells,qC,cld2,(HEx),(STx),hb,g0,g2,e1,e2,e3,k1,k3,l0,l1,l2,m0,m1,m2,Nat.add_zero]
    refine hR2 _ rfl ?_ fun a ha=>?_
    ·rw[St.at_put,if_pos rfl]
    ·rw[St.at_put,if_neg ha,St.at_put,if_neg ha,St.at_put,if_neg ha]
end
section
variable {lo t N:Nat}{T:Tab}{O:Nat→Prop}{al:Value}{rb cp:Nat→Nat}{sl:Nat→Nat→Value}
theorem infoEnt:∃ ie,prog.info? 51=some ie∧ie.size=5∧0<ie.bytes∧ie.bytes≤100:=by
 obtain⟨ie,h⟩:=Option.isSome_iff_exists.1 is51
 have h1:=ce51
 have h2:decide (0<prog.bytesOf 51∧prog.bytesOf 51≤100)=true:=by kernel_rfl
 rw[cellsOf_info h]at h1
 simp only[Program.bytesOf,h,decide_eq_true_eq]at h2
 exact⟨ie,h,h1,h2.1,h2.2⟩
theorem appEnt{sl:Value}{cs new:List Value}{k:Nat}(hnew:new.length=5)(hok:new.all qC=true)(hlen:k≤1000000)(hsl:SlU 51 5 s sl cs k)(hfr:∀ q m c,sl = .slice (some q) m c→q.block<s.next) :
  ∃ s',capp prog #[42,42] #[sl,.slice (some ⟨s.next,0,none⟩) 1 1] (s.new (.cells new 51 true))=some (.slice (some ⟨s.next+1,0,none⟩) (k+1) UNK,s')∧s'.next=s.next+2 ∧
   s'.at' (s.next+1)=some (.cells (cs++new) 51 true)∧(∀ b,b<s.next→(∀ q n c,sl = .slice (some q) n c→b≠q.block)→s'.at' b=s.at' b):=by
 obtain⟨ie,hie,h1,h2,h3⟩:=infoEnt
 have hcapp:capp prog #[42,42] #[sl,.slice (some ⟨s.next,0,none⟩) 1 1] (s.new (.cells new 51 true))=capp3 prog 51 ie sl (s.new (.cells new 51 true)) (cmore ie.size (.slice (some ⟨s.next,0,none⟩) 1 1) (s.new (.cells new 51 true))):=
  app_eq underlying42 underlying42 hie
 have hv:cmore ie.size (.slice (some ⟨s.next,0,none⟩) 1 1) (s.new (.cells new 51 true))=some (1,new):=by
  simp only[more_at,St.at_new,if_true,more2,h1]
  rw[cut_all (by omega)];rfl
 obtain⟨s',h3,h4,h5,h6⟩:=app_rowU (n:=k) (k:=1) hie ze51 (by rw[h1];rfl) h2 hcapp (by omega) (by
  have:(k+1)*ie.bytes≤1000001*100:=Nat.mul_le_mul (by omega) h3
  omega) hok hv (by rw[h1];exact hsl.same fun q m c e=>by rw[St.at_new,if_neg (by have:=hfr q m c e;omega)])
 refine⟨s',by simpa using h3,by simp at h4;omega,h5,fun b hb hq=>?_⟩
 rw[h6 b (by simp;omega) hq,St.at_new,if_neg (by omega)]
theorem wch_appEnt{sl:Value}{cs new:List Value}{k:Nat}{K:Value→St M→Prop}(hnew:new.length=5)(hok:new.all qC=true)(hlen:k≤1000000)(hsl:SlU 51 5 s sl cs k)(hfr:∀ q m c,sl = .slice (some q) m c→q.block<s.next)
  (h:∀ s',s'.next=s.next+2→s'.at' (s.next+1)=some (.cells (cs++new) 51 true)→(∀ b,b<s.next→(∀ q n c,sl = .slice (some q) n c→b≠q.block)→s'.at' b=s.at' b)→K (.slice (some ⟨s.next+1,0,none⟩) (k+1) UNK) s') :
  wch (capp prog #[42,42] #[sl,.slice (some ⟨s.next,0,none⟩) 1 1] (s.new (.cells new 51 true))) K:=by
 obtain⟨s',h1,h2,h3,h4⟩:=appEnt hnew hok hlen hsl hfr
 exact⟨_,_,h1,h s' h2 h3 h4⟩
theorem clEnt{b:Nat}{cs junk:List Value}{n:Nat}{K:Value→St M→Prop}(hn:n≠0)(hlen:n≤1000000)(hok:cs.all qC=true)(hb:s.at' b=some (.cells (cs++junk) 51 true))(hbn:b<s.next)(hcs:cs.length=n*5)
  (h:∀ s',s'.next=s.next+2→s'.at' (s.next+1)=some (.cells cs 51 true)→(∀ b,b<s.next→s'.at' b=s.at' b)→K (.slice (some ⟨s.next+1,0,none⟩) n UNK) s') :
  wch (capp prog #[42,42] #[.slice (some ⟨s.next,0,none⟩) 0 0,.slice (some ⟨b,0,none⟩) n UNK] (s.new (.cells [] 51 true))) K:=by
 obtain⟨ie,hie,h1,h2,h3⟩:=infoEnt
 have hcapp:capp prog #[42,42] #[.slice (some ⟨s.next,0,none⟩) 0 0,.slice (some ⟨b,0,none⟩) n UNK] (s.new (.cells [] 51 true))=capp3 prog 51 ie (.slice (some ⟨s.next,0,none⟩) 0 0) (s.new (.cells [] 51 true)) (cmore ie.size (.slice (some ⟨b,0,none⟩) n UNK) (s.new (.cells [] 51 true))):=
  app_eq underlying42 underlying42 hie
 have hv:cmore ie.size (.slice (some ⟨b,0,none⟩) n UNK) (s.new (.cells [] 51 true))=some (n,cs):=by
  simp only[more_at,St.at_new,if_neg (show ¬ b=s.next by omega),hb,more2,h1]
  have:cut (cs++junk) 0 (n*5)=some cs:=by
   unfold cut
   rw[if_pos (by rw[List.length_append];omega),List.drop_zero,← hcs,List.take_left']
   rfl
  rw[this];rfl
 obtain⟨s',h3,h4,h5,h6⟩:=app_row (n:=0) (k:=n) (old:=[]) hie ze51 (by rw[h1];rfl) h2 hcapp hn (by
  have:(0+n)*ie.bytes≤1000000*100:=Nat.mul_le_mul (by omega) h3
  omega) hok hv (.inr ⟨s.next,0,rfl,.inr ⟨rfl,by decide⟩,by rw[St.at_new,if_pos rfl],by simp⟩)
 refine⟨_,s',h3,?_⟩
 rw[Nat.zero_add]
 refine h s' (by simp at h4;omega) h5 fun c hc=>?_
 rw[h6 c (by simp;omega) (fun q m c' e=>by cases e;simp;omega),St.at_new,if_neg (by omega)]
theorem infoDep:∃ ie,prog.info? 99=some ie∧ie.size=2∧0<ie.bytes∧ie.bytes≤100:=by
 obtain⟨ie,h⟩:=Option.isSome_iff_exists.1 is99
 have h1:=ce99
 have h2:decide (0<prog.bytesOf 99∧prog.bytesOf 99≤100)=true:=by kernel_rfl
 rw[cellsOf_info h]at h1
 simp only[Program.bytesOf,h,decide_eq_true_eq]at h2
 exact⟨ie,h,h1,h2.1,h2.2⟩
theorem appDep{sl:Value}{cs new:List Value}{k:Nat}(hnew:new.length=2)(hok:new.all qC=true)(hlen:k≤1000000)(hsl:SlU 99 2 s sl cs k)(hfr:∀ q m c,sl = .slice (some q) m c→q.block<s.next) :
  ∃ s',capp prog #[49,49] #[sl,.slice (some ⟨s.next,0,none⟩) 1 1] (s.new (.cells new 99 true))=some (.slice (some ⟨s.next+1,0,none⟩) (k+1) UNK,s')∧s'.next=s.next+2 ∧
   s'.at' (s.next+1)=some (.cells (cs++new) 99 true)∧(∀ b,b<s.next→(∀ q n c,sl = .slice (some q) n c→b≠q.block)→s'.at' b=s.at' b):=by
 obtain⟨ie,hie,h1,h2,h3⟩:=infoDep
 have hcapp:capp prog #[49,49] #[sl,.slice (some ⟨s.next,0,none⟩) 1 1] (s.new (.cells new 99 true))=capp3 prog 99 ie sl (s.new (.cells new 99 true)) (cmore ie.size (.slice (some ⟨s.next,0,none⟩) 1 1) (s.new (.cells new 99 true))):=
  app_eq underlying49 underlying49 hie
 have hv:cmore ie.size (.slice (some ⟨s.next,0,none⟩) 1 1) (s.new (.cells new 99 true))=some (1,new):=by
  simp only[more_at,St.at_new,if_true,more2,h1]
  rw[cut_all (by omega)];rfl
 obtain⟨s',h3,h4,h5,h6⟩:=app_rowU (n:=k) (k:=1) hie ze99 (by rw[h1];rfl) h2 hcapp (by omega) (by
  have:(k+1)*ie.bytes≤1000001*100:=Nat.mul_le_mul (by omega) h3
  omega) hok hv (by rw[h1];exact hsl.same fun q m c e=>by rw[St.at_new,if_neg (by have:=hfr q m c e;omega)])
 refine⟨s',by simpa using h3,by simp at h4;omega,h5,fun b hb hq=>?_⟩
 rw[h6 b (by simp;omega) hq,St.at_new,if_neg (by omega)]
theorem wch_appDep{sl:Value}{cs new:List Value}{k:Nat}{K:Value→St M→Prop}(hnew:new.length=2)(hok:new.all qC=true)(hlen:k≤1000000)(hsl:SlU 99 2 s sl cs k)(hfr:∀ q m c,sl = .slice (some q) m c→q.block<s.next)
  (h:∀ s',s'.next=s.next+2→s'.at' (s.next+1)=some (.cells (cs++new) 99 true)→(∀ b,b<s.next→(∀ q n c,sl = .slice (some q) n c→b≠q.block)→s'.at' b=s.at' b)→K (.slice (some ⟨s.next+1,0,none⟩) (k+1) UNK) s') :
  wch (capp prog #[49,49] #[sl,.slice (some ⟨s.next,0,none⟩) 1 1] (s.new (.cells new 99 true))) K:=by
 obtain⟨s',h1,h2,h3,h4⟩:=appDep hnew hok hlen hsl hfr
 exact⟨_,_,h1,h s' h2 h3 h4⟩
theorem clDep{b:Nat}{cs junk:List Value}{n:Nat}{K:Value→St M→Prop}(hn:n≠0)(hlen:n≤1000000)(hok:cs.all qC=true)(hb:s.at' b=some (.cells (cs++junk) 99 true))(hbn:b<s.next)(hcs:cs.length=n*2)
  (h:∀ s',s'.next=s.next+2→s'.at' (s.next+1)=some (.cells cs 99 true)→(∀ b,b<s.next→s'.at' b=s.at' b)→K (.slice (some ⟨s.next+1,0,none⟩) n UNK) s') :
  wch (capp prog #[49,49] #[.slice (some ⟨s.next,0,none⟩) 0 0,.slice (some ⟨b,0,none⟩) n UNK] (s.new (.cells [] 99 true))) K:=by
 obtain⟨ie,hie,h1,h2,h3⟩:=infoDep
 have hcapp:capp prog #[49,49] #[.slice (some ⟨s.next,0,none⟩) 0 0,.slice (some ⟨b,0,none⟩) n UNK] (s.new (.cells [] 99 true))=capp3 prog 99 ie (.slice (some ⟨s.next,0,none⟩) 0 0) (s.new (.cells [] 99 true)) (cmore ie.size (.slice (some ⟨b,0,none⟩) n UNK) (s.new (.cells [] 99 true))):=
  app_eq underlying49 underlying49 hie
 have hv:cmore ie.size (.slice (some ⟨b,0,none⟩) n UNK) (s.new (.cells [] 99 true))=some (n,cs):=by
  simp only[more_at,St.at_new,if_neg (show ¬ b=s.next by omega),hb,more2,h1]
  have:cut (cs++junk) 0 (n*2)=some cs:=by
   unfold cut
   rw[if_pos (by rw[List.length_append];omega),List.drop_zero,← hcs,List.take_left']
   rfl
  rw[this];rfl
 obtain⟨s',h3,h4,h5,h6⟩:=app_row (n:=0) (k:=n) (old:=[]) hie ze99 (by rw[h1];rfl) h2 hcapp hn (by
  have:(0+n)*ie.bytes≤1000000*100:=Nat.mul_le_mul (by omega) h3
  omega) hok hv (.inr ⟨s.next,0,rfl,.inr ⟨rfl,by decide⟩,by rw[St.at_new,if_pos rfl],by simp⟩)
 refine⟨_,s',h3,?_⟩
 rw[Nat.zero_add]
 refine h s' (by simp at h4;omega) h5 fun c hc=>?_
 rw[h6 c (by simp;omega) (fun q m c' e=>by cases e;simp;omega),St.at_new,if_neg (by omega)]
theorem ixe_spec{c:Nat→List Value}{n b:Nat}{junk:List Value}{fn:FuncId}{cap:Array Value}{q:Nat→Bool}(hcc:qK prog fn=true)(hc:∀ i,(c i).length=5)(hb:s.at' b=some (.cells (rows c n++junk) 51 true))(hbn:b<s.next)(hN:n≤1000001)
  (hcl:∀ (s':St M) (i:Nat) (R':Value→St M→Prop),s.le s'→i<n→(∀ s2,s'.le s2→R' (.bool (q i)) s2)→QC prog w0 fn (#[.agg (c i).toArray]++cap) s' R')
  (h:∀ s' (j:Nat),s.le s'→j<n→q j=true→(∀ k,k<j→q k=false)→R (.int .i64 (j:Int)) s')(h':∀ s',s.le s'→(∀ k:Nat,k<n→q k=false)→R (.int .i64 (-1)) s') :
  QC prog w0 103 #[.slice (some ⟨b,0,none⟩) n UNK,.func (.func fn) #[] cap] s R:=by
 refine wfun2 hmix ok103 func103 rfl ntmps103 results103 (by simp) ?_
 simp -implicitDefEqProofs only[↓Zd,(Zp),simprocAttr,(STx)]
 refine wloop_fix hmix [9,10,5,11,12,13,14,15,16,17,4,18,8] (fun fuel env s'=>∃ m:Nat,fuel=n - m∧m≤n∧env 8 = .int .i64 (m:Int)∧(∀ k:Nat,k<m→q k=false)∧s.le s') (n - 0) ?_ ?_
 ·exact⟨0,rfl,by omega,rfl,fun k hk=>by omega,lR _⟩
 ·rintro fuel env s' hF ⟨m,rfl,hqP,e8,hno,hs⟩
  have hsn:=hs.1
  have e0:env 0 = .slice (some ⟨b,0,none⟩) n UNK:=by rw[hF 0 rfl];rfl
  have e1:env 1 = .func (.func fn) #[] cap:=by rw[hF 1 rfl];rfl
  have e7:env 7 = .int .i64 (n:Int):=by rw[hF 7 rfl];rfl
  by_cases hlt:m<n
  ·have hlt':(m:Int)<(n:Int):=by omega
   have hge:(0:Int)≤(m:Int):=by omega
   have hb':s'.at' b=some (.cells (rows c n++junk) 51 true):=by rw[hs.2 b hbn];exact hb
   have w1:IntKind.i64.wrap ((m:Int)+1)=((m+1:Nat):Int):=by rw[wrap_i64 (by omega)];omega
   obtain⟨hle5,htk5⟩:=rows_cut hc junk hlt
   simp -implicitDefEqProofs only[↓Zd,(Zp),simprocAttr,cut,cld2,(STx),e0,e1,e7,e8,hlt',hge,hb',hle5,htk5,calv hcc]
   refine hcl _ m _ (by first|exact hs|skip) hlt fun s2 hs2=>?_
   have hs02:s.le s2:=lT hs hs2
   cases hp:q m with
   |true =>
    simp -implicitDefEqProofs only[↓Zd,(Zp),simprocAttr,(HEx)]
    exact h _ m hs02 hlt hp hno
   |false =>
    simp -implicitDefEqProofs only[↓Zd,(Zp),simprocAttr,(HEx),w1,e8]
    refine⟨?_,n - (m+1),by omega,m+1,rfl,by omega,rfl,fun k hk=>?_,hs02⟩
    ·repeat (first|exact hF|refine Fix.upd (by decide) ?_)
    ·by_cases e:k<m
     ·exact hno k e
     ·have:k=m:=by omega
      subst this
      exact hp
  ·have hlt':¬ (m:Int)<(n:Int):=by omega
   simp -implicitDefEqProofs only[↓Zd,(Zp),simprocAttr,e7,e8,hlt']
   exact h' _ hs fun k hk=>hno k (by omega)
theorem ixe0_spec{fv:Value}(hR:R (.int .i64 (-1)) s):QC prog w0 103 #[.slice none 0 0,fv] s R:=by
 refine wfun2 hmix ok103 func103 rfl ntmps103 results103 (by simp) ?_
 simp -implicitDefEqProofs only[↓Zd,(Zp),simprocAttr,(STx)]
 refine wloop_fix hmix [9,10,5,11,12,13,14,15,16,17,4,18,8] (fun fuel env s'=>env 8 = .int .i64 0∧s'=s) 0 ⟨rfl,rfl⟩ ?_
 rintro fuel env s' hF ⟨e8,rfl⟩
 have e7:env 7 = .int .i64 0:=by rw[hF 7 rfl];rfl
 simp -implicitDefEqProofs only[↓Zd,(Zp),simprocAttr,e7,e8]
 exact hR
theorem ixd_spec{c:Nat→List Value}{n b:Nat}{junk:List Value}{fn:FuncId}{cap:Array Value}{q:Nat→Bool}(hcc:qK prog fn=true)(hc:∀ i,(c i).length=2)(hb:s.at' b=some (.cells (rows c n++junk) 99 true))(hbn:b<s.next)(hN:n≤1000001)
  (hcl:∀ (s':St M) (i:Nat) (R':Value→St M→Prop),s.le s'→i<n→(∀ s2,s'.le s2→R' (.bool (q i)) s2)→QC prog w0 fn (#[.agg (c i).toArray]++cap) s' R')
  (h:∀ s' (j:Nat),s.le s'→j<n→q j=true→(∀ k,k<j→q k=false)→R (.int .i64 (j:Int)) s')(h':∀ s',s.le s'→(∀ k:Nat,k<n→q k=false)→R (.int .i64 (-1)) s') :
  QC prog w0 139 #[.slice (some ⟨b,0,none⟩) n UNK,.func (.func fn) #[] cap] s R:=by
 refine wfun2 hmix ok139 func139 rfl ntmps139 results139 (by simp) ?_
 simp -implicitDefEqProofs only[↓Zd,(Zp),simprocAttr,(STx)]
 refine wloop_fix hmix [9,10,5,11,12,13,14,15,16,17,4,18,8] (fun fuel env s'=>∃ m:Nat,fuel=n - m∧m≤n∧env 8 = .int .i64 (m:Int)∧(∀ k:Nat,k<m→q k=false)∧s.le s') (n - 0) ?_ ?_
 ·exact⟨0,rfl,by omega,rfl,fun k hk=>by omega,lR _⟩
 ·rintro fuel env s' hF ⟨m,rfl,hqP,e8,hno,hs⟩
  have hsn:=hs.1
  have e0:env 0 = .slice (some ⟨b,0,none⟩) n UNK:=by rw[hF 0 rfl];rfl
  have e1:env 1 = .func (.func fn) #[] cap:=by rw[hF 1 rfl];rfl
  have e7:env 7 = .int .i64 (n:Int):=by rw[hF 7 rfl];rfl
  by_cases hlt:m<n
  ·have hlt':(m:Int)<(n:Int):=by omega
   have hge:(0:Int)≤(m:Int):=by omega
   have hb':s'.at' b=some (.cells (rows c n++junk) 99 true):=by rw[hs.2 b hbn];exact hb
   have w1:IntKind.i64.wrap ((m:Int)+1)=((m+1:Nat):Int):=by rw[wrap_i64 (by omega)];omega
   obtain⟨hle5,htk5⟩:=rows_cut hc junk hlt
   simp -implicitDefEqProofs only[↓Zd,(Zp),simprocAttr,cut,cld2,(STx),e0,e1,e7,e8,hlt',hge,hb',hle5,htk5,calv hcc]
   refine hcl _ m _ (by first|exact hs|skip) hlt fun s2 hs2=>?_
   have hs02:s.le s2:=lT hs hs2
   cases hp:q m with
   |true =>
    simp -implicitDefEqProofs only[↓Zd,(Zp),simprocAttr,(HEx)]
    exact h _ m hs02 hlt hp hno
   |false =>
    simp -implicitDefEqProofs only[↓Zd,(Zp),simprocAttr,(HEx),w1,e8]
    refine⟨?_,n - (m+1),by omega,m+1,rfl,by omega,rfl,fun k hk=>?_,hs02⟩
    ·repeat (first|exact hF|refine Fix.upd (by decide) ?_)
    ·by_cases e:k<m
     ·exact hno k e
     ·have:k=m:=by omega
      subst this
      exact hp
  ·have hlt':¬ (m:Int)<(n:Int):=by omega
   simp -implicitDefEqProofs only[↓Zd,(Zp),simprocAttr,e7,e8,hlt']
   exact h' _ hs fun k hk=>hno k (by omega)
theorem ixd0_spec{fv:Value}(hR:R (.int .i64 (-1)) s):QC prog w0 139 #[.slice none 0 0,fv] s R:=by
 refine wfun2 hmix ok139 func139 rfl ntmps139 results139 (by simp) ?_
 simp -implicitDefEqProofs only[↓Zd,(Zp),simprocAttr,(STx)]
 refine wloop_fix hmix [9,10,5,11,12,13,14,15,16,17,4,18,8] (fun fuel env s'=>env 8 = .int .i64 0∧s'=s) 0 ⟨rfl,rfl⟩ ?_
 rintro fuel env s' hF ⟨e8,rfl⟩
 have e7:env 7 = .int .i64 0:=by rw[hF 7 rfl];rfl
 simp -implicitDefEqProofs only[↓Zd,(Zp),simprocAttr,e7,e8]
 exact hR
end
end Go.Proofs.Tryz
