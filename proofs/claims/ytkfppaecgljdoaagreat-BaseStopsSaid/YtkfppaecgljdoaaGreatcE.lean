/- Lemmas, laid one behind the other by squeeze2.py. -/
import Derived.Test.YtkfppaecgljdoaaGreatcD
set_option linter.unusedSimpArgs false
set_option linter.unusedVariables false
set_option linter.unusedSectionVars false
set_option linter.defProp false
section
namespace Go.Proofs.Tryz
open Go.Cs
open Go.RowKit (Below)
set_option maxRecDepth 100000
structure Ob where
 L:List (ByteArray×V3)
 shape:Nat
 proto:Nat
 epoch:Nat
structure Hp where
 obs:List Ob
 F:List Sh
 T:List ByteArray
 most:Nat
 maxO:Nat
 maxP:Nat
def HPro(H:Hp):Prop:=∀ (i:Nat) (o:Ob),H.obs[i]?=some o→0<o.shape→∃ l,H.F[o.shape - 1]?=some (o.proto,l)
def obAt(H:Hp)(o:Int):Option Ob:=if 1≤o then H.obs[o.toNat - 1]? else none
def txt(T:List ByteArray)(i:Nat):ByteArray:=T.getD (i - 1) ⟨#[]⟩
def ofI(T:List ByteArray)(x:ByteArray):Nat:=match idxOf T x with
 |some j=>j+1
 |none=>T.length+1
theorem obAt_get{H:Hp}{j:Nat}:obAt H ((j+1:Nat):Int)=H.obs[j]?:=by
 unfold obAt
 rw[if_pos (by omega)]
 congr 1
theorem obAt_none{H:Hp}{o:Int}:obAt H o=none↔¬ (1≤o∧o≤H.obs.length):=by
 unfold obAt
 split
 ·rw[List.getElem?_eq_none_iff];omega
 ·simp;omega
theorem obAt_some{H:Hp}{o:Int}{ob:Ob}(h:obAt H o=some ob):∃ j:Nat,o=((j+1:Nat):Int)∧j<H.obs.length∧H.obs[j]?=some ob:=by
 unfold obAt at h
 split at h
 ·refine⟨o.toNat - 1,by omega,(List.getElem?_eq_some_iff.1 h).1,h⟩
 ·cases h
structure HOk(H:Hp):Prop where
 nodup:H.T.Nodup
 ids:∀ (i:Nat) (t:Sh),H.F[i]?=some t→∀ x∈t.2,1≤x∧x≤H.T.length
 fits:∀ (i:Nat) (o:Ob),H.obs[i]?=some o→0<o.shape→∃ q l,H.F[o.shape - 1]?=some (q,l)∧l.reverse.map (txt H.T)=o.L.map (·.1)
 keys:∀ (i:Nat) (o:Ob),H.obs[i]?=some o→(o.L.map (·.1)).Nodup
 lens:∀ (i:Nat) (o:Ob),H.obs[i]?=some o→o.L.length≤H.maxP
 up:∃ d:Nat→Nat,∀ (i:Nat) (o:Ob),H.obs[i]?=some o→o.proto=0∨o.proto≤H.obs.length∧d o.proto<d (i+1)
 lim:H.maxP≤32∧H.obs.length≤H.maxO∧H.maxO≤200
theorem idx_of_get:∀ {T:List ByteArray},T.Nodup→∀ {j:Nat}{x:ByteArray},T[j]?=some x→idxOf T x=some j:=by
 intro T
 induction T with
 |nil=>intro _ j x h;simp at h
 |cons y T ih =>
  intro hn j x h
  simp only[List.nodup_cons]at hn
  unfold idxOf
  cases j with
  |zero=>simp at h;rw[if_pos h]
  |succ j =>
   have h:T[j]?=some x:=by simpa using h
   rw[if_neg (fun e=>hn.1 (by rw[e];exact List.mem_of_getElem? h)),ih hn.2 h]
   rfl
theorem idx_none:∀ {T:List ByteArray}{x:ByteArray},idxOf T x=none→x ∉ T:=by
 intro T
 induction T with
 |nil=>intro x _;simp
 |cons y T ih =>
  intro x h
  unfold idxOf at h
  split at h
  ·cases h
  ·rename_i e
   have h:=Option.map_eq_none_iff.1 h
   intro hm
   rcases List.mem_cons.1 hm with e2|hm
   ·exact e e2.symm
   ·exact ih h hm
theorem txt_get{T:List ByteArray}{i:Nat}(h1:1≤i)(h2:i≤T.length):T[i - 1]?=some (txt T i):=by
 unfold txt
 rw[List.getElem?_eq_getElem (by omega),List.getD_eq_getElem?_getD,List.getElem?_eq_getElem (by omega)];rfl
theorem ofT_some{T:List ByteArray}{x:ByteArray}{j:Nat}(h:idxOf T x=some j):ofT T x=T:=by unfold ofT;rw[h]
theorem ofT_none{T:List ByteArray}{x:ByteArray}(h:idxOf T x=none):ofT T x=T ++ [x]:=by unfold ofT;rw[h]
theorem ofN_eq(T:List ByteArray)(x:ByteArray):ofN T x=(ofI T x:Int):=by
 unfold ofN ofI
 cases idxOf T x<;>simp
theorem ofT_nodup{T:List ByteArray}(h:T.Nodup)(x:ByteArray):(ofT T x).Nodup:=by
 cases hi:idxOf T x with
 |some j=>rw[ofT_some hi];exact h
 |none =>
  rw[ofT_none hi,List.nodup_append]
  refine⟨h,by simp,fun a ha b hb e=>?_⟩
  simp at hb
  subst hb;subst e
  exact idx_none hi ha
theorem ofT_len(T:List ByteArray)(x:ByteArray):T.length≤(ofT T x).length∧(ofT T x).length≤T.length+1:=by
 cases hi:idxOf T x with
 |some j=>rw[ofT_some hi];omega
 |none=>rw[ofT_none hi];simp
theorem ofT_get{T:List ByteArray}{j:Nat}{y:ByteArray}(x:ByteArray)(h:T[j]?=some y):(ofT T x)[j]?=some y:=by
 cases hi:idxOf T x with
 |some j=>rw[ofT_some hi];exact h
 |none=>rw[ofT_none hi,List.getElem?_append_left (List.getElem?_eq_some_iff.1 h).1];exact h
theorem ofT_txt{T:List ByteArray}{i:Nat}(x:ByteArray)(h1:1≤i)(h2:i≤T.length):txt (ofT T x) i=txt T i:=by
 have:=txt_get (T:=ofT T x) h1 (by have:=ofT_len T x;omega)
 rw[ofT_get x (txt_get h1 h2)]at this
 exact (Option.some.inj this).symm
theorem ofI_ok(T:List ByteArray)(x:ByteArray):1≤ofI T x∧ofI T x≤(ofT T x).length∧txt (ofT T x) (ofI T x)=x:=by
 unfold ofI
 cases hi:idxOf T x with
 |some j =>
  rw[ofT_some hi]
  have:=idx_lt hi
  refine⟨by simp,by simp only;omega,?_⟩
  unfold txt
  simp only[Nat.add_sub_cancel]
  rw[List.getD_eq_getElem?_getD,this.2];rfl
 |none =>
  rw[ofT_none hi]
  refine⟨by simp,by simp,?_⟩
  unfold txt
  simp
theorem getP_some:∀ {L:List (ByteArray×V3)}{x:ByteArray}{v:V3},getP L x=some v→∃ k:Nat,L[k]?=some (x,v):=by
 intro L
 induction L with
 |nil=>intro x v h;cases h
 |cons p L ih =>
  intro x v h
  obtain⟨y,w⟩:=p
  unfold getP at h
  split at h
  ·rename_i e;cases h;exact⟨0,by simp[e]⟩
  ·obtain⟨k,hk⟩:=ih h
   exact⟨k+1,by simpa using hk⟩
theorem getP_get:∀ {L:List (ByteArray×V3)},(L.map (·.1)).Nodup→∀ {k:Nat}{x:ByteArray}{v:V3},L[k]?=some (x,v)→getP L x=some v:=by
 intro L
 induction L with
 |nil=>intro _ k x v h;simp at h
 |cons p L ih =>
  intro hn k x v h
  obtain⟨y,w⟩:=p
  simp only[List.map_cons,List.nodup_cons]at hn
  unfold getP
  cases k with
  |zero=>simp at h;rw[if_pos h.1,h.2]
  |succ k =>
   have h:L[k]?=some (x,v):=by simpa using h
   rw[if_neg (fun e=>hn.1 (by rw[e];exact List.mem_map_of_mem (f:=(·.1)) (List.mem_of_getElem? h)))]
   exact ih hn.2 h
theorem getP_none{L:List (ByteArray×V3)}{x:ByteArray}:getP L x=none↔x ∉ L.map (·.1):=by
 induction L with
 |nil=>simp[getP]
 |cons p L ih =>
  obtain⟨y,w⟩:=p
  unfold getP
  by_cases e:y=x
  ·simp[e]
  ·rw[if_neg e,ih]
   simp only[List.map_cons,List.mem_cons,not_or]
   exact⟨fun h=>⟨fun e2=>e e2.symm,h⟩,fun h=>h.2⟩
theorem setP_some:∀ {L:List (ByteArray×V3)}{x:ByteArray}{v w:V3}{k:Nat},(L.map (·.1)).Nodup→L[k]?=some (x,w)→setP L x v=L.set k (x,v):=by
 intro L
 induction L with
 |nil=>intro x v w k _ h;simp at h
 |cons p L ih =>
  intro x v w k hn h
  obtain⟨y,u⟩:=p
  simp only[List.map_cons,List.nodup_cons]at hn
  unfold setP
  cases k with
  |zero=>simp at h;rw[if_pos h.1];rfl
  |succ k =>
   have h:L[k]?=some (x,w):=by simpa using h
   rw[if_neg (fun e=>hn.1 (by rw[e];exact List.mem_map_of_mem (f:=(·.1)) (List.mem_of_getElem? h))),ih hn.2 h]
   rfl
theorem keys_set{L:List (ByteArray×V3)}{k:Nat}{x:ByteArray}{w v:V3}(h:L[k]?=some (x,w)):(L.set k (x,v)).map (·.1)=L.map (·.1):=by
 rw[List.map_set]
 apply List.ext_getElem?
 intro i
 rw[List.getElem?_set]
 split
 ·rename_i e
  subst e
  have:=(List.getElem?_eq_some_iff.1 h).1
  rw[List.getElem?_map,h]
  simp[this]
 ·rfl
theorem delP_keys:∀ (L:List (ByteArray×V3)) (x:ByteArray),((delP L x).map (·.1)).Sublist (L.map (·.1)):=by
 intro L x
 induction L with
 |nil=>exact .slnil
 |cons p L ih =>
  obtain⟨y,w⟩:=p
  unfold delP
  split
  ·exact .cons _ (List.Sublist.refl _)
  ·exact .cons_cons _ ih
theorem delP_len:∀ (L:List (ByteArray×V3)) (x:ByteArray),(delP L x).length≤L.length:=by
 intro L x
 have:=(delP_keys L x).length_le
 simpa using this
theorem slotL_get:∀ {l:List Nat}{x k:Nat},slotL l x=(k:Int)→l.reverse[k]?=some x:=by
 intro l
 induction l with
 |nil=>intro x k h;simp only[slotL]at h;omega
 |cons y r ih =>
  intro x k h
  unfold slotL at h
  rw[List.reverse_cons]
  split at h
  ·rename_i e
   have:k=r.length:=by omega
   subst this
   rw[List.getElem?_append_right (by simp)]
   simp[e]
  ·have:=ih h
   rw[List.getElem?_append_left (List.getElem?_eq_some_iff.1 this).1]
   exact this
theorem slotL_ge(l:List Nat)(x:Nat) : -1≤slotL l x:=by
 induction l with
 |nil=>simp[slotL]
 |cons y r ih=>unfold slotL;split<;>omega
def slotOf(H:Hp)(id:Int)(x:ByteArray):Int:=match idxOf H.T x with
 |none => -1
 |some j=>slotL (namesOf H.F id) (j+1)
theorem namesOf_at{F:List Sh}{n:Nat}{t:Sh}(hn:0<n)(h:F[n - 1]?=some t):namesOf F (n:Int)=t.2:=by
 unfold namesOf shAt
 rw[if_pos (by omega),Int.toNat_natCast,h]
theorem shAt_at{F:List Sh}{n:Nat}(hn:0<n):shAt F (n:Int)=F[n - 1]?:=by
 unfold shAt
 rw[if_pos (by omega),Int.toNat_natCast]
theorem slot_fits{H:Hp}(h:HOk H){i:Nat}{o:Ob}(ho:H.obs[i]?=some o)(hs:0<o.shape)(x:ByteArray) :
  (slotOf H o.shape x = -1∧getP o.L x=none)∨∃ (k:Nat) (v:V3),slotOf H o.shape x=(k:Int)∧o.L[k]?=some (x,v)∧getP o.L x=some v:=by
 obtain⟨q0,l,h1,h2⟩:=h.fits i o ho hs
 have hl:namesOf H.F (o.shape:Int)=l:=namesOf_at hs h1
 have hno:∀ (k:Nat) (v:V3),o.L[k]?=some (x,v)→∃ n,l.reverse[k]?=some n∧idxOf H.T x=some (n - 1)∧1≤n:=by
  intro k v hk
  have:(l.reverse.map (txt H.T))[k]?=some x:=by rw[h2,List.getElem?_map,hk];rfl
  rw[List.getElem?_map]at this
  obtain⟨n,hn,e⟩:=Option.map_eq_some_iff.1 this
  have hm:n∈l:=by
   have:=List.mem_of_getElem? hn
   simpa using this
  obtain⟨g1,g2⟩:=h.ids _ _ h1 n hm
  refine⟨n,hn,idx_of_get h.nodup ?_,g1⟩
  rw[txt_get g1 g2,e]
 unfold slotOf
 cases hi:idxOf H.T x with
 |none =>
  left
  refine⟨rfl,?_⟩
  cases hg:getP o.L x with
  |none=>rfl
  |some v =>
   obtain⟨k,hk⟩:=getP_some hg
   obtain⟨n,_,h3,_⟩:=hno k v hk
   rw[hi]at h3;cases h3
 |some j =>
  simp only
  rw[hl]
  by_cases hneg:slotL l (j+1)<0
  ·left
   refine⟨by have:=slotL_ge l (j+1);omega,?_⟩
   cases hg:getP o.L x with
   |none=>rfl
   |some v =>
    obtain⟨k,hk⟩:=getP_some hg
    obtain⟨n,h3,h4,h5⟩:=hno k v hk
    rw[hi]at h4
    have:n=j+1:=by have:=Option.some.inj h4;omega
    have hm:n∈l:=by
     have:=List.mem_of_getElem? h3
     simpa using this
    exact absurd (this▸hm) ((slotL_neg l (j+1)).1 hneg)
  ·right
   obtain⟨k,hk⟩:∃ k:Nat,slotL l (j+1)=(k:Int):=⟨(slotL l (j+1)).toNat,by omega⟩
   have h3:=slotL_get hk
   have h4:(o.L.map (·.1))[k]?=some x:=by
    rw[← h2,List.getElem?_map,h3]
    show some (txt H.T (j+1))=some x
    have:=idx_lt hi
    rw[← txt_get (T:=H.T) (by omega) (by omega),Nat.add_sub_cancel,this.2]
   rw[List.getElem?_map]at h4
   obtain⟨⟨y,v⟩,h5,h6⟩:=Option.map_eq_some_iff.1 h4
   simp only at h6
   subst h6
   exact⟨k,v,hk,h5,getP_get (h.keys i o ho) h5⟩
theorem up_same{l:List Ob}{i:Nat}{o o':Ob}(hi:l[i]?=some o)(hp:o'.proto=o.proto)(h:∃ d:Nat→Nat,∀ (j:Nat) (o:Ob),l[j]?=some o→o.proto=0∨o.proto≤l.length∧d o.proto<d (j+1)) :
  ∃ d:Nat→Nat,∀ (j:Nat) (u:Ob),(l.set i o')[j]?=some u→u.proto=0∨u.proto≤(l.set i o').length∧d u.proto<d (j+1):=by
 obtain⟨d,h⟩:=h
 refine⟨d,fun j u hu=>?_⟩
 rw[List.length_set]
 rw[List.getElem?_set]at hu
 split at hu
 ·rename_i e
  subst e
  split at hu
  ·cases hu;rw[hp];exact h i o hi
  ·cases hu
 ·exact h j u hu
theorem HOk.upd{H:Hp}(h:HOk H){i:Nat}{o o':Ob}(hi:H.obs[i]?=some o){F':List Sh}{T':List ByteArray}(hF:∀ (j:Nat) (t:Sh),H.F[j]?=some t→F'[j]?=some t)(hT:∀ (j:Nat),1≤j→j≤H.T.length→txt T' j=txt H.T j)(hTl:H.T.length≤T'.length)(hTn:T'.Nodup)
  (hids:∀ (i:Nat) (t:Sh),F'[i]?=some t→∀ x∈t.2,1≤x∧x≤T'.length)(hfit:0<o'.shape→∃ q l,F'[o'.shape - 1]?=some (q,l)∧l.reverse.map (txt T')=o'.L.map (·.1))(hkeys:(o'.L.map (·.1)).Nodup)(hlen:o'.L.length≤H.maxP)
  (hup:∃ d:Nat→Nat,∀ (j:Nat) (u:Ob),(H.obs.set i o')[j]?=some u→u.proto=0∨u.proto≤(H.obs.set i o').length∧d u.proto<d (j+1)) :
  HOk { H with obs:=H.obs.set i o',F:=F',T:=T' }:=by
 refine⟨hTn,hids,fun j u hu hs=>?_,fun j u hu=>?_,fun j u hu=>?_,hup,by simpa using h.lim⟩
 ·simp only[List.getElem?_set]at hu
  split at hu
  ·split at hu
   ·cases hu;exact hfit hs
   ·cases hu
  ·obtain⟨q0,l,h1,h2⟩:=h.fits j u hu hs
   refine⟨q0,l,hF _ _ h1,?_⟩
   rw[← h2]
   apply List.map_congr_left
   intro n hn
   have:=h.ids _ _ h1 n (by simpa using hn)
   exact hT n this.1 this.2
 ·simp only[List.getElem?_set]at hu
  split at hu
  ·split at hu
   ·cases hu;exact hkeys
   ·cases hu
  ·exact h.keys j u hu
 ·simp only[List.getElem?_set]at hu
  split at hu
  ·split at hu
   ·cases hu;exact hlen
   ·cases hu
  ·exact h.lens j u hu
theorem HOk.more{H:Hp}(h:HOk H){F':List Sh}{T':List ByteArray}(hF:∀ (j:Nat) (t:Sh),H.F[j]?=some t→F'[j]?=some t)(hT:∀ (j:Nat),1≤j→j≤H.T.length→txt T' j=txt H.T j)(hTl:H.T.length≤T'.length)(hTn:T'.Nodup)
  (hids:∀ (i:Nat) (t:Sh),F'[i]?=some t→∀ x∈t.2,1≤x∧x≤T'.length):HOk { H with F:=F',T:=T' }:=by
 refine⟨hTn,hids,fun j u hu hs=>?_,h.keys,h.lens,h.up,h.lim⟩
 obtain⟨q0,l,h1,h2⟩:=h.fits j u hu hs
 refine⟨q0,l,hF _ _ h1,?_⟩
 rw[← h2]
 apply List.map_congr_left
 intro n hn
 have:=h.ids _ _ h1 n (by simpa using hn)
 exact hT n this.1 this.2
theorem growF_get{F:List Sh}{most:Nat}{t u:Sh}{j:Nat}(h:F[j]?=some u):(growF F most t)[j]?=some u:=by
 unfold growF
 split
 ·exact h
 ·split
  ·rw[List.getElem?_append_left (List.getElem?_eq_some_iff.1 h).1];exact h
  ·exact h
theorem growF_mem{F:List Sh}{most:Nat}{t u:Sh}{j:Nat}(h:(growF F most t)[j]?=some u):F[j]?=some u∨u=t:=by
 unfold growF at h
 split at h
 ·exact .inl h
 ·split at h
  ·by_cases hj:j<F.length
   ·rw[List.getElem?_append_left hj]at h;exact .inl h
   ·rw[List.getElem?_append_right (by omega)]at h
    have h0:j - F.length=0:=by
     have:=(List.getElem?_eq_some_iff.1 h).1
     simp at this;omega
    rw[h0]at h
    simp at h
    exact .inr h.symm
  ·exact .inl h
theorem growN_get{F:List Sh}{most:Nat}{t:Sh}(h:0<growN F most t):(growF F most t)[growN F most t - 1]?=some t:=by
 unfold growN growF at *
 by_cases hm:t∈F
 ·simp only[if_pos hm,Nat.add_sub_cancel]
  have:=List.idxOf_lt_length_of_mem hm
  rw[List.getElem?_eq_getElem this,List.getElem_idxOf this]
 ·simp only[if_neg hm]at h ⊢
  split at h
  ·rename_i hl;simp[hl]
  ·omega
theorem addF_get{F:List Sh}{most x:Nat}{i:Int}{u:Sh}{j:Nat}(h:F[j]?=some u):(addF F most i x)[j]?=some u:=by
 unfold addF
 split
 ·exact h
 ·split
  ·exact h
  ·exact growF_get h
theorem addF_mem{F:List Sh}{most x:Nat}{i:Int}{u:Sh}{j:Nat}(h:(addF F most i x)[j]?=some u):F[j]?=some u∨∃ t,shAt F i=some t∧u=(t.1,x::t.2):=by
 unfold addF at h
 split at h
 ·exact .inl h
 ·rename_i t ht
  split at h
  ·exact .inl h
  ·rcases growF_mem h with h|h
   ·exact .inl h
   ·exact .inr ⟨t,ht,h⟩
theorem addN_get{F:List Sh}{most x:Nat}{i:Int}(h:0<addN F most i x):∃ t,shAt F i=some t∧(addF F most i x)[addN F most i x - 1]?=some (t.1,x::t.2):=by
 unfold addN addF at *
 split at h
 ·omega
 ·rename_i t ht
  split at h
  ·omega
  ·rename_i hc
   refine⟨t,by first|rfl|exact ht,?_⟩
   simp only[if_neg hc]
   exact growN_get h
theorem shAt_mem{F:List Sh}{i:Int}{t:Sh}(h:shAt F i=some t):∃ j:Nat,F[j]?=some t:=by
 unfold shAt at h
 split at h
 ·exact⟨_,h⟩
 ·cases h
theorem addF_ids{F:List Sh}{most x m:Nat}{i:Int}(h:∀ (j:Nat) (t:Sh),F[j]?=some t→∀ y∈t.2,1≤y∧y≤m)(hx:1≤x∧x≤m):∀ (j:Nat) (t:Sh),(addF F most i x)[j]?=some t→∀ y∈t.2,1≤y∧y≤m:=by
 intro j t ht y hy
 rcases addF_mem ht with h1|⟨u,hu,rfl⟩
 ·exact h j t h1 y hy
 ·rcases List.mem_cons.1 hy with rfl|hy
  ·exact hx
  ·obtain⟨k,hk⟩:=shAt_mem hu
   exact h k u hk y hy
end Go.Proofs.Tryz
namespace Go.Proofs.Tryz
open Go.Cs
open Go.RowKit (Below)
set_option maxRecDepth 100000
attribute [local irreducible] QC WLoop WScope CRound WRange
theorem as_ss(v:Value):cassert Tryz.prog (.iface 185 v) 185 true=some (.tuple #[v,.bool true]):=by kernel_rfl
theorem as_sl(v:Value):cassert Tryz.prog (.iface 185 v) 180 true=some (.tuple #[.agg #[.pointer none],.bool false]):=by kernel_rfl
theorem as_ls(v:Value):cassert Tryz.prog (.iface 180 v) 185 true=some (.tuple #[.pointer none,.bool false]):=by kernel_rfl
theorem as_ll(v:Value):cassert Tryz.prog (.iface 180 v) 180 true=some (.tuple #[v,.bool true]):=by kernel_rfl
theorem bVal0:cbuild Tryz.prog 31 #[]=some (.agg #[.int .i64 0,.int .i64 0,.string ⟨#[]⟩]):=by kernel_rfl
def HEx:=(And.intro (And.intro (And.intro (And.intro (And.intro (And.intro (And.intro @underlying3 (And.intro @underlying4 @underlying9)) (And.intro @underlying31 (And.intro @is31 @ag31))) (And.intro (And.intro @ce31 (And.intro @fa31x0 @fa31x1)) (And.intro (And.intro @fa31x2 @ag3) (And.intro @ce3 @ag9)))) (And.intro (And.intro (And.intro @ce9 (And.intro @underlying5 @underlying38)) (And.intro @underlying0 (And.intro @be4 @bn4))) (And.intro (And.intro @sz3 (And.intro @sz234 @ce234)) (And.intro (And.intro @ze3 @sz268) (And.intro @underlying306 @underlying235))))) (And.intro (And.intro (And.intro (And.intro @underlying234 (And.intro @underlying143 @ag143)) (And.intro @ag235 (And.intro @ag234 @nf306))) (And.intro (And.intro @nt306 (And.intro @ng306 @nn306)) (And.intro (And.intro @nf143 @nf234) (And.intro @nt234 @fa237x0)))) (And.intro (And.intro (And.intro @fa237x1 (And.intro @fa237x2 @fa268x0)) (And.intro @fa268x1 (And.intro @fa268x2 @fa268x3))) (And.intro (And.intro @fa268x4 (And.intro @is3 @sz9)) (And.intro (And.intro @is9 @ze9) (And.intro @sz4 @is4)))))) (And.intro (And.intro (And.intro (And.intro (And.intro @ce4 (And.intro @ag4 @ze4)) (And.intro @sz38 (And.intro @is38 @ce38))) (And.intro (And.intro @ag38 (And.intro @ze38 @sz31)) (And.intro (And.intro @ze31 @underlying149) (And.intro @sz149 @is149)))) (And.intro (And.intro (And.intro @ce149 (And.intro @ag149 @ze149)) (And.intro @fa149x0 (And.intro @fa149x1 @fa149x2))) (And.intro (And.intro @fa149x3 (And.intro @fa149x4 @underlying80)) (And.intro (And.intro @sz80 @is80) (And.intro @ce80 @ag80))))) (And.intro (And.intro (And.intro (And.intro @ze80 (And.intro @nt80 @nn80)) (And.intro @nf80 (And.intro @ng80 @underlying147))) (And.intro (And.intro @sz147 (And.intro @is147 @ce147)) (And.intro (And.intro @ag147 @ze147) (And.intro @underlying176 @sz176)))) (And.intro (And.intro (And.intro @is176 (And.intro @ce176 @ag176)) (And.intro (And.intro @ze176 @nt176) (And.intro @nn176 @nf176))) (And.intro (And.intro @ng176 (And.intro @underlying184 @sz184)) (And.intro (And.intro @is184 @ce184) (And.intro @ag184 @ze184))))))) (And.intro (And.intro (And.intro (And.intro (And.intro (And.intro @fa184x0 (And.intro @fa184x1 @fa184x2)) (And.intro @underlying182 (And.intro @sz182 @is182))) (And.intro (And.intro @ce182 (And.intro @ag182 @ze182)) (And.intro (And.intro @underlying185 @sz185) (And.intro @is185 @ce185)))) (And.intro (And.intro (And.intro @ag185 (And.intro @ze185 @nt185)) (And.intro @nn185 (And.intro @nf185 @ng185))) (And.intro (And.intro @underlying187 (And.intro @sz187 @is187)) (And.intro (And.intro @ce187 @ag187) (And.intro @ze187 @fa187x0))))) (And.intro (And.intro (And.intro (And.intro @fa187x1 (And.intro @underlying180 @sz180)) (And.intro @is180 (And.intro @ce180 @ag180))) (And.intro (And.intro @ze180 (And.intro @fa180x0 @underlying48)) (And.intro (And.intro @sz48 @is48) (And.intro @ce48 @ag48)))) (And.intro (And.intro (And.intro @ze48 (And.intro @underlying177 @sz177)) (And.intro (And.intro @is177 @ce177) (And.intro @ag177 @ze177))) (And.intro (And.intro @nt177 (And.intro @nn177 @nf177)) (And.intro (And.intro @ng177 @sz143) (And.intro @is143 @ce143)))))) (And.intro (And.intro (And.intro (And.intro (And.intro @ze143 (And.intro @nt143 @nn143)) (And.intro @ng143 (And.intro @underlying145 @sz145))) (And.intro (And.intro @is145 (And.intro @ce145 @ag145)) (And.intro (And.intro @ze145 @nt145) (And.intro @nn145 @nf145)))) (And.intro (And.intro (And.intro @ng145 (And.intro @underlying220 @sz220)) (And.intro @is220 (And.intro @ce220 @ag220))) (And.intro (And.intro @underlying290 (And.intro @sz290 @is290)) (And.intro (And.intro @ce290 @ag290) (And.intro @underlying43 @sz43))))) (And.intro (And.intro (And.intro (And.intro @is43 (And.intro @ce43 @ag43)) (And.intro @underlying167 (And.intro @sz167 @is167))) (And.intro (And.intro @ce167 (And.intro @ag167 @underlying265)) (And.intro (And.intro @sz265 @is265) (And.intro @ce265 @ag265)))) (And.intro (And.intro (And.intro @underlying115 (And.intro @sz115 @is115)) (And.intro (And.intro @ce115 @ag115) (And.intro @o_assert @f_assert))) (And.intro (And.intro @o_mkIface (And.intro @f_mkIface @as_ss)) (And.intro (And.intro @as_sl @as_ls) (And.intro @as_ll @bVal0))))))))
def valC(p:ByteArray×V3):List Value:=[.int .i64 p.2.1,.int .i64 p.2.2.1,.string p.2.2.2]
def valsC(L:List (ByteArray×V3)):List Value:=L.flatMap valC
theorem valsC_len(L:List (ByteArray×V3)):(valsC L).length=L.length*3:=by
 induction L with
 |nil=>rfl
 |cons p L ih =>
  show (valC p++valsC L).length=_
  rw[List.length_append,ih,List.length_cons];show 3+_=_;omega
theorem valsC_app(L L2:List (ByteArray×V3)):valsC (L++L2)=valsC L++valsC L2:=by unfold valsC;simp
theorem valsC_cut:∀ (L:List (ByteArray×V3)) (k:Nat) (x:ByteArray) (v:V3) (junk:List Value),L[k]?=some (x,v)→k*3+3≤(valsC L++junk).length∧List.take 3 (List.drop (k*3) (valsC L++junk))=[.int .i64 v.1,.int .i64 v.2.1,.string v.2.2]:=by
 intro L
 induction L with
 |nil=>intro k x v junk h;simp at h
 |cons p L ih =>
  intro k x v junk h
  cases k with
  |zero =>
   simp at h
   subst h
   exact⟨by show 3≤_;rw[List.length_append,valsC_len];simp;omega,rfl⟩
  |succ k =>
   have h:L[k]?=some (x,v):=by simpa using h
   obtain⟨h1,h2⟩:=ih k x v junk h
   have e:valsC (p::L)++junk=valC p++(valsC L++junk):=by show (valC p++valsC L)++junk=_;rw[List.append_assoc]
   rw[e]
   refine⟨by rw[List.length_append];show _≤3+_;omega,?_⟩
   rw[show (k+1)*3=3+k*3 from by omega,← List.drop_drop]
   exact h2
theorem valsC_set:∀ (L:List (ByteArray×V3)) (k:Nat) (x:ByteArray) (v w:V3) (junk:List Value),L[k]?=some (x,w)→setCells (valsC L++junk) (k*3) [.int .i64 v.1,.int .i64 v.2.1,.string v.2.2]=valsC (L.set k (x,v))++junk:=by
 intro L k x v w junk h
 have hl:=(List.getElem?_eq_some_iff.1 h).1
 rw[setCells_eq _ _ _ (by rw[List.length_append,valsC_len];simp;omega)]
 have e:L=L.take k++(x,w)::L.drop (k+1):=by
  rw[← (List.getElem?_eq_some_iff.1 h).2];simp
 have e2:L.set k (x,v)=L.take k++(x,v)::L.drop (k+1):=by rw[List.set_eq_take_append_cons_drop,if_pos hl]
 have hk:(valsC (L.take k)).length=k*3:=by rw[valsC_len,List.length_take];congr 1;omega
 have e3:valsC L++junk=valsC (L.take k)++(valC (x,w)++(valsC (L.drop (k+1))++junk)):=by
  conv=>lhs;rw[e]
  rw[valsC_app]
  show valsC (L.take k)++(valC (x,w)++valsC (L.drop (k+1)))++junk=_
  simp only[List.append_assoc]
 rw[e2,valsC_app,e3]
 show _=valsC (L.take k)++(valC (x,v)++valsC (L.drop (k+1)))++junk
 rw[List.take_append_of_le_length (by omega),List.take_of_length_le (by omega),show k*3 + [Value.int .i64 v.1,.int .i64 v.2.1,.string v.2.2].length=(valsC (L.take k)).length+3 from by rw[hk];rfl,List.drop_append]
 have hd:List.drop ((valsC (L.take k)).length+3) (valsC (L.take k))=[]:=List.drop_eq_nil_of_le (by omega)
 rw[hd,Nat.add_sub_cancel_left,List.nil_append]
 simp only[List.append_assoc]
 rfl
section
variable {M:Type}[Mem M]{w0:World}{s:St M}{R:Value→St M→Prop}
theorem DictAt.mono{lo:Nat}{s:St M}{p:Nat}{L:List (ByteArray×V3)}{N N':Nat}{O:Nat→Prop}(h:DictAt lo s p L N O)(hN:N≤N'):DictAt lo s p L N' O:=by
 obtain⟨h1,h2,P,m,sl,es,clock,kv,h3,hP,h⟩:=h
 exact⟨h1,h2,P,m,sl,es,clock,kv,h3,by omega,h⟩
structure ObAt(lo:Nat)(s:St M)(N:Nat)(b:Nat)(o:Ob)(O:Nat→Prop):Prop where
 own:∀ c,O c→lo≤c∧c<s.next
 pin:O b
 ep:o.epoch≤N
 bl:(o.shape=0∧∃ pd OD,s.at' b=some (.cells [.iface 180 (.agg #[.pointer (some ⟨pd,0,none⟩)]),.int .i64 (o.proto:Int),.int .i64 (o.epoch:Int)] 184 true)∧DictAt lo s pd o.L N OD∧(∀ c,OD c→O c∧c≠b)) ∨
  (0<o.shape∧∃ ps sl,s.at' b=some (.cells [.iface 185 (.pointer (some ⟨ps,0,none⟩)),.int .i64 (o.proto:Int),.int .i64 (o.epoch:Int)] 184 true)∧s.at' ps=some (.cells [.int .i64 (o.shape:Int),sl] 187 true)∧O ps∧ps≠b ∧
   SlU 31 3 s sl (valsC o.L) o.L.length∧(∀ q n c,sl = .slice (some q) n c→O q.block∧q.block≠b∧q.block≠ps))
theorem ObAt.same{lo:Nat}{s s':St M}{N b:Nat}{o:Ob}{O:Nat→Prop}(h:ObAt lo s N b o O)(hn:s.next≤s'.next)(hs:∀ c,O c→s'.at' c=s.at' c):ObAt lo s' N b o O:=by
 obtain⟨h1,h2,h3,h4⟩:=h
 refine⟨fun c hc=>⟨(h1 c hc).1,by have:=(h1 c hc).2;omega⟩,h2,h3,?_⟩
 rcases h4 with ⟨h5,pd,OD,h6,h7,h8⟩|⟨h5,ps,sl,h6,h7,h8,h9,h10,h11⟩
 ·exact .inl ⟨h5,pd,OD,by rw[hs _ h2];exact h6,h7.same hn fun c hc=>hs c (h8 c hc).1,h8⟩
 ·exact .inr ⟨h5,ps,sl,by rw[hs _ h2];exact h6,by rw[hs _ h8];exact h7,h8,h9,h10.same fun q n c e=>hs _ (h11 q n c e).1,h11⟩
theorem ObAt.mono{lo:Nat}{s:St M}{N N' b:Nat}{o:Ob}{O:Nat→Prop}(h:ObAt lo s N b o O)(hN:N≤N'):ObAt lo s N' b o O:=by
 obtain⟨h1,h2,h3,h4⟩:=h
 refine⟨h1,h2,by omega,?_⟩
 rcases h4 with ⟨h5,pd,OD,h6,h7,h8⟩|h
 ·exact .inl ⟨h5,pd,OD,h6,h7.mono hN,h8⟩
 ·exact .inr h
def ptrs(l:List Nat):List Value:=l.map fun b => .pointer (some ⟨b,0,none⟩)
theorem ptrs_len(l:List Nat):(ptrs l).length=l.length:=by simp[ptrs]
theorem ptrs_get{l:List Nat}{k b:Nat}(junk:List Value)(h:l[k]?=some b):(ptrs l++junk)[k]?=some (.pointer (some ⟨b,0,none⟩)):=by
 rw[List.getElem?_append_left (by rw[ptrs_len];exact (List.getElem?_eq_some_iff.1 h).1)]
 simp[ptrs,h]
structure HpIn(lo:Nat)(s:St M)(p:Nat)(H:Hp)(N:Nat)(O:Nat→Prop)(tg:Nat→Nat)(pf pn:Nat)(sl:Value)(bs:List Nat):Prop where
 own:∀ b,O b→lo≤b∧b<s.next
 ok:HOk H
 tn:H.T.length≤N
 pin:O p∧tg p=0
 bl:s.at' p=some (.cells [sl,.pointer (some ⟨pf,0,none⟩),.pointer (some ⟨pn,0,none⟩),.int .i64 (H.maxO:Int),.int .i64 (H.maxP:Int)] 149 true)
 row:SlU 176 1 s sl (ptrs bs) bs.length
 rowO:∀ q n c,sl = .slice (some q) n c→O q.block∧tg q.block=0∧q.block≠p
 fo:FAt lo s pf H.F H.most (fun b=>O b∧tg b=1)
 ta:TabAt lo s pn H.T (fun b=>O b∧tg b=2)
 len:bs.length=H.obs.length
 obj:∀ (i b:Nat) (o:Ob),bs[i]?=some b→H.obs[i]?=some o→ObAt lo s N b o (fun c=>O c∧tg c=i+3)
def HpAt(lo:Nat)(s:St M)(p:Nat)(H:Hp)(N:Nat)(O:Nat→Prop):Prop:=HPro H∧∃ tg pf pn sl bs,HpIn lo s p H N O tg pf pn sl bs
theorem HpIn.same{lo:Nat}{s s':St M}{p:Nat}{H:Hp}{N:Nat}{O:Nat→Prop}{tg:Nat→Nat}{pf pn:Nat}{sl:Value}{bs:List Nat}(h:HpIn lo s p H N O tg pf pn sl bs)(hn:s.next≤s'.next)(hs:∀ c,O c→s'.at' c=s.at' c):HpIn lo s' p H N O tg pf pn sl bs:=
 ⟨fun b hb=>⟨(h.own b hb).1,by have:=(h.own b hb).2;omega⟩,h.ok,h.tn,h.pin,by rw[hs _ h.pin.1];exact h.bl,h.row.same fun q n c e=>hs _ (h.rowO q n c e).1,h.rowO,h.fo.same hn fun b hb=>hs b hb.1,h.ta.same hn fun b hb=>hs b hb.1,h.len,fun i b o h1 h2=>(h.obj i b o h1 h2).same hn fun c hc=>hs c hc.1⟩
theorem HpIn.le{lo:Nat}{s s':St M}{p:Nat}{H:Hp}{N:Nat}{O:Nat→Prop}{tg:Nat→Nat}{pf pn:Nat}{sl:Value}{bs:List Nat}(h:HpIn lo s p H N O tg pf pn sl bs)(hs:s.le s'):HpIn lo s' p H N O tg pf pn sl bs:=h.same hs.1 fun c hc=>hs.2 c (h.own c hc).2
theorem HpIn.mono{lo:Nat}{s:St M}{p:Nat}{H:Hp}{N N':Nat}{O:Nat→Prop}{tg:Nat→Nat}{pf pn:Nat}{sl:Value}{bs:List Nat}(h:HpIn lo s p H N O tg pf pn sl bs)(hN:N≤N'):HpIn lo s p H N' O tg pf pn sl bs:=
 ⟨h.own,h.ok,by have:=h.tn;omega,h.pin,h.bl,h.row,h.rowO,h.fo,h.ta,h.len,fun i b o h1 h2=>(h.obj i b o h1 h2).mono hN⟩
theorem HpAt.same{lo:Nat}{s s':St M}{p:Nat}{H:Hp}{N:Nat}{O:Nat→Prop}(h:HpAt lo s p H N O)(hn:s.next≤s'.next)(hs:∀ c,O c→s'.at' c=s.at' c):HpAt lo s' p H N O:=by
 obtain⟨hp,tg,pf,pn,sl,bs,h⟩:=h
 exact⟨hp,tg,pf,pn,sl,bs,h.same hn hs⟩
theorem HpAt.own{lo:Nat}{s:St M}{p:Nat}{H:Hp}{N:Nat}{O:Nat→Prop}(h:HpAt lo s p H N O):∀ b,O b→lo≤b∧b<s.next:=by
 obtain⟨hp,tg,pf,pn,sl,bs,h⟩:=h
 exact h.own
theorem HpAt.ok{lo:Nat}{s:St M}{p:Nat}{H:Hp}{N:Nat}{O:Nat→Prop}(h:HpAt lo s p H N O):HOk H:=by
 obtain⟨hp,tg,pf,pn,sl,bs,h⟩:=h
 exact h.ok
theorem HpAt.le{lo:Nat}{s s':St M}{p:Nat}{H:Hp}{N:Nat}{O:Nat→Prop}(h:HpAt lo s p H N O)(hs:s.le s'):HpAt lo s' p H N O:=h.same hs.1 fun c hc=>hs.2 c (h.own c hc).2
theorem HpAt.mono{lo:Nat}{s:St M}{p:Nat}{H:Hp}{N N':Nat}{O:Nat→Prop}(h:HpAt lo s p H N O)(hN:N≤N'):HpAt lo s p H N' O:=by
 obtain⟨hp,tg,pf,pn,sl,bs,h⟩:=h
 exact⟨hp,tg,pf,pn,sl,bs,h.mono hN⟩
def reO(O:Nat→Prop)(tg:Nat→Nat)(k:Nat)(O':Nat→Prop):Nat→Prop:=fun b=>(O b∧tg b≠k)∨O' b
open Classical in
noncomputable def reT (tg:Nat→Nat) (k:Nat) (O':Nat→Prop):Nat→Nat:=fun b=>if O' b then k else tg b
theorem re_same(O:Nat→Prop)(tg:Nat→Nat)(k:Nat)(O':Nat→Prop):(fun b=>reO O tg k O' b∧reT tg k O' b=k)=O':=by
 funext b
 apply propext
 unfold reO reT
 by_cases h:O' b
 ·simp[h]
 ·simp only[h,if_false,or_false,iff_false]
  rintro⟨⟨_,h2⟩,h3⟩
  exact h2 h3
theorem re_other{O:Nat→Prop}{tg:Nat→Nat}{k j n:Nat}{O':Nat→Prop}(hO:∀ b,O b→b<n)(h:∀ b,O' b→(O b∧tg b=k)∨n≤b)(hjk:j≠k):(fun b=>reO O tg k O' b∧reT tg k O' b=j)=fun b=>O b∧tg b=j:=by
 funext b
 apply propext
 unfold reO reT
 by_cases hb:O' b
 ·simp only[hb,or_true,if_true,true_and]
  constructor
  ·intro e;exact absurd e.symm hjk
  ·rintro⟨h1,h2⟩
   rcases h b hb with ⟨_,h3⟩|h3
   ·rw[h2]at h3;exact absurd h3 hjk
   ·have:=hO b h1;omega
 ·simp only[hb,or_false,if_false]
  constructor
  ·rintro⟨⟨h1,_⟩,h2⟩;exact⟨h1,h2⟩
  ·rintro⟨h1,h2⟩;exact⟨⟨h1,by rw[h2];exact hjk⟩,h2⟩
theorem re_own{O:Nat→Prop}{tg:Nat→Nat}{k lo n n':Nat}{O':Nat→Prop}(hO:∀ b,O b→lo≤b∧b<n)(hn:n≤n')(h:∀ b,O' b→lo≤b∧b<n'):∀ b,reO O tg k O' b→lo≤b∧b<n':=by
 intro b hb
 rcases hb with ⟨h1,_⟩|h1
 ·have:=hO b h1;omega
 ·exact h b h1
theorem re_upd{s s':St M}{O:Nat→Prop}{tg:Nat→Nat}{k:Nat}{O':Nat→Prop}(hU:Upd s s' (fun b=>O b∧tg b=k) O'):Upd s s' O (reO O tg k O'):=by
 refine⟨hU.next,fun b hb ho=>hU.keep b hb fun h=>ho h.1,fun b hb=>?_⟩
 rcases hb with ⟨h1,_⟩|h1
 ·exact .inl h1
 ·rcases hU.own b h1 with h|h
  ·exact .inl h.1
  ·exact .inr h
theorem re_keep{s s':St M}{O:Nat→Prop}{tg:Nat→Nat}{k:Nat}{O':Nat→Prop}{lo:Nat}(hO:∀ b,O b→lo≤b∧b<s.next)(hU:Upd s s' (fun b=>O b∧tg b=k) O'):∀ b,O b→tg b≠k→s'.at' b=s.at' b:=
 fun b hb ht=>hU.keep b (hO b hb).2 fun h=>ht h.2
theorem re_tag{O:Nat→Prop}{tg:Nat→Nat}{k j n b:Nat}{O':Nat→Prop}(hO:∀ b,O b→b<n)(h:∀ b,O' b→(O b∧tg b=k)∨n≤b)(hjk:j≠k)(hb:O b∧tg b=j):reO O tg k O' b∧reT tg k O' b=j:=by
 have:=congrFun (re_other hO h hjk) b
 exact this.mpr hb
theorem HpIn.newF{lo:Nat}{s s':St M}{p:Nat}{H:Hp}{N:Nat}{O O':Nat→Prop}{tg:Nat→Nat}{pf pn:Nat}{sl:Value}{bs:List Nat}{F':List Sh}(h:HpIn lo s p H N O tg pf pn sl bs)(hU:Upd s s' (fun b=>O b∧tg b=1) O')(hF:FAt lo s' pf F' H.most O')(hok:HOk { H with F:=F' }) :
  HpIn lo s' p { H with F:=F' } N (reO O tg 1 O') (reT tg 1 O') pf pn sl bs:=by
 have hO:∀ b,O b→b<s.next:=fun b hb=>(h.own b hb).2
 have hw:∀ b,O' b→(O b∧tg b=1)∨s.next≤b:=hU.own
 have hk:=re_keep h.own hU
 refine⟨re_own h.own hU.next hF.own,hok,h.tn,re_tag hO hw (by omega) h.pin,?_,h.row.same fun q n c e=>?_,fun q n c e=>?_,?_,?_,h.len,fun i b o h1 h2=>?_⟩
 ·rw[hk p h.pin.1 (by rw[h.pin.2];omega)];exact h.bl
 ·have:=h.rowO q n c e
  exact hk _ this.1 (by rw[this.2.1];omega)
 ·have:=h.rowO q n c e
  have h2:=re_tag hO hw (j:=0) (by omega) ⟨this.1,this.2.1⟩
  exact⟨h2.1,h2.2,this.2.2⟩
 ·rw[re_same];exact hF
 ·rw[re_other hO hw (by omega)]
  exact h.ta.same hU.next fun b hb=>hk b hb.1 (by rw[hb.2];omega)
 ·rw[re_other hO hw (by omega)]
  exact (h.obj i b o h1 h2).same hU.next fun c hc=>hk c hc.1 (by rw[hc.2];omega)
theorem HpIn.newT{lo:Nat}{s s':St M}{p:Nat}{H:Hp}{N:Nat}{O O':Nat→Prop}{tg:Nat→Nat}{pf pn:Nat}{sl:Value}{bs:List Nat}{T':List ByteArray}(h:HpIn lo s p H N O tg pf pn sl bs)(hU:Upd s s' (fun b=>O b∧tg b=2) O')(hT:TabAt lo s' pn T' O')(hok:HOk { H with T:=T' })(hTN:T'.length≤N) :
  HpIn lo s' p { H with T:=T' } N (reO O tg 2 O') (reT tg 2 O') pf pn sl bs:=by
 have hO:∀ b,O b→b<s.next:=fun b hb=>(h.own b hb).2
 have hw:∀ b,O' b→(O b∧tg b=2)∨s.next≤b:=hU.own
 have hk:=re_keep h.own hU
 refine⟨re_own h.own hU.next hT.own,hok,hTN,re_tag hO hw (by omega) h.pin,?_,h.row.same fun q n c e=>?_,fun q n c e=>?_,?_,?_,h.len,fun i b o h1 h2=>?_⟩
 ·rw[hk p h.pin.1 (by rw[h.pin.2];omega)];exact h.bl
 ·have:=h.rowO q n c e
  exact hk _ this.1 (by rw[this.2.1];omega)
 ·have:=h.rowO q n c e
  have h2:=re_tag hO hw (j:=0) (by omega) ⟨this.1,this.2.1⟩
  exact⟨h2.1,h2.2,this.2.2⟩
 ·rw[re_other hO hw (by omega)]
  exact h.fo.same hU.next fun b hb=>hk b hb.1 (by rw[hb.2];omega)
 ·rw[re_same];exact hT
 ·rw[re_other hO hw (by omega)]
  exact (h.obj i b o h1 h2).same hU.next fun c hc=>hk c hc.1 (by rw[hc.2];omega)
theorem HpIn.newO{lo:Nat}{s s':St M}{p:Nat}{H:Hp}{N:Nat}{O O':Nat→Prop}{tg:Nat→Nat}{pf pn:Nat}{sl:Value}{bs:List Nat}{j b:Nat}{o':Ob}(h:HpIn lo s p H N O tg pf pn sl bs)(hj:j<H.obs.length)(hb:bs[j]?=some b)(hU:Upd s s' (fun b=>O b∧tg b=j+3) O')(hB:ObAt lo s' N b o' O')(hok:HOk { H with obs:=H.obs.set j o' }) :
  HpIn lo s' p { H with obs:=H.obs.set j o' } N (reO O tg (j+3) O') (reT tg (j+3) O') pf pn sl bs:=by
 have hO:∀ b,O b→b<s.next:=fun b hb=>(h.own b hb).2
 have hw:∀ b,O' b→(O b∧tg b=j+3)∨s.next≤b:=hU.own
 have hk:=re_keep h.own hU
 refine⟨re_own h.own hU.next hB.own,hok,h.tn,re_tag hO hw (by omega) h.pin,?_,h.row.same fun q n c e=>?_,fun q n c e=>?_,?_,?_,by simpa using h.len,fun i b2 o h1 h2=>?_⟩
 ·rw[hk p h.pin.1 (by rw[h.pin.2];omega)];exact h.bl
 ·have:=h.rowO q n c e
  exact hk _ this.1 (by rw[this.2.1];omega)
 ·have:=h.rowO q n c e
  have h2:=re_tag hO hw (j:=0) (by omega) ⟨this.1,this.2.1⟩
  exact⟨h2.1,h2.2,this.2.2⟩
 ·rw[re_other hO hw (by omega)]
  exact h.fo.same hU.next fun b hb=>hk b hb.1 (by rw[hb.2];omega)
 ·rw[re_other hO hw (by omega)]
  exact h.ta.same hU.next fun b hb=>hk b hb.1 (by rw[hb.2];omega)
 ·by_cases e:j=i
  ·subst e
   rw[hb]at h1
   cases h1
   simp only[List.getElem?_set,if_true,hj]at h2
   cases h2
   rw[re_same];exact hB
  ·simp only[List.getElem?_set,e,if_false]at h2
   rw[re_other hO hw (by omega)]
   exact (h.obj i b2 o h1 h2).same hU.next fun c hc=>hk c hc.1 (by rw[hc.2];omega)
theorem HpIn.at{lo:Nat}{s:St M}{p:Nat}{H:Hp}{N:Nat}{O:Nat→Prop}{tg:Nat→Nat}{pf pn:Nat}{sl:Value}{bs:List Nat}(h:HpIn lo s p H N O tg pf pn sl bs){j:Nat}{o:Ob}(ho:H.obs[j]?=some o):∃ b,bs[j]?=some b∧ObAt lo s N b o (fun c=>O c∧tg c=j+3):=by
 have hj:=(List.getElem?_eq_some_iff.1 ho).1
 have hb:bs[j]?=some (bs[j]'(by have:=h.len;omega)):=List.getElem?_eq_getElem _
 exact⟨_,hb,h.obj j _ o hb ho⟩
end
end Go.Proofs.Tryz
namespace Go.Proofs.Tryz
open Go.Cs
open Go.RowKit (Below)
set_option maxRecDepth 100000
attribute [local irreducible] QC WLoop WScope CRound WRange
section
variable {M:Type}[Mem M]{w0:World}{s:St M}{R:Value→St M→Prop}{lo p N pf pn:Nat}{H:Hp}{O:Nat→Prop}{tg:Nat→Nat}{sl:Value}{bs:List Nat}
theorem hdead_spec(h:HpIn lo s p H N O tg pf pn sl bs)(hR:R (.bool false) s):QC Tryz.prog w0 133 #[.pointer (some ⟨p,0,none⟩)] s R:=by
 refine wfun2 hmix ok133 func133 rfl ntmps133 results133 (by simp) ?_
 have hb:=h.bl
 simp -implicitDefEqProofs only[↓Zd,(Zp),Zr,simprocAttr,qP,Value.cells,cut,qC,cld2,(HEx),vA,hb]
 exact hR
theorem hfind_spec(h:HpIn lo s p H N O tg pf pn sl bs){i:Int}(hi : -9223372036854775808≤i∧i≤9223372036854775807)
  (hno:obAt H i=none→R (.pointer none) s)(hyes:∀ (j b:Nat) (o:Ob),i=((j+1:Nat):Int)→bs[j]?=some b→H.obs[j]?=some o→obAt H i=some o→R (.pointer (some ⟨b,0,none⟩)) s) :
  QC Tryz.prog w0 160 #[.pointer (some ⟨p,0,none⟩),.int .i64 i] s R:=by
 refine wfun2 hmix ok160 func160 rfl ntmps160 results160 (by simp) ?_
 have hb:=h.bl
 have hl:=h.len
 by_cases i1:i<1
 ·simp -implicitDefEqProofs only[↓Zd,(Zp),Zr,simprocAttr,qP,Value.cells,cut,qC,cld2,(HEx),vA,i1]
  exact hno (obAt_none.2 (by omega))
 ·have i2:0<i:=by omega
  rcases h.row with ⟨h0,_,rfl⟩|⟨b0,junk,rfl,hb0,_⟩
  ·simp -implicitDefEqProofs only[↓Zd,(Zp),Zr,simprocAttr,qP,Value.cells,cut,qC,cld2,(HEx),vA,hb,i1,i2]
   exact hno (obAt_none.2 (by omega))
  ·by_cases i3:(bs.length:Int)<i
   ·simp -implicitDefEqProofs only[↓Zd,(Zp),Zr,simprocAttr,qP,Value.cells,cut,qC,cld2,(HEx),vA,hb,i1,i2,i3]
    exact hno (obAt_none.2 (by omega))
   ·obtain⟨j,rfl⟩:∃ j:Nat,i=((j+1:Nat):Int):=⟨(i - 1).toNat,by omega⟩
    have w1:IntKind.i64.wrap (((j+1:Nat):Int) - 1)=(j:Int):=by rw[wrap_i64 (by omega)];omega
    have hj:(0:Int)≤(j:Int)∧(j:Int)<(bs.length:Int):=by omega
    have hg:bs[j]?=some (bs[j]'(by omega)):=List.getElem?_eq_getElem _
    have ho:H.obs[j]?=some (H.obs[j]'(by omega)):=List.getElem?_eq_getElem _
    have hgc:=ptrs_get junk hg
    simp -implicitDefEqProofs only[↓Zd,(Zp),Zr,simprocAttr,qP,Value.cells,cut,qC,cld2,(HEx),vA,hb,i1,i2,i3,w1,hj,hb0,hgc,Nat.mul_one]
    exact hyes j _ _ rfl hg ho (by rw[obAt_get,ho])
theorem ObAt.cells{b:Nat}{o:Ob}{OO:Nat→Prop}(h:ObAt lo s N b o OO):∃ t v,s.at' b=some (.cells [.iface t v,.int .i64 (o.proto:Int),.int .i64 (o.epoch:Int)] 184 true):=by
 rcases h.bl with ⟨_,pd,OD,h1,_⟩|⟨_,ps,sl,h1,_⟩
 ·exact⟨_,_,h1⟩
 ·exact⟨_,_,h1⟩
def protoV(H:Hp)(i:Int):Int:=match obAt H i with
 |some o=>(o.proto:Int)
 |none=>0
def epochV(H:Hp)(i:Int):Int:=match obAt H i with
 |some o=>(o.epoch:Int)
 |none=>0
def countV(H:Hp)(i:Int):Int:=match obAt H i with
 |some o=>(o.L.length:Int)
 |none=>0
theorem hproto_spec(h:HpIn lo s p H N O tg pf pn sl bs){i:Int}(hi : -9223372036854775808≤i∧i≤9223372036854775807)(hR:R (.int .i64 (protoV H i)) s):QC Tryz.prog w0 127 #[.pointer (some ⟨p,0,none⟩),.int .i64 i] s R:=by
 refine wfun2 hmix ok127 func127 rfl ntmps127 results127 (by simp) ?_
 unfold protoV at hR
 simp -implicitDefEqProofs only[↓Zd,(Zp),Zr,simprocAttr,qP,Value.cells,cut,qC,cld2,(HEx),vA,co160]
 refine hfind_spec h hi (fun hno=>?_) (fun j b o hij hb ho hat=>?_)
 ·rw[hno]at hR
  simp -implicitDefEqProofs only[↓Zd,(Zp),Zr,simprocAttr,qP,Value.cells,cut,qC,cld2,(HEx),vA]
  exact hR
 ·rw[hat]at hR
  obtain⟨t,v,hc⟩:=(h.obj j b o hb ho).cells
  simp -implicitDefEqProofs only[↓Zd,(Zp),Zr,simprocAttr,qP,Value.cells,cut,qC,cld2,(HEx),vA,hc]
  exact hR
theorem hepoch_spec(h:HpIn lo s p H N O tg pf pn sl bs){i:Int}(hi : -9223372036854775808≤i∧i≤9223372036854775807)(hR:R (.int .i64 (epochV H i)) s):QC Tryz.prog w0 156 #[.pointer (some ⟨p,0,none⟩),.int .i64 i] s R:=by
 refine wfun2 hmix ok156 func156 rfl ntmps156 results156 (by simp) ?_
 unfold epochV at hR
 simp -implicitDefEqProofs only[↓Zd,(Zp),Zr,simprocAttr,qP,Value.cells,cut,qC,cld2,(HEx),vA,co160]
 refine hfind_spec h hi (fun hno=>?_) (fun j b o hij hb ho hat=>?_)
 ·rw[hno]at hR
  simp -implicitDefEqProofs only[↓Zd,(Zp),Zr,simprocAttr,qP,Value.cells,cut,qC,cld2,(HEx),vA]
  exact hR
 ·rw[hat]at hR
  obtain⟨t,v,hc⟩:=(h.obj j b o hb ho).cells
  simp -implicitDefEqProofs only[↓Zd,(Zp),Zr,simprocAttr,qP,Value.cells,cut,qC,cld2,(HEx),vA,hc]
  exact hR
theorem hslotof_spec(h:HpIn lo s p H N O tg pf pn sl bs){i:Int}{x:ByteArray}(hi : -9223372036854775808≤i∧i≤9223372036854775807)(hR:∀ s',s.le s'→R (.int .i64 (slotOf H i x)) s') :
  QC Tryz.prog w0 159 #[.pointer (some ⟨p,0,none⟩),.int .i64 i,.string x] s R:=by
 refine wfun2 hmix ok159 func159 rfl ntmps159 results159 (by simp) ?_
 have hb:=h.bl
 unfold slotOf at hR
 simp -implicitDefEqProofs only[↓Zd,(Zp),Zr,simprocAttr,qP,Value.cells,cut,qC,cld2,(HEx),vA,co133]
 refine hdead_spec h ?_
 simp -implicitDefEqProofs only[↓Zd,(Zp),Zr,simprocAttr,qP,Value.cells,cut,qC,cld2,(HEx),vA,hb,co219]
 refine find_spec h.ta ?_
 cases hx:idxOf H.T x with
 |none =>
  rw[hx]at hR
  simp -implicitDefEqProofs only[↓Zd,(Zp),Zr,simprocAttr,qP,Value.cells,cut,qC,cld2,(HEx),vA]
  exact hR _ (lR _)
 |some j =>
  rw[hx]at hR
  simp -implicitDefEqProofs only[↓Zd,(Zp),Zr,simprocAttr,qP,Value.cells,cut,qC,cld2,(HEx),vA,hb,co220]
  refine fslot_spec h.fo hi fun s1 hs1=>?_
  simp -implicitDefEqProofs only[↓Zd,(Zp),Zr,simprocAttr,qP,Value.cells,cut,qC,cld2,(HEx),vA]
  exact hR _ hs1
theorem sget_spec(h:HpIn lo s p H N O tg pf pn sl bs){j ps:Nat}{o:Ob}{sv:Value}{x:ByteArray}(ho:H.obs[j]?=some o)(hs0:0<o.shape)(hps:s.at' ps=some (.cells [.int .i64 (o.shape:Int),sv] 187 true))(hpn:ps<s.next)(hsv:SlU 31 3 s sv (valsC o.L) o.L.length)(hsn:∀ q n c,sv = .slice (some q) n c→q.block<s.next)
  (hR:∀ s',s.le s'→R (gotV (getP o.L x)) s'):QC Tryz.prog w0 221 #[.pointer (some ⟨ps,0,none⟩),.pointer (some ⟨p,0,none⟩),.string x] s R:=by
 refine wfun2 hmix ok221 func221 rfl ntmps221 results221 (by simp) ?_
 have hne:¬ ps=s.next:=by omega
 have hF12:o.shape≤150:=by
  obtain⟨q0,l,h1,_⟩:=h.ok.fits j o ho hs0
  have:=(List.getElem?_eq_some_iff.1 h1).1
  have:=h.fo.le
  omega
 have hm:o.L.length≤32:=by have:=h.ok.lens j o ho;have:=h.ok.lim;omega
 simp -implicitDefEqProofs only[↓Zd,(Zp),Zr,simprocAttr,qP,Value.cells,cut,qC,cld2,(HEx),vA,hps,hne,co159]
 refine hslotof_spec (i:=(o.shape:Int)) (h.le (lN (lR _))) (by omega) fun s1 hs1=>?_
 have hn1:=hs1.1
 simp only[St.next_new]at hn1
 have k1:∀ c,c<s.next→s1.at' c=s.at' c:=fun c hc=>by rw[hs1.2 c (by simp only[St.next_new];omega),St.at_new,if_neg (by omega)]
 have e1:s1.at' s.next=some (.cells [.int .i64 0,.int .i64 0,.string ⟨#[]⟩] 31 true):=by rw[hs1.2 _ (by simp only[St.next_new];omega),St.at_new,if_pos rfl]
 rcases slot_fits h.ok ho hs0 x with ⟨g1,g2⟩|⟨k,v,g1,g2,g3⟩
 ·rw[g2]at hR
  rw[g1]
  simp -implicitDefEqProofs only[↓Zd,(Zp),Zr,simprocAttr,qP,Value.cells,cut,qC,cld2,(HEx),vA,e1]
  exact hR _ (lP (lT (lN (lR _)) hs1) (by omega))
 ·rw[g3]at hR
  rw[g1]
  have hk0:¬ (k:Int)<0:=by omega
  have hkl:=(List.getElem?_eq_some_iff.1 g2).1
  rcases hsv with ⟨e0,_⟩|⟨b,junk,rfl,hb,_⟩
  ·omega
  have hps1:s1.at' ps=some (.cells [.int .i64 (o.shape:Int),.slice (some ⟨b,0,none⟩) o.L.length UNK] 187 true):=by rw[k1 ps hpn];exact hps
  have hb1:s1.at' b=some (.cells (valsC o.L++junk) 31 true):=by rw[k1 b (hsn _ _ _ rfl)];exact hb
  have hbn:¬ b=s.next:=by have:=hsn _ _ _ rfl;simp only at this;omega
  obtain⟨c1,c2⟩:=valsC_cut o.L k x v junk g2
  have hkk:(0:Int)≤(k:Int)∧(k:Int)<(o.L.length:Int):=by omega
  simp -implicitDefEqProofs only[↓Zd,(Zp),Zr,simprocAttr,qP,Value.cells,cut,qC,cld2,(HEx),vA,e1,hk0,hps1,hkk,hb1,c1,c2]
  exact hR _ (lP (lT (lN (lR _)) hs1) (by omega))
theorem lget_spec{pd:Nat}{L:List (ByteArray×V3)}{OD:Nat→Prop}{hp:Value}{x:ByteArray}(hD:DictAt lo s pd L N OD)(hR:∀ s',s.le s'→R (gotV (getP L x)) s') :
  QC Tryz.prog w0 222 #[.agg #[.pointer (some ⟨pd,0,none⟩)],hp,.string x] s R:=by
 refine wfun2 hmix ok222 func222 rfl ntmps222 results222 (by simp) ?_
 have hn:¬ s.next=s.next+1:=by omega
 simp -implicitDefEqProofs only[↓Zd,(Zp),Zr,simprocAttr,qP,Value.cells,cut,qC,cld2,(HEx),vA,hn,co269]
 refine dget_spec (hD.same (s':=((s.new _).new _)) (by simp only[St.next_new];omega) fun b hb=>by have:=(hD.own b hb).2;rw[St.at_new,if_neg (by simp only[St.next_new];omega),St.at_new,if_neg (by omega)]) fun s1 hs1=>?_
 have hn1:=hs1.1
 simp only[St.next_new]at hn1
 have e1:s1.at' (s.next+1)=some (.cells [.int .i64 0,.int .i64 0,.string ⟨#[]⟩] 31 true):=by rw[hs1.2 _ (by simp only[St.next_new];omega),St.at_new,if_pos (by simp only[St.next_new])]
 cases hg:getP L x with
 |none =>
  rw[hg]at hR
  unfold gotV at *
  simp -implicitDefEqProofs only[↓Zd,(Zp),Zr,simprocAttr,qP,Value.cells,cut,qC,cld2,(HEx),vA,e1]
  exact hR _ (lP (lT (lN (lN (lR _))) hs1) (by omega))
 |some v =>
  rw[hg]at hR
  obtain⟨a,b,c⟩:=v
  unfold gotV vOf at *
  simp -implicitDefEqProofs only[↓Zd,(Zp),Zr,simprocAttr,qP,Value.cells,cut,qC,cld2,(HEx),vA,e1]
  exact hR _ (lP (lT (lN (lN (lR _))) hs1) (by omega))
theorem hown0_spec(h:HpIn lo s p H N O tg pf pn sl bs){j b:Nat}{o:Ob}{x:ByteArray}(hb:bs[j]?=some b)(ho:H.obs[j]?=some o)
  (hR:∀ s',s.le s'→R (gotV (getP o.L x)) s'):QC Tryz.prog w0 161 #[.pointer (some ⟨p,0,none⟩),.pointer (some ⟨b,0,none⟩),.string x] s R:=by
 refine wfun2 hmix ok161 func161 rfl ntmps161 results161 (by simp) ?_
 have hB:=h.obj j b o hb ho
 have hbn:=(hB.own b hB.pin).2
 have hne:¬ b=s.next:=by omega
 rcases hB.bl with ⟨h0,pd,OD,h1,h2,h3⟩|⟨h0,ps,sv,h1,h2,h3,h4,h5,h6⟩
 ·have hn:¬ s.next=s.next+1:=by omega
  simp -implicitDefEqProofs only[↓Zd,(Zp),Zr,simprocAttr,qP,Value.cells,cut,qC,cld2,(HEx),vA,h1,hne,hn,co222]
  refine lget_spec (h2.same (s':=((s.new _).new _).put (s.next+1) _) (by simp only[(Sn)];omega) fun b hb=>by have:=(h2.own b hb).2;rw[St.at_put,if_neg (by omega),St.at_new,if_neg (by simp only[St.next_new];omega),St.at_new,if_neg (by omega)]) fun s1 hs1=>?_
  have hn1:=hs1.1
  simp only[(Sn)]at hn1
  have e1:s1.at' s.next=some (.cells [.int .i64 0,.int .i64 0,.string ⟨#[]⟩] 31 true):=by rw[hs1.2 _ (by simp only[(Sn)];omega),St.at_put,if_neg (by omega),St.at_new,if_neg (by simp only[St.next_new];omega),St.at_new,if_pos rfl]
  have hle:s.le s1:=lT (lP (lN (lN (lR _))) (by omega)) hs1
  cases hg:getP o.L x with
  |none =>
   rw[hg]at hR
   unfold gotV at *
   simp -implicitDefEqProofs only[↓Zd,(Zp),Zr,simprocAttr,qP,Value.cells,cut,qC,cld2,(HEx),vA,e1]
   exact hR _ (lP hle (by omega))
  |some v =>
   rw[hg]at hR
   obtain⟨a,b,c⟩:=v
   unfold gotV vOf at *
   simp -implicitDefEqProofs only[↓Zd,(Zp),Zr,simprocAttr,qP,Value.cells,cut,qC,cld2,(HEx),vA,e1]
   exact hR _ (lP hle (by omega))
 ·simp -implicitDefEqProofs only[↓Zd,(Zp),Zr,simprocAttr,qP,Value.cells,cut,qC,cld2,(HEx),vA,h1,hne,co221]
  have hpsn:=(hB.own ps h3).2
  refine sget_spec (ps:=ps) (h.le (lN (lR _))) ho h0 (by rw[St.at_new,if_neg (by omega)];exact h2) (by simp only[St.next_new];omega) (h5.same fun q n c e=>by have:=(hB.own _ (h6 q n c e).1).2;rw[St.at_new,if_neg (by omega)]) (fun q n c e=>by have:=(hB.own _ (h6 q n c e).1).2;simp only[St.next_new];omega) fun s1 hs1=>?_
  have hn1:=hs1.1
  simp only[St.next_new]at hn1
  have e1:s1.at' s.next=some (.cells [.int .i64 0,.int .i64 0,.string ⟨#[]⟩] 31 true):=by rw[hs1.2 _ (by simp only[St.next_new];omega),St.at_new,if_pos rfl]
  have hle:s.le s1:=lT (lN (lR _)) hs1
  cases hg:getP o.L x with
  |none =>
   rw[hg]at hR
   unfold gotV at *
   simp -implicitDefEqProofs only[↓Zd,(Zp),Zr,simprocAttr,qP,Value.cells,cut,qC,cld2,(HEx),vA,e1]
   exact hR _ (lP hle (by omega))
  |some v =>
   rw[hg]at hR
   obtain⟨a,b,c⟩:=v
   unfold gotV vOf at *
   simp -implicitDefEqProofs only[↓Zd,(Zp),Zr,simprocAttr,qP,Value.cells,cut,qC,cld2,(HEx),vA,e1]
   exact hR _ (lP hle (by omega))
end
end Go.Proofs.Tryz
namespace Go.Proofs.Tryz
open Go.Cs
open Go.RowKit (Below)
set_option maxRecDepth 100000
attribute [local irreducible] QC WLoop WScope CRound WRange
inductive GetR (H:Hp) (x:ByteArray):Int→V3→Prop
 |none {i:Int}(h:obAt H i=none):GetR H x i (0,0,⟨#[]⟩)
 |own {i:Int}{o:Ob}{v:V3}(h:obAt H i=some o) (hv:getP o.L x=some v):GetR H x i v
 |up {i:Int}{o:Ob}{v:V3}(h:obAt H i=some o) (hv:getP o.L x=none) (hu:GetR H x o.proto v):GetR H x i v
theorem GetR.one{H:Hp}{x:ByteArray}{i:Int}{v w:V3}(h1:GetR H x i v)(h2:GetR H x i w):v=w:=by
 induction h1 with
 |none h=>cases h2 with
  |none _=>rfl
  |own h' _=>rw[h]at h';cases h'
  |up h' _ _=>rw[h]at h';cases h'
 |own h hv=>cases h2 with
  |none h'=>rw[h]at h';cases h'
  |own h' hv'=>rw[h]at h';cases h';rw[hv]at hv';cases hv';rfl
  |up h' hv' _=>rw[h]at h';cases h';rw[hv]at hv';cases hv'
 |up h hv _ ih=>cases h2 with
  |none h'=>rw[h]at h';cases h'
  |own h' hv'=>rw[h]at h';cases h';rw[hv]at hv';cases hv'
  |up h' _ hu'=>rw[h]at h';cases h';exact ih hu'
section
variable {M:Type}[Mem M]{w0:World}{s:St M}{R:Value→St M→Prop}{lo p N pf pn:Nat}{H:Hp}{O:Nat→Prop}{tg:Nat→Nat}{sl:Value}{bs:List Nat}
theorem hcount0_spec{b:Nat}{o:Ob}{OO:Nat→Prop}(hB:ObAt lo s N b o OO)
  (hR:∀ s',s.le s'→R (.int .i64 (o.L.length:Int)) s'):QC Tryz.prog w0 163 #[.pointer (some ⟨b,0,none⟩)] s R:=by
 refine wfun2 hmix ok163 func163 rfl ntmps163 results163 (by simp) ?_
 have hbn:=(hB.own b hB.pin).2
 have hne:¬ b=s.next:=by omega
 rcases hB.bl with ⟨h0,pd,OD,h1,h2,h3⟩|⟨h0,ps,sv,h1,h2,h3,h4,h5,h6⟩
 ·simp -implicitDefEqProofs only[↓Zd,(Zp),Zr,simprocAttr,qP,Value.cells,cut,qC,cld2,(HEx),vA,h1,hne,co224]
  refine wfun2 hmix ok224 func224 rfl ntmps224 results224 (by simp) ?_
  have hn:¬ s.next+1=s.next:=by omega
  simp -implicitDefEqProofs only[↓Zd,(Zp),Zr,simprocAttr,qP,Value.cells,cut,qC,cld2,(HEx),vA,hn,co270]
  refine dlen_spec (h2.same (s':=((s.new _).put s.next _).new _) (by simp only[(Sn)];omega) fun b hb=>by have:=(h2.own b hb).2;rw[St.at_new,if_neg (by simp only[(Sn)];omega),St.at_put,if_neg (by omega),St.at_new,if_neg (by omega)]) ?_
  simp -implicitDefEqProofs only[↓Zd,(Zp),Zr,simprocAttr,qP,Value.cells,cut,qC,cld2,(HEx),vA]
  exact hR _ (by repeat (first|exact lR _|assumption|refine lN ?_|refine lP ?_ (by first|omega|(simp only[(Sn)];omega))|refine lT ?_ (by assumption)))
 ·simp -implicitDefEqProofs only[↓Zd,(Zp),Zr,simprocAttr,qP,Value.cells,cut,qC,cld2,(HEx),vA,h1,hne,co223]
  refine wfun2 hmix ok223 func223 rfl ntmps223 results223 (by simp) ?_
  rcases h5 with ⟨e0,_,rfl⟩|⟨b2,junk,rfl,_⟩
  ·rw[e0]at hR
   simp -implicitDefEqProofs only[↓Zd,(Zp),Zr,simprocAttr,qP,Value.cells,cut,qC,cld2,(HEx),vA,h2]
   exact hR _ (lR _)
  ·simp -implicitDefEqProofs only[↓Zd,(Zp),Zr,simprocAttr,qP,Value.cells,cut,qC,cld2,(HEx),vA,h2]
   exact hR _ (lR _)
theorem hcount_spec(h:HpIn lo s p H N O tg pf pn sl bs){i:Int}(hi : -9223372036854775808≤i∧i≤9223372036854775807)(hR:∀ s',s.le s'→R (.int .i64 (countV H i)) s'):QC Tryz.prog w0 128 #[.pointer (some ⟨p,0,none⟩),.int .i64 i] s R:=by
 refine wfun2 hmix ok128 func128 rfl ntmps128 results128 (by simp) ?_
 unfold countV at hR
 simp -implicitDefEqProofs only[↓Zd,(Zp),Zr,simprocAttr,qP,Value.cells,cut,qC,cld2,(HEx),vA,co160]
 refine hfind_spec h hi (fun hno=>?_) (fun j b o hij hb ho hat=>?_)
 ·rw[hno]at hR
  simp -implicitDefEqProofs only[↓Zd,(Zp),Zr,simprocAttr,qP,Value.cells,cut,qC,cld2,(HEx),vA]
  exact hR _ (lR _)
 ·rw[hat]at hR
  simp -implicitDefEqProofs only[↓Zd,(Zp),Zr,simprocAttr,qP,Value.cells,cut,qC,cld2,(HEx),vA,co163]
  refine hcount0_spec (h.obj j b o hb ho) fun s1 hs1=>?_
  simp -implicitDefEqProofs only[↓Zd,(Zp),Zr,simprocAttr,qP,Value.cells,cut,qC,cld2,(HEx),vA]
  exact hR _ hs1
theorem keyV_fits(h:HOk H)(hF:FOk H.F){j:Nat}{o:Ob}(ho:H.obs[j]?=some o)(hs:0<o.shape){k:Nat}(hk:k<o.L.length) :
  (namesOf H.F (o.shape:Int)).length=o.L.length∧∃ n,(namesOf H.F (o.shape:Int)).reverse[k]?=some n∧txtV H.T (n:Int)=keyV o.L (k:Int):=by
 obtain⟨q0,l,h1,h2⟩:=h.fits j o ho hs
 rw[namesOf_at hs h1]
 have hl:l.length=o.L.length:=by
  have:=congrArg List.length h2
  simpa using this
 refine⟨hl,l.reverse[k]'(by simp;omega),List.getElem?_eq_getElem _,?_⟩
 generalize hn:l.reverse[k]'(by simp;omega)=n
 have hm:n∈l:=by
  have:n∈l.reverse:=by rw[← hn];exact List.getElem_mem _
  simpa using this
 obtain⟨g1,g2⟩:=h.ids _ _ h1 n hm
 have hx:txt H.T n=(o.L[k]).1:=by
  have:(l.reverse.map (txt H.T))[k]?=(o.L.map (·.1))[k]?:=by rw[h2]
  rw[List.getElem?_map,List.getElem?_map,List.getElem?_eq_getElem (by simp;omega),List.getElem?_eq_getElem hk,hn]at this
  simpa using this
 unfold txtV keyV
 rw[if_pos (by omega),if_pos (by omega)]
 simp only[Int.toNat_natCast]
 rw[List.getD_eq_getElem?_getD (l:=o.L),List.getElem?_eq_getElem hk]
 simp only[Option.getD_some]
 rw[← hx]
 rfl
theorem hkey_spec(h:HpIn lo s p H N O tg pf pn sl bs){i k:Int}(hN:N≤1000000)(hi : -9223372036854775808≤i∧i≤9223372036854775807)(hk : -9223372036854775808≤k∧k≤9223372036854775807)
  (hR:∀ s',s.le s'→R (match obAt H i with|some o=>keyV o.L k|none => .tuple #[.string ⟨#[]⟩,.bool false]) s'):QC Tryz.prog w0 129 #[.pointer (some ⟨p,0,none⟩),.int .i64 i,.int .i64 k] s R:=by
 refine wfun2 hmix ok129 func129 rfl ntmps129 results129 (by simp) ?_
 simp -implicitDefEqProofs only[↓Zd,(Zp),Zr,simprocAttr,qP,Value.cells,cut,qC,cld2,(HEx),vA,co160]
 refine hfind_spec h hi (fun hno=>?_) (fun j b o hij hb ho hat=>?_)
 ·rw[hno]at hR
  simp -implicitDefEqProofs only[↓Zd,(Zp),Zr,simprocAttr,qP,Value.cells,cut,qC,cld2,(HEx),vA]
  exact hR _ (lR _)
 ·rw[hat]at hR
  simp only at hR
  have hB:=h.obj j b o hb ho
  have hbn:=(hB.own b hB.pin).2
  have hne:¬ b=s.next:=by omega
  rcases hB.bl with ⟨h0,pd,OD,h1,h2,h3⟩|⟨h0,ps,sv,h1,h2,h3,h4,h5,h6⟩
  ·simp -implicitDefEqProofs only[↓Zd,(Zp),Zr,simprocAttr,qP,Value.cells,cut,qC,cld2,(HEx),vA,h1,hne,co200]
   refine wfun2 hmix ok200 func200 rfl ntmps200 results200 (by simp) ?_
   have hn:¬ s.next+1=s.next:=by omega
   simp -implicitDefEqProofs only[↓Zd,(Zp),Zr,simprocAttr,qP,Value.cells,cut,qC,cld2,(HEx),vA,hn,co261]
   refine dkey_spec (h2.same (s':=((s.new _).put s.next _).new _) (by simp only[(Sn)];omega) fun b hb=>by have:=(h2.own b hb).2;rw[St.at_new,if_neg (by simp only[(Sn)];omega),St.at_put,if_neg (by omega),St.at_new,if_neg (by omega)]) hN hk fun s1 hs1=>?_
   have hle:s.le s1:=lT (lN (lP (lN (lR _)) (by omega))) hs1
   unfold keyV at *
   split at hR
   ·rename_i hc
    simp only[if_pos hc]
    simp -implicitDefEqProofs only[↓Zd,(Zp),Zr,simprocAttr,qP,Value.cells,cut,qC,cld2,(HEx),vA]
    exact hR _ hle
   ·rename_i hc
    simp only[if_neg hc]
    simp -implicitDefEqProofs only[↓Zd,(Zp),Zr,simprocAttr,qP,Value.cells,cut,qC,cld2,(HEx),vA]
    exact hR _ hle
  ·simp -implicitDefEqProofs only[↓Zd,(Zp),Zr,simprocAttr,qP,Value.cells,cut,qC,cld2,(HEx),vA,h1,hne,co199]
   refine wfun2 hmix ok199 func199 rfl ntmps199 results199 (by simp) ?_
   have hpsn:=(hB.own ps h3).2
   have hhb:=h.bl
   have hF12:o.shape≤150:=by
    obtain⟨q0,l,h1,_⟩:=h.ok.fits j o ho h0
    have:=(List.getElem?_eq_some_iff.1 h1).1
    have:=h.fo.le
    omega
   have hm:o.L.length≤32:=by have:=h.ok.lens j o ho;have:=h.ok.lim;omega
   have hNl:(namesOf H.F (o.shape:Int)).length=o.L.length:=by
    obtain⟨q0,l,g1,g2⟩:=h.ok.fits j o ho h0
    rw[namesOf_at h0 g1]
    have:=congrArg List.length g2
    simpa using this
   simp -implicitDefEqProofs only[↓Zd,(Zp),Zr,simprocAttr,qP,Value.cells,cut,qC,cld2,(HEx),vA,hhb,h2,ord199,co259]
   refine fnames_spec h.fo (by omega) fun s1 sn hs1 hsn hsb=>?_
   rw[hNl]at hsn
   have hn1:=hs1.1
   have hb1:s1.at' p=_:=(hs1.2 p (h.own p h.pin.1).2).trans hhb
   obtain⟨an,cn,rfl⟩:∃ a c,sn = .slice a o.L.length c:=by
    rcases hsn with ⟨e1,_,rfl⟩|⟨b2,junk,rfl,_⟩
    ·exact⟨none,0,by rw[e1]⟩
    ·exact⟨_,_,rfl⟩
   by_cases k1:k<0
   ·have hkV:keyV o.L k = .tuple #[.string ⟨#[]⟩,.bool false]:=by unfold keyV;rw[if_neg (by omega)]
    rw[hkV]at hR
    simp -implicitDefEqProofs only[↓Zd,(Zp),Zr,simprocAttr,qP,Value.cells,cut,qC,cld2,(HEx),vA,underlying88,sz88,is88,ce88,ag88,ze88,k1]
    exact hR _ hs1
   ·by_cases k2:(o.L.length:Int)≤k
    ·have hkV:keyV o.L k = .tuple #[.string ⟨#[]⟩,.bool false]:=by unfold keyV;rw[if_neg (by omega)]
     rw[hkV]at hR
     simp -implicitDefEqProofs only[↓Zd,(Zp),Zr,simprocAttr,qP,Value.cells,cut,qC,cld2,(HEx),vA,underlying88,sz88,is88,ce88,ag88,ze88,k1,k2]
     exact hR _ hs1
    ·obtain⟨m,rfl⟩:∃ m:Nat,k=(m:Int):=⟨k.toNat,by omega⟩
     obtain⟨_,n,g1,g2⟩:=keyV_fits h.ok h.fo.ok ho h0 (k:=m) (by omega)
     rw[← g2]at hR
     have hnT:1≤n∧n≤H.T.length:=by
      have hm2:=List.mem_of_getElem? g1
      obtain⟨q0,l,q1,q2⟩:=h.ok.fits j o ho h0
      rw[namesOf_at h0 q1]at hm2
      exact h.ok.ids _ _ q1 n (by simpa using hm2)
     have htn:=h.tn
     rcases hsn with ⟨e0,_⟩|⟨b2,junk,e2,hb2,_⟩
     ·omega
     cases e2
     have hkk:(0:Int)≤(m:Int)∧(m:Int)<(o.L.length:Int):=by omega
     have hg:=ints_get (l:=(namesOf H.F (o.shape:Int)).reverse) (k:=m) junk (by simp;omega)
     have hgn:(namesOf H.F (o.shape:Int)).reverse[m]'(by simp;omega)=n:=(List.getElem?_eq_some_iff.1 g1).2
     rw[hgn]at hg
     simp -implicitDefEqProofs only[↓Zd,(Zp),Zr,simprocAttr,qP,Value.cells,cut,qC,cld2,(HEx),vA,underlying88,sz88,is88,ce88,ag88,ze88,k1,k2,hb1,hb2,hkk,hg,ord199,co260,Nat.mul_one]
     refine text_spec (by omega) ((h.le hs1).ta) ?_
     unfold txtV at *
     split at hR
     ·rename_i hc
      simp only[if_pos hc]
      simp -implicitDefEqProofs only[↓Zd,(Zp),Zr,simprocAttr,qP,Value.cells,cut,qC,cld2,(HEx),vA,ord199]
      exact hR _ hs1
     ·rename_i hc
      simp only[if_neg hc]
      simp -implicitDefEqProofs only[↓Zd,(Zp),Zr,simprocAttr,qP,Value.cells,cut,qC,cld2,(HEx),vA,ord199]
      exact hR _ hs1
theorem hown_spec(h:HpIn lo s p H N O tg pf pn sl bs){i:Int}{x:ByteArray}(hi : -9223372036854775808≤i∧i≤9223372036854775807)
  (hR:∀ s',s.le s'→R (gotV ((obAt H i).bind fun o=>getP o.L x)) s'):QC Tryz.prog w0 130 #[.pointer (some ⟨p,0,none⟩),.int .i64 i,.string x] s R:=by
 refine wfun2 hmix ok130 func130 rfl ntmps130 results130 (by simp) ?_
 have l1:s.le (s.new (.cells [.int .i64 0,.int .i64 0,.string ⟨#[]⟩] 31 true)):=lN (lR _)
 simp -implicitDefEqProofs only[↓Zd,(Zp),Zr,simprocAttr,qP,Value.cells,cut,qC,cld2,(HEx),vA,co160]
 refine hfind_spec (h.le l1) hi (fun hno=>?_) (fun j b o hij hb ho hat=>?_)
 ·rw[hno]at hR
  simp only[Option.bind_none,gotV]at hR
  simp -implicitDefEqProofs only[↓Zd,(Zp),Zr,simprocAttr,qP,Value.cells,cut,qC,cld2,(HEx),vA]
  exact hR _ (by repeat (first|exact lR _|assumption|refine lN ?_|refine lP ?_ (by first|omega|(simp only[(Sn)];omega))|refine lT ?_ (by assumption)))
 ·rw[hat]at hR
  simp only[Option.bind_some]at hR
  simp -implicitDefEqProofs only[↓Zd,(Zp),Zr,simprocAttr,qP,Value.cells,cut,qC,cld2,(HEx),vA,co161]
  refine hown0_spec (h.le l1) hb ho fun s1 hs1=>?_
  have hn1:=hs1.1
  simp only[St.next_new]at hn1
  have e1:s1.at' s.next=some (.cells [.int .i64 0,.int .i64 0,.string ⟨#[]⟩] 31 true):=by rw[hs1.2 _ (by simp only[St.next_new];omega),St.at_new,if_pos rfl]
  have hle:s.le s1:=lT l1 hs1
  cases hg:getP o.L x with
  |none =>
   rw[hg]at hR
   unfold gotV at *
   simp -implicitDefEqProofs only[↓Zd,(Zp),Zr,simprocAttr,qP,Value.cells,cut,qC,cld2,(HEx),vA,e1]
   exact hR _ (lP hle (by omega))
  |some v =>
   rw[hg]at hR
   obtain⟨a,b,c⟩:=v
   unfold gotV vOf at *
   simp -implicitDefEqProofs only[↓Zd,(Zp),Zr,simprocAttr,qP,Value.cells,cut,qC,cld2,(HEx),vA,e1]
   exact hR _ (lP hle (by omega))
end
end Go.Proofs.Tryz
namespace Go.Proofs.Tryz
open Go.Cs
open Go.RowKit (Below)
set_option maxRecDepth 100000
attribute [local irreducible] QC WLoop WScope CRound WRange
def Deep(H:Hp)(d:Nat→Nat):Prop:=∀ (i:Nat) (o:Ob),H.obs[i]?=some o→o.proto=0∨o.proto≤H.obs.length∧d o.proto<d (i+1)
def Way(H:Hp)(d:Nat→Nat)(bs:List Nat)(v:Value)(i:Int)(fuel:Nat):Prop:=
 (obAt H i=none∧v = .pointer none∧fuel=0)∨∃ (j b:Nat) (o:Ob),i=((j+1:Nat):Int)∧bs[j]?=some b∧H.obs[j]?=some o∧v = .pointer (some ⟨b,0,none⟩)∧fuel=d (j+1)+1
theorem Way.up{H:Hp}{d:Nat→Nat}(hd:Deep H d){j b2 j2:Nat}{o o2:Ob}{bs:List Nat}(ho:H.obs[j]?=some o)(hij:(o.proto:Int)=((j2+1:Nat):Int))(hb:bs[j2]?=some b2)(ho2:H.obs[j2]?=some o2) :
  d (j2+1)+1<d (j+1)+1∧Way H d bs (.pointer (some ⟨b2,0,none⟩)) (o.proto:Int) (d (j2+1)+1):=by
 refine⟨?_,.inr ⟨j2,b2,o2,hij,hb,ho2,rfl,rfl⟩⟩
 rcases hd j o ho with h|⟨_,h⟩
 ·omega
 ·have:o.proto=j2+1:=by omega
  rw[this]at h;omega
inductive OnR (H:Hp) (o:Int):Int→Bool→Prop
 |here:OnR H o o true
 |zero (h:¬ 0=o):OnR H o 0 false
 |up {p:Int}{b:Bool}(h0:¬ p=0) (h1:¬ p=o) (hu:OnR H o (protoV H p) b):OnR H o p b
section
variable {M:Type}[Mem M]{w0:World}{s:St M}{R:Value→St M→Prop}{lo p N pf pn:Nat}{H:Hp}{O:Nat→Prop}{tg:Nat→Nat}{sl:Value}{bs:List Nat}
theorem hget_spec(h:HpIn lo s p H N O tg pf pn sl bs){i:Int}{x:ByteArray}(hi : -9223372036854775808≤i∧i≤9223372036854775807)
  (hR:∀ s' v,s.le s'→GetR H x i v→R (vOf v) s'):QC Tryz.prog w0 109 #[.pointer (some ⟨p,0,none⟩),.int .i64 i,.string x] s R:=by
 refine wfun2 hmix ok109 func109 rfl ntmps109 results109 (by simp) ?_
 have l1:s.le (s.new (.cells [.int .i64 0,.int .i64 0,.string ⟨#[]⟩] 31 true)):=lN (lR _)
 obtain⟨d,hd⟩:=h.ok.up
 have hd:Deep H d:=hd
 have hplim:∀ (i:Nat) (o:Ob),H.obs[i]?=some o→o.proto≤200:=fun i o ho=>by
  have:=h.ok.lim
  rcases hd i o ho with h|⟨h,_⟩<;>omega
 simp -implicitDefEqProofs only[↓Zd,(Zp),Zr,simprocAttr,qP,Value.cells,cut,qC,cld2,(HEx),vA,co160]
 refine hfind_spec (h.le l1) hi (fun hno=>?_) (fun j b o hij hb ho hat=>?_)
 ·simp -implicitDefEqProofs only[↓Zd,(Zp),Zr,simprocAttr,qP,Value.cells,cut,qC,cld2,(HEx),vA]
  refine wloop_fix hmix [8,9,13,14,15,16,17,18,19,20,21,22,23,24,25,26,27,28,29,7] (fun fuel env s1=>(s.new (.cells [.int .i64 0,.int .i64 0,.string ⟨#[]⟩] 31 true)).le s1∧env 7 = .pointer none) 0 ⟨lR _,rfl⟩ ?_
  rintro fuel env s1 hFx ⟨hs1,e7⟩
  have e6:env 6 = .pointer (some ⟨s.next,0,none⟩):=by rw[hFx 6 rfl];rfl
  have hn1:=hs1.1
  simp only[St.next_new]at hn1
  have c6:s1.at' s.next=some (.cells [.int .i64 0,.int .i64 0,.string ⟨#[]⟩] 31 true):=by rw[hs1.2 _ (by simp only[St.next_new];omega),St.at_new,if_pos rfl]
  simp -implicitDefEqProofs only[↓Zd,(Zp),Zr,simprocAttr,qP,Value.cells,cut,qC,cld2,(HEx),vA,e6,e7,c6]
  exact hR _ (0,0,⟨#[]⟩) (lP (lT l1 hs1) (by omega)) (.none hno)
 ·simp -implicitDefEqProofs only[↓Zd,(Zp),Zr,simprocAttr,qP,Value.cells,cut,qC,cld2,(HEx),vA]
  refine wloop_fix hmix [8,9,13,14,15,16,17,18,19,20,21,22,23,24,25,26,27,28,29,7] (fun fuel env s1=>(s.new (.cells [.int .i64 0,.int .i64 0,.string ⟨#[]⟩] 31 true)).le s1∧∃ i',Way H d bs (env 7) i' fuel∧∀ v,GetR H x i' v→GetR H x i v) (d (j+1)+1) ⟨lR _,i,.inr ⟨j,b,o,hij,hb,ho,rfl,rfl⟩,fun v h=>h⟩ ?_
  rintro fuel env s1 hFx ⟨hs1,i',hway,himp⟩
  have e0:env 0 = .pointer (some ⟨p,0,none⟩):=by rw[hFx 0 rfl];rfl
  have e2:env 2 = .string x:=by rw[hFx 2 rfl];rfl
  have e6:env 6 = .pointer (some ⟨s.next,0,none⟩):=by rw[hFx 6 rfl];rfl
  have hn1:=hs1.1
  simp only[St.next_new]at hn1
  have c6:s1.at' s.next=some (.cells [.int .i64 0,.int .i64 0,.string ⟨#[]⟩] 31 true):=by rw[hs1.2 _ (by simp only[St.next_new];omega),St.at_new,if_pos rfl]
  have hle1:=lT l1 hs1
  rcases hway with ⟨hno,e7,rfl⟩|⟨j1,b1,o1,rfl,hb1,ho1,e7,rfl⟩
  ·simp -implicitDefEqProofs only[↓Zd,(Zp),Zr,simprocAttr,qP,Value.cells,cut,qC,cld2,(HEx),vA,e6,e7,c6]
   exact hR _ (0,0,⟨#[]⟩) (lP hle1 (by omega)) (himp _ (.none hno))
  ·simp -implicitDefEqProofs only[↓Zd,(Zp),Zr,simprocAttr,qP,Value.cells,cut,qC,cld2,(HEx),vA,e0,e2,e7,co161]
   refine hown0_spec (h.le hle1) hb1 ho1 fun s2 hs2=>?_
   have hn2:=hs2.1
   have hle2:=lT hle1 hs2
   have c62:s2.at' s.next=some (.cells [.int .i64 0,.int .i64 0,.string ⟨#[]⟩] 31 true):=by rw[hs2.2 _ (by omega)];exact c6
   have hne:¬ s.next=s2.next:=by omega
   cases hg:getP o1.L x with
   |some v =>
    obtain⟨a1,a2,a3⟩:=v
    unfold gotV vOf
    simp -implicitDefEqProofs only[↓Zd,(Zp),Zr,simprocAttr,qP,Value.cells,cut,qC,cld2,(HEx),vA,e0,e2,e6,e7,c62,hne]
    exact hR _ (a1,a2,a3) (lP (lP (lN hle2) (by omega)) (by omega)) (himp _ (.own (by rw[obAt_get];exact ho1) hg))
   |none =>
    obtain⟨t7,v7,hc⟩:=(h.obj j1 b1 o1 hb1 ho1).cells
    have hb1n:b1<s.next:=by have hB:=h.obj j1 b1 o1 hb1 ho1;exact (hB.own b1 hB.pin).2
    have hc2:s2.at' b1=_:=(hle2.2 b1 hb1n).trans hc
    have hne2:¬ b1=s2.next:=by omega
    have hpl:=hplim j1 o1 ho1
    unfold gotV
    simp -implicitDefEqProofs only[↓Zd,(Zp),Zr,simprocAttr,qP,Value.cells,cut,qC,cld2,(HEx),vA,e0,e2,e6,e7,c62,hne,hne2,hc2,co160]
    have hle3:s.le ((s2.new (.cells [.int .i64 0,.int .i64 0,.string ⟨#[]⟩] 31 true)).put s2.next (.cells [.int .i64 0,.int .i64 0,.string ⟨#[]⟩] 31 true)):=lP (lN hle2) (by omega)
    have hs3:(s.new (.cells [.int .i64 0,.int .i64 0,.string ⟨#[]⟩] 31 true)).le ((s2.new (.cells [.int .i64 0,.int .i64 0,.string ⟨#[]⟩] 31 true)).put s2.next (.cells [.int .i64 0,.int .i64 0,.string ⟨#[]⟩] 31 true)):=lP (lN (lT hs1 hs2)) (by simp only[St.next_new];omega)
    refine hfind_spec (i:=(o1.proto:Int)) (h.le hle3) (by omega) (fun hno=>?_) (fun j2 b2 o2 hij2 hb2 ho2 hat2=>?_)
    ·simp -implicitDefEqProofs only[↓Zd,(Zp),Zr,simprocAttr,qP,Value.cells,cut,qC,cld2,(HEx),vA]
     refine⟨by repeat (first|exact hFx|refine Fix.upd (by decide) ?_),0,by omega,hs3,(o1.proto:Int),.inl ⟨hno,rfl,rfl⟩,fun v hv=>himp v (.up (by rw[obAt_get];exact ho1) hg hv)⟩
    ·have hw:=Way.up hd ho1 hij2 hb2 ho2
     simp -implicitDefEqProofs only[↓Zd,(Zp),Zr,simprocAttr,qP,Value.cells,cut,qC,cld2,(HEx),vA]
     refine⟨by repeat (first|exact hFx|refine Fix.upd (by decide) ?_),d (j2+1)+1,hw.1,hs3,(o1.proto:Int),hw.2,fun v hv=>himp v (.up (by rw[obAt_get];exact ho1) hg hv)⟩
theorem hon_spec(h:HpIn lo s p H N O tg pf pn sl bs){o i:Int}(ho:¬ 0=o)(hi:i=0∨1≤i∧i≤H.obs.length)
  (hR:∀ b,OnR H o i b→R (.bool b) s):QC Tryz.prog w0 216 #[.pointer (some ⟨p,0,none⟩),.int .i64 o,.int .i64 i] s R:=by
 refine wfun2 hmix ok216 func216 rfl ntmps216 results216 (by simp) ?_
 obtain⟨d,hd⟩:=h.ok.up
 have hd:Deep H d:=hd
 have hlim:=h.ok.lim
 simp -implicitDefEqProofs only[↓Zd,(Zp),Zr,simprocAttr,qP,Value.cells,cut,qC,cld2,(HEx),vA]
 refine wloop_fix hmix [7,8,9,10,11,12,13,14,15,16,2] (fun fuel env s1=>s1=s∧∃ i':Int,env 2 = .int .i64 i'∧(i'=0∨1≤i'∧i'≤H.obs.length)∧fuel=(if i'=0 then 0 else d i'.toNat+1)∧∀ b,OnR H o i' b→OnR H o i b) (if i=0 then 0 else d i.toNat+1) ⟨rfl,i,rfl,hi,rfl,fun b h=>h⟩ ?_
 rintro fuel env s1 hFx ⟨rfl,i',e2,hi',rfl,himp⟩
 have e0:env 0 = .pointer (some ⟨p,0,none⟩):=by rw[hFx 0 rfl];rfl
 have e1:env 1 = .int .i64 o:=by rw[hFx 1 rfl];rfl
 by_cases h0:i'=0
 ·subst h0
  have hb:((0:Int) == o)=false:=by rw[Bool.eq_false_iff];intro h;exact ho (eq_of_beq h)
  simp -implicitDefEqProofs only[↓Zd,(Zp),Zr,simprocAttr,qP,Value.cells,cut,qC,cld2,(HEx),vA,e0,e1,e2,ho]
  exact hR _ (himp _ (.zero ho))
 ·by_cases h1:i'=o
  ·subst h1
   simp -implicitDefEqProofs only[↓Zd,(Zp),Zr,simprocAttr,qP,Value.cells,cut,qC,cld2,(HEx),vA,e0,e1,e2,h0]
   exact hR _ (himp _ .here)
  ·have hi1:1≤i'∧i'≤H.obs.length:=by omega
   simp -implicitDefEqProofs only[↓Zd,(Zp),Zr,simprocAttr,qP,Value.cells,cut,qC,cld2,(HEx),vA,e0,e1,e2,h0,h1,co127]
   refine hproto_spec h (by omega) ?_
   simp -implicitDefEqProofs only[↓Zd,(Zp),Zr,simprocAttr,qP,Value.cells,cut,qC,cld2,(HEx),vA]
   obtain⟨j,rfl⟩:∃ j:Nat,i'=((j+1:Nat):Int):=⟨(i' - 1).toNat,by omega⟩
   have hob:H.obs[j]?=some (H.obs[j]'(by omega)):=List.getElem?_eq_getElem _
   have hpv:protoV H ((j+1:Nat):Int)=((H.obs[j]'(by omega)).proto:Int):=by unfold protoV;rw[obAt_get,hob]
   have hup:=hd j _ hob
   refine⟨by repeat (first|exact hFx|refine Fix.upd (by decide) ?_),(if protoV H ((j+1:Nat):Int)=0 then 0 else d (protoV H ((j+1:Nat):Int)).toNat+1),?_,_,rfl,?_,rfl,fun b hb=>himp b (.up h0 h1 hb)⟩
   ·rw[if_neg h0,hpv,Int.toNat_natCast,Int.toNat_natCast]
    split
    ·omega
    ·rcases hup with h|⟨_,h⟩<;>omega
   ·rw[hpv]
    rcases hup with h|⟨h,_⟩<;>omega
end
end Go.Proofs.Tryz
namespace Go.Proofs.Tryz
open Go.Cs
open Go.RowKit (Below)
set_option maxRecDepth 100000
attribute [local irreducible] QC WLoop WScope CRound WRange
def nextH(H:Hp)(i:Int)(x:ByteArray):Hp:=if (shAt H.F i).isSome then { H with F:=addF H.F H.most i (ofI H.T x),T:=ofT H.T x } else H
def nextN(H:Hp)(i:Int)(x:ByteArray):Nat:=if (shAt H.F i).isSome then addN H.F H.most i (ofI H.T x) else 0
theorem next_ok{H:Hp}(h:HOk H)(i:Int)(x:ByteArray):HOk (nextH H i x):=by
 unfold nextH
 split
 ·refine h.more (fun j t ht=>addF_get ht) (fun j h1 h2=>ofT_txt x h1 h2) (ofT_len _ _).1 (ofT_nodup h.nodup x) (addF_ids (fun j t ht y hy=>?_) ?_)
  ·have:=h.ids j t ht y hy
   have:=ofT_len H.T x
   omega
  ·have:=ofI_ok H.T x
   omega
 ·exact h
theorem text_ok{H:Hp}(h:HOk H)(x:ByteArray):HOk { H with T:=ofT H.T x }:=by
 refine h.more (F':=H.F) (fun j t ht=>ht) (fun j h1 h2=>ofT_txt x h1 h2) (ofT_len _ _).1 (ofT_nodup h.nodup x) (fun j t ht y hy=>?_)
 have:=h.ids j t ht y hy
 have:=ofT_len H.T x
 omega
section
variable {M:Type}[Mem M]{w0:World}{s:St M}{R:Value→St M→Prop}{lo p N pf pn:Nat}{H:Hp}{O:Nat→Prop}{tg:Nat→Nat}{sl:Value}{bs:List Nat}
def Rest(s s':St M)(O O':Nat→Prop)(tg tg':Nat→Nat):Prop:=∀ c,O c→tg c≠1→tg c≠2→s'.at' c=s.at' c∧O' c∧tg' c=tg c
theorem hnext_spec(h:HpIn lo s p H N O tg pf pn sl bs)(hlo:lo≤s.next){i:Int}{x:ByteArray}(hN:N≤1000000)(hi : -9223372036854775808≤i∧i≤9223372036854775807)
  (hR:∀ s' O' tg',HpIn lo s' p (nextH H i x) (N+1) O' tg' pf pn sl bs→Upd s s' O O'→Rest s s' O O' tg tg'→R (.int .i64 (nextN H i x:Int)) s'):QC Tryz.prog w0 164 #[.pointer (some ⟨p,0,none⟩),.int .i64 i,.string x] s R:=by
 refine wfun2 hmix ok164 func164 rfl ntmps164 results164 (by simp) ?_
 have hb:=h.bl
 have hm:=h.mono (N':=N+1) (by omega)
 simp -implicitDefEqProofs only[↓Zd,(Zp),Zr,simprocAttr,qP,Value.cells,cut,qC,cld2,(HEx),vA,co133]
 refine hdead_spec h ?_
 simp -implicitDefEqProofs only[↓Zd,(Zp),Zr,simprocAttr,qP,Value.cells,cut,qC,cld2,(HEx),vA,hb,co225]
 refine fproto_spec h.fo hi ?_
 cases hsh:shAt H.F i with
 |none =>
  have e1:nextH H i x=H:=by unfold nextH;rw[hsh];rfl
  have e2:nextN H i x=0:=by unfold nextN;rw[hsh];rfl
  rw[e1,e2]at hR
  simp -implicitDefEqProofs only[↓Zd,(Zp),Zr,simprocAttr,qP,Value.cells,cut,qC,cld2,(HEx),vA]
  exact hR _ _ _ hm .refl fun c h1 _ _=>⟨rfl,h1,rfl⟩
 |some t =>
  have e1:nextH H i x={ H with F:=addF H.F H.most i (ofI H.T x),T:=ofT H.T x }:=by unfold nextH;rw[hsh];rfl
  have e2:nextN H i x=addN H.F H.most i (ofI H.T x):=by unfold nextN;rw[hsh];rfl
  have hok:=next_ok h.ok i x
  rw[e1]at hR hok
  rw[e2]at hR
  have htn:=h.tn
  simp -implicitDefEqProofs only[↓Zd,(Zp),Zr,simprocAttr,qP,Value.cells,cut,qC,cld2,(HEx),vA,hb,ord164,co227]
  refine of_spec h.ta hlo (by omega) fun s1 O1 hT1 hn1 hk1 ho1=>?_
  have hU1:Upd s s1 (fun b=>O b∧tg b=2) O1:=⟨hn1,hk1,ho1⟩
  have h1:=hm.newT hU1 hT1 (text_ok h.ok x) (by have:=ofT_len H.T x;omega)
  have hUr1:Upd s s1 O (reO O tg 2 O1):=re_upd hU1
  rw[ofN_eq]
  have hb1:=h1.bl
  simp -implicitDefEqProofs only[↓Zd,(Zp),Zr,simprocAttr,qP,Value.cells,cut,qC,cld2,(HEx),vA,hb1,ord164,co226]
  refine fadd_spec h1.fo (by omega) hi fun s2 O2 hF2 hU2=>?_
  have h2:=h1.newF hU2 hF2 hok
  have hUr2:=re_upd hU2
  simp -implicitDefEqProofs only[↓Zd,(Zp),Zr,simprocAttr,qP,Value.cells,cut,qC,cld2,(HEx),vA,ord164]
  refine hR _ _ _ h2 (hUr1.trans hUr2) fun c hc t1 t2=>?_
  have a1:reO O tg 2 O1 c∧reT tg 2 O1 c=tg c:=re_tag (fun b hb=>(h.own b hb).2) hU1.own t2 ⟨hc,rfl⟩
  have a2:=re_tag (fun b hb=>(h1.own b hb).2) hU2.own (j:=tg c) t1 a1
  refine⟨?_,a2.1,a2.2⟩
  rw[re_keep h1.own hU2 c a1.1 (by rw[a1.2];exact t1),re_keep h.own hU1 c hc t2]
theorem skey_spec(h:HpIn lo s p H N O tg pf pn sl bs){j ps m:Nat}{o:Ob}{sv:Value}(hN:N≤1000000)(ho:H.obs[j]?=some o)(h0:0<o.shape)(h2:s.at' ps=some (.cells [.int .i64 (o.shape:Int),sv] 187 true))(hm:m<o.L.length)
  (hR:∀ s',s.le s'→R (keyV o.L (m:Int)) s'):QC Tryz.prog w0 199 #[.pointer (some ⟨ps,0,none⟩),.pointer (some ⟨p,0,none⟩),.int .i64 (m:Int)] s R:=by
 refine wfun2 hmix ok199 func199 rfl ntmps199 results199 (by simp) ?_
 have hhb:=h.bl
 have hF12:o.shape≤150:=by
  obtain⟨q0,l,h1,_⟩:=h.ok.fits j o ho h0
  have:=(List.getElem?_eq_some_iff.1 h1).1
  have:=h.fo.le
  omega
 have hml:o.L.length≤32:=by have:=h.ok.lens j o ho;have:=h.ok.lim;omega
 obtain⟨hNl,n,g1,g2⟩:=keyV_fits h.ok h.fo.ok ho h0 hm
 simp -implicitDefEqProofs only[↓Zd,(Zp),Zr,simprocAttr,qP,Value.cells,cut,qC,cld2,(HEx),vA,hhb,h2,ord199,co259]
 refine fnames_spec h.fo (by omega) fun s1 sn hs1 hsn hsb=>?_
 rw[hNl]at hsn
 have hn1:=hs1.1
 have hb1:s1.at' p=_:=(hs1.2 p (h.own p h.pin.1).2).trans hhb
 obtain⟨an,cn,rfl⟩:∃ a c,sn = .slice a o.L.length c:=by
  rcases hsn with ⟨e1,_,rfl⟩|⟨b2,junk,rfl,_⟩
  ·exact⟨none,0,by rw[e1]⟩
  ·exact⟨_,_,rfl⟩
 have k1:¬ (m:Int)<0:=by omega
 have k2:¬ (o.L.length:Int)≤(m:Int):=by omega
 rw[← g2]at hR
 have hnT:1≤n∧n≤H.T.length:=by
  have hm2:=List.mem_of_getElem? g1
  obtain⟨q0,l,q1,q2⟩:=h.ok.fits j o ho h0
  rw[namesOf_at h0 q1]at hm2
  exact h.ok.ids _ _ q1 n (by simpa using hm2)
 have htn:=h.tn
 rcases hsn with ⟨e0,_⟩|⟨b2,junk,e2,hb2,_⟩
 ·omega
 cases e2
 have hkk:(0:Int)≤(m:Int)∧(m:Int)<(o.L.length:Int):=by omega
 have hg:=ints_get (l:=(namesOf H.F (o.shape:Int)).reverse) (k:=m) junk (by simp;omega)
 have hgn:(namesOf H.F (o.shape:Int)).reverse[m]'(by simp;omega)=n:=(List.getElem?_eq_some_iff.1 g1).2
 rw[hgn]at hg
 simp -implicitDefEqProofs only[↓Zd,(Zp),Zr,simprocAttr,qP,Value.cells,cut,qC,cld2,(HEx),vA,underlying88,sz88,is88,ce88,ag88,ze88,k1,k2,hb1,hb2,hkk,hg,ord199,co260,Nat.mul_one]
 refine text_spec (by omega) ((h.le hs1).ta) ?_
 unfold txtV at *
 split at hR
 ·rename_i hc
  simp only[if_pos hc]
  simp -implicitDefEqProofs only[↓Zd,(Zp),Zr,simprocAttr,qP,Value.cells,cut,qC,cld2,(HEx),vA,ord199]
  exact hR _ hs1
 ·rename_i hc
  simp only[if_neg hc]
  simp -implicitDefEqProofs only[↓Zd,(Zp),Zr,simprocAttr,qP,Value.cells,cut,qC,cld2,(HEx),vA,ord199]
  exact hR _ hs1
theorem DictAt.low{lo lo':Nat}{s:St M}{p:Nat}{L:List (ByteArray×V3)}{N:Nat}{O:Nat→Prop}(h:DictAt lo s p L N O)(hl:lo'≤lo):DictAt lo' s p L N O:=
 ⟨fun b hb=>⟨by have:=(h.own b hb).1;omega,(h.own b hb).2⟩,h.pin,h.bl⟩
theorem take_set{L:List (ByteArray×V3)}(hn:(L.map (·.1)).Nodup){k:Nat}{x:ByteArray}{v:V3}(hk:L[k]?=some (x,v)):setP (L.take k) x v=L.take (k+1):=by
 have hl:=(List.getElem?_eq_some_iff.1 hk).1
 have e:L.take (k+1)=L.take k ++ [(x,v)]:=by
  rw[List.take_add_one,hk];rfl
 rw[setP_none,e]
 rw[getP_none]
 intro hm
 obtain⟨⟨y,w⟩,h1,h2⟩:=List.mem_map.1 hm
 simp only at h2
 subst h2
 obtain⟨i,hi,h3⟩:=List.getElem_of_mem h1
 have hik:i<k:=by simp at hi;omega
 rw[List.getElem_take]at h3
 have e1:(L.map (·.1))[i]'(by simp;omega)=(L.map (·.1))[k]'(by simp;omega):=by
  simp only[List.getElem_map]
  rw[h3,(List.getElem?_eq_some_iff.1 hk).2]
 have:=(List.getElem_inj hn).1 e1
 omega
set_option maxHeartbeats 4000000 in
theorem hloosen_spec(h:HpIn lo s p H N O tg pf pn sl bs)(hlo:lo≤s.next){j b:Nat}{o:Ob}(hN:N≤1000000)(hN2:32≤N)(hb:bs[j]?=some b)(ho:H.obs[j]?=some o)
  (hR:∀ s' pd OD,s'.at' b=some (.cells [.iface 180 (.agg #[.pointer (some ⟨pd,0,none⟩)]),.int .i64 (o.proto:Int),.int .i64 (o.epoch:Int)] 184 true)→DictAt lo s' pd o.L N OD→(∀ c,OD c→(O c∧tg c=j+3)∨s.next≤c)→(∀ c,OD c→c≠b)→s.next≤s'.next →
   (∀ c,c<s.next→¬ (O c∧tg c=j+3)→s'.at' c=s.at' c)→R (.pointer (some ⟨pd,0,none⟩)) s'):QC Tryz.prog w0 165 #[.pointer (some ⟨p,0,none⟩),.pointer (some ⟨b,0,none⟩)] s R:=by
 refine wfun2 hmix ok165 func165 rfl ntmps165 results165 (by simp) ?_
 have hB:=h.obj j b o hb ho
 have hbn:=(hB.own b hB.pin).2
 have hne:¬ b=s.next:=by omega
 have hml:o.L.length≤32:=by have:=h.ok.lens j o ho;have:=h.ok.lim;omega
 rcases hB.bl with ⟨h0,pd,OD,h1,h2,h3⟩|⟨h0,ps,sv,h1,h2,h3,h4,h5,h6⟩
 ·simp -implicitDefEqProofs only[↓Zd,(Zp),Zr,simprocAttr,qP,Value.cells,cut,qC,cld2,(HEx),vA,h1,hne]
  refine hR _ pd OD ?_ (h2.same (by simp only[(Sn)];omega) fun c hc=>by have:=(h2.own c hc).2;rw[St.at_put,if_neg (by omega),St.at_new,if_neg (by omega)]) (fun c hc => .inl (h3 c hc).1) (fun c hc=>(h3 c hc).2) (by simp only[(Sn)];omega) (fun c hc _=>by rw[St.at_put,if_neg (by omega),St.at_new,if_neg (by omega)])
  rw[St.at_put,if_neg hne,St.at_new,if_neg hne];exact h1
 ·simp -implicitDefEqProofs only[↓Zd,(Zp),Zr,simprocAttr,qP,Value.cells,cut,qC,cld2,(HEx),vA,h1,co134]
  refine dnew_spec fun s1 pd hD1 hs1=>?_
  have hn1:=hs1.1
  have hpsn:=(hB.own ps h3).2
  have h21:s1.at' ps=_:=(hs1.2 ps hpsn).trans h2
  obtain⟨an,cn,rfl⟩:∃ a c,sv = .slice a o.L.length c:=by
   rcases h5 with ⟨e1,_,rfl⟩|⟨b2,junk,rfl,_⟩
   ·exact⟨none,0,by rw[e1]⟩
   ·exact⟨_,_,rfl⟩
  simp -implicitDefEqProofs only[↓Zd,(Zp),Zr,simprocAttr,qP,Value.cells,cut,qC,cld2,(HEx),vA,h21]
  refine wloop_fix hmix [41,42,43,44,11,10,45,46,47,48,49,50,51,12,13,52,53,54,55,56,40] (fun fuel env s3=>∃ (k:Nat) (OD:Nat→Prop),fuel=o.L.length - k∧k≤o.L.length∧env 40 = .int .i64 (k:Int)∧DictAt s.next s3 pd (o.L.take k) k OD∧s.next≤s3.next∧∀ c,c<s.next→s3.at' c=s.at' c) o.L.length ⟨0,_,rfl,by omega,rfl,hD1,hn1,hs1.2⟩ ?_
  rintro fuel env s3 hFx ⟨k,OD,rfl,hk,e40,hD3,hn3,hk3⟩
  have e0:env 0 = .pointer (some ⟨p,0,none⟩):=by rw[hFx 0 rfl];rfl
  have e1:env 1 = .pointer (some ⟨b,0,none⟩):=by rw[hFx 1 rfl];rfl
  have e5:env 5 = .pointer (some ⟨ps,0,none⟩):=by rw[hFx 5 rfl];rfl
  have e9:env 9 = .pointer (some ⟨pd,0,none⟩):=by rw[hFx 9 rfl];rfl
  have e38:env 38 = .slice an o.L.length cn:=by rw[hFx 38 rfl];rfl
  have e39:env 39 = .int .i64 (o.L.length:Int):=by rw[hFx 39 rfl];rfl
  have h13:s3.at' b=_:=(hk3 b hbn).trans h1
  have hpdn:=(hD3.own pd hD3.pin).1
  by_cases hkl:(k:Int)<(o.L.length:Int)
  ·rcases h5 with ⟨e,_⟩|⟨b2,junk,e2,hb2,_⟩
   ·omega
   cases e2
   have hb2n:=h6 _ _ _ rfl
   simp only at hb2n
   have hb2n:=(h.own b2 hb2n.1.1).2
   have hb23:s3.at' b2=_:=(hk3 b2 hb2n).trans hb2
   have hkk:(0:Int)≤(k:Int)∧(k:Int)<(o.L.length:Int):=by omega
   have hklt:k<o.L.length:=by omega
   obtain⟨x,v,hLk⟩:∃ x v,o.L[k]?=some (x,v):=⟨o.L[k].1,o.L[k].2,by simp[hklt]⟩
   obtain⟨v1,v2,v3⟩:=v
   obtain⟨c1,c2⟩:=valsC_cut o.L k x _ junk hLk
   have w1:IntKind.i64.wrap ((k:Int)+1)=((k+1:Nat):Int):=by rw[wrap_i64 (by omega)];omega
   have hnn:¬ b2=s3.next:=by omega
   simp -implicitDefEqProofs only[↓Zd,(Zp),Zr,simprocAttr,qP,Value.cells,cut,qC,cld2,(HEx),vA,e0,e5,e9,e38,e39,e40,hkl,hkk,hb23,c1,c2,co199]
   have hps3:((s3.new (.cells [.int .i64 0,.int .i64 0,.string ⟨#[]⟩] 31 true)).put s3.next (.cells [.int .i64 v1,.int .i64 v2,.string v3] 31 true)).at' ps=some (.cells [.int .i64 (o.shape:Int),.slice (some ⟨b2,0,none⟩) o.L.length UNK] 187 true):=by
    rw[St.at_put,if_neg (by omega),St.at_new,if_neg (by omega),hk3 ps hpsn];exact h2
   refine skey_spec (ps:=ps) (h.same (by simp only[(Sn)];omega) fun c hc=>by
    have:=(h.own c hc).2
    rw[St.at_put,if_neg (by omega),St.at_new,if_neg (by omega),hk3 c this]) hN ho h0 hps3 hklt fun s4 hs4=>?_
   have hn4:=hs4.1
   simp only[(Sn)]at hn4
   have hkV:keyV o.L (k:Int) = .tuple #[.string x,.bool true]:=by
    unfold keyV
    rw[if_pos (by omega),Int.toNat_natCast,List.getD_eq_getElem?_getD,hLk];rfl
   rw[hkV]
   have h11:s4.at' s3.next=some (.cells [.int .i64 v1,.int .i64 v2,.string v3] 31 true):=by rw[hs4.2 _ (by simp only[(Sn)];omega),St.at_put,if_pos rfl]
   simp -implicitDefEqProofs only[↓Zd,(Zp),Zr,simprocAttr,qP,Value.cells,cut,qC,cld2,(HEx),vA,e0,e5,e9,e38,e39,e40,h11,co166]
   refine dset_spec (hD3.same (by omega) fun c hc=>by
    have:=(hD3.own c hc).2
    rw[hs4.2 c (by simp only[(Sn)];omega),St.at_put,if_neg (by omega),St.at_new,if_neg (by omega)]) (by omega) (by omega) fun s5 OD5 hD5 hn5 hk5 ho5=>?_
   rw[take_set (h.ok.keys j o ho) hLk]at hD5
   simp -implicitDefEqProofs only[↓Zd,(Zp),Zr,simprocAttr,qP,Value.cells,cut,qC,cld2,(HEx),vA,e40,w1]
   refine⟨by repeat (first|exact hFx|refine Fix.upd (by decide) ?_),o.L.length - (k+1),by omega,k+1,OD5,rfl,by omega,rfl,hD5,by omega,fun c hc=>?_⟩
   rw[hk5 c (by omega) (fun hc2=>by have:=(hD3.own c hc2).1;omega),hs4.2 c (by simp only[(Sn)];omega),St.at_put,if_neg (by omega),St.at_new,if_neg (by omega),hk3 c hc]
  ·have:k=o.L.length:=by omega
   subst this
   rw[List.take_length]at hD3
   have hbl:∀ (m:Nat),cbuild Tryz.prog 180 #[(0,.pointer (some ⟨m,0,none⟩))]=some (.agg #[.pointer (some ⟨m,0,none⟩)]):=fun m=>by kernel_rfl
   have hmk:∀ v,cmkI Tryz.prog 180 v=some (.iface 180 v):=fun v=>mkI_s underlying180
   simp -implicitDefEqProofs only[↓Zd,(Zp),Zr,simprocAttr,qP,Value.cells,cut,qC,cld2,(HEx),vA,e0,e1,e9,e39,e40,hkl,h13,hbl,hmk]
   refine hR _ pd OD ?_ (((hD3.low hlo).mono (by omega)).same (by simp only[St.next_put];omega) fun c hc=>by
    have:=(hD3.own c hc).1
    rw[St.at_put,if_neg (by omega)]) (fun c hc => .inr (hD3.own c hc).1) (fun c hc e=>by have:=(hD3.own c hc).1;omega) (by simp only[St.next_put];omega) (fun c hc hno=>?_)
   ·rw[St.at_put,if_pos rfl]
   ·rw[St.at_put,if_neg (fun e:c=b=>hno (e▸hB.pin)),hk3 c hc]
end
end Go.Proofs.Tryz
namespace Go.Proofs.Tryz
open Go.Cs
set_option maxRecDepth 100000
def putO(H:Hp)(i:Int)(o:Ob):Hp:={ H with obs:=H.obs.set (i.toNat - 1) o }
def setH(H:Hp)(i:Int)(x:ByteArray)(v:V3):Hp:=match obAt H i with
 |none=>H
 |some o=>if (getP o.L x).isSome then putO H i { o with L:=setP o.L x v }
  else if H.maxP≤o.L.length then H
  else if o.shape=0 then putO H i { L:=setP o.L x v,shape:=0,proto:=o.proto,epoch:=o.epoch+1 }
  else putO (nextH H o.shape x) i { L:=setP o.L x v,shape:=nextN H o.shape x,proto:=o.proto,epoch:=o.epoch+1 }
def setE(H:Hp)(i:Int)(x:ByteArray):Int:=match obAt H i with
 |none=>4
 |some o=>if (getP o.L x).isSome then 0 else if H.maxP≤o.L.length then 42 else 0
def delH(H:Hp)(i:Int)(x:ByteArray):Hp:=match obAt H i with
 |none=>H
 |some o=>if (getP o.L x).isSome then putO H i { L:=delP o.L x,shape:=0,proto:=o.proto,epoch:=o.epoch+1 } else H
def delB(H:Hp)(i:Int)(x:ByteArray):Bool:=((obAt H i).bind fun o=>getP o.L x).isSome
def makeH(H:Hp):Hp:=if H.maxO≤H.obs.length then H else { H with obs:=H.obs ++ [{ L:=[],shape:=growN H.F H.most (0,[]),proto:=0,epoch:=0 }],F:=growF H.F H.most (0,[]) }
def makeV(H:Hp):Value:=if H.maxO≤H.obs.length then .tuple #[.int .i64 0,.int .i64 40] else .tuple #[.int .i64 ((H.obs.length+1:Nat):Int),.int .i64 0]
theorem OnR.one{H:Hp}{o p:Int}{a b:Bool}(h1:OnR H o p a)(h2:OnR H o p b):a=b:=by
 induction h1 with
 |here=>cases h2 with
  |here=>rfl
  |zero h=>exact absurd rfl h
  |up _ h _=>exact absurd rfl h
 |zero h=>cases h2 with
  |here=>exact absurd rfl h
  |zero _=>rfl
  |up h _ _=>exact absurd rfl h
 |up h0 h1 _ ih=>cases h2 with
  |here=>exact absurd rfl h1
  |zero _=>exact absurd rfl h0
  |up _ _ hu=>exact ih hu
open Classical in
noncomputable def onB (H:Hp) (o p:Int):Bool:=if OnR H o p true then true else false
theorem OnR.eq{H:Hp}{o p:Int}{b:Bool}(h:OnR H o p b):onB H o p=b:=by
 unfold onB
 cases b with
 |true=>rw[if_pos h]
 |false=>rw[if_neg (fun h2=>by have:=h.one h2;cases this)]
noncomputable def protoE (H:Hp) (i q:Int):Int:=if obAt H i=none∨(q≠0∧obAt H q=none) then 4 else if onB H i q=true then 32 else 0
noncomputable def protoH (H:Hp) (i q:Int):Hp:=if protoE H i q=0 then (match obAt H i with
 |none=>H
 |some o=>if o.shape=0 then putO H i { o with proto:=q.toNat,epoch:=o.epoch+1 }
  else putO { H with F:=moveF H.F H.most o.shape q.toNat } i { o with proto:=q.toNat,epoch:=o.epoch+1,shape:=moveN H.F H.most o.shape q.toNat }) else H
theorem putO_ok{H:Hp}(h:HOk H){i:Int}{o o':Ob}(hi:obAt H i=some o)(hfit:0<o'.shape→∃ q l,H.F[o'.shape - 1]?=some (q,l)∧l.reverse.map (txt H.T)=o'.L.map (·.1))(hkeys:(o'.L.map (·.1)).Nodup)(hlen:o'.L.length≤H.maxP)(hp:o'.proto=o.proto):HOk (putO H i o'):=by
 obtain⟨j,rfl,hj,ho⟩:=obAt_some hi
 have e:(((j+1:Nat):Int).toNat - 1)=j:=by omega
 unfold putO
 rw[e]
 exact h.upd (F':=H.F) (T':=H.T) ho (fun _ _ h=>h) (fun _ _ _=>rfl) (Nat.le_refl _) h.nodup h.ids hfit hkeys hlen (up_same ho hp h.up)
theorem putO_pro{H:Hp}(h:HPro H){i:Int}{o':Ob}(hp:0<o'.shape→∃ l,H.F[o'.shape - 1]?=some (o'.proto,l)):HPro (putO H i o'):=by
 intro j u hu hs
 simp only[putO,List.getElem?_set]at hu
 split at hu
 ·split at hu
  ·cases hu;exact hp hs
  ·cases hu
 ·exact h j u hu hs
theorem keys_app{L:List (ByteArray×V3)}{x:ByteArray}{v:V3}(h:(L.map (·.1)).Nodup)(hx:getP L x=none):((L ++ [(x,v)]).map (·.1)).Nodup:=by
 rw[List.map_append,List.nodup_append]
 refine⟨h,by simp,fun a ha b hb e=>?_⟩
 simp at hb
 subst hb;subst e
 exact getP_none.1 hx ha
theorem setP_keys{L:List (ByteArray×V3)}{x:ByteArray}{v w:V3}(h:(L.map (·.1)).Nodup)(hx:getP L x=some w):(setP L x v).map (·.1)=L.map (·.1):=by
 obtain⟨k,hk⟩:=getP_some hx
 rw[setP_some h hk,keys_set hk]
theorem next_pro{H:Hp}(h:HPro H)(i:Int)(x:ByteArray):HPro (nextH H i x):=by
 unfold nextH
 split
 ·intro j u hu hs
  obtain⟨l,hl⟩:=h j u hu hs
  exact⟨l,addF_get hl⟩
 ·exact h
theorem next_obs(H:Hp)(i:Int)(x:ByteArray):(nextH H i x).obs=H.obs∧(nextH H i x).maxP=H.maxP∧(nextH H i x).most=H.most∧(nextH H i x).maxO=H.maxO:=by
 unfold nextH;split<;>exact⟨rfl,rfl,rfl,rfl⟩
theorem nextN_get{H:Hp}(h:HOk H){n q:Nat}{l:List Nat}{x:ByteArray}(hn:0<n)(hF:H.F[n - 1]?=some (q,l))(hp:0<nextN H n x) :
  (nextH H n x).F[nextN H n x - 1]?=some (q,ofI H.T x::l)∧(ofI H.T x::l).reverse.map (txt (nextH H n x).T)=l.reverse.map (txt H.T) ++ [x]:=by
 have hsh:shAt H.F (n:Int)=some (q,l):=by rw[shAt_at hn,hF]
 unfold nextN at hp
 rw[hsh]at hp
 simp only[Option.isSome_some,if_true]at hp
 obtain⟨t,ht,h2⟩:=addN_get hp
 rw[hsh]at ht
 cases ht
 have e1:nextH H n x={ H with F:=addF H.F H.most n (ofI H.T x),T:=ofT H.T x }:=by unfold nextH;rw[hsh];rfl
 have e2:nextN H n x=addN H.F H.most n (ofI H.T x):=by unfold nextN;rw[hsh];rfl
 rw[e1,e2]
 refine⟨h2,?_⟩
 rw[List.reverse_cons,List.map_append]
 congr 1
 ·apply List.map_congr_left
  intro y hy
  have:=h.ids _ _ hF y (by simpa using hy)
  exact ofT_txt x this.1 this.2
 ·simp only[List.map_cons,List.map_nil,(ofI_ok H.T x).2.2]
theorem set_ok{H:Hp}(h:HOk H)(i:Int)(x:ByteArray)(v:V3):HOk (setH H i x v):=by
 unfold setH
 cases ho:obAt H i with
 |none=>exact h
 |some o =>
  obtain⟨j,rfl,hj,hoj⟩:=obAt_some ho
  simp only
  cases hg:getP o.L x with
  |some w =>
   simp only[Option.isSome_some,if_true]
   have hk:=setP_keys (v:=v) (h.keys j o hoj) hg
   have hl:(setP o.L x v).length=o.L.length:=by simpa using congrArg List.length hk
   refine putO_ok h ho (fun hs=>?_) (by rw[hk];exact h.keys j o hoj) (by rw[hl];exact h.lens j o hoj) rfl
   obtain⟨q,l,h1,h2⟩:=h.fits j o hoj hs
   exact⟨q,l,h1,by rw[h2];exact hk.symm⟩
  |none =>
   simp only[Option.isSome_none,Bool.false_eq_true,if_false]
   have hsp:=setP_none o.L x v hg
   have hkn:=keys_app (v:=v) (h.keys j o hoj) hg
   split
   ·exact h
   ·rename_i hlt
    have hlen:(setP o.L x v).length≤H.maxP:=by rw[hsp];simp;omega
    split
    ·exact putO_ok h ho (fun hs=>by simp at hs) (by rw[hsp];exact hkn) hlen rfl
    ·rename_i hs0
     have hob:obAt (nextH H o.shape x) ((j+1:Nat):Int)=some o:=by rw[obAt_get,(next_obs H o.shape x).1];exact hoj
     refine putO_ok (next_ok h o.shape x) hob (fun hs=>?_) (by rw[hsp];exact hkn) (by rw[(next_obs H o.shape x).2.1];exact hlen) rfl
     obtain⟨q,l,h1,h2⟩:=h.fits j o hoj (by omega)
     obtain⟨g1,g2⟩:=nextN_get h (x:=x) (by omega) h1 hs
     refine⟨q,_,g1,?_⟩
     rw[g2,h2,hsp]
     simp
theorem set_pro{H:Hp}(h:HOk H)(hp:HPro H)(i:Int)(x:ByteArray)(v:V3):HPro (setH H i x v):=by
 unfold setH
 cases ho:obAt H i with
 |none=>exact hp
 |some o =>
  obtain⟨j,rfl,hj,hoj⟩:=obAt_some ho
  simp only
  split
  ·exact putO_pro hp (fun hs=>hp j o hoj hs)
  ·split
   ·exact hp
   ·split
    ·exact putO_pro hp (fun hs=>by simp at hs)
    ·rename_i hs0
     refine putO_pro (next_pro hp _ _) fun hs=>?_
     obtain⟨l,h1⟩:=hp j o hoj (by omega)
     exact⟨_,(nextN_get h (x:=x) (by omega) h1 hs).1⟩
theorem del_ok{H:Hp}(h:HOk H)(i:Int)(x:ByteArray):HOk (delH H i x):=by
 unfold delH
 cases ho:obAt H i with
 |none=>exact h
 |some o =>
  obtain⟨j,rfl,hj,hoj⟩:=obAt_some ho
  simp only
  split
  ·exact putO_ok h ho (fun hs=>by simp at hs) ((delP_keys _ _).nodup (h.keys j o hoj)) (Nat.le_trans (delP_len _ _) (h.lens j o hoj)) rfl
  ·exact h
theorem del_pro{H:Hp}(hp:HPro H)(i:Int)(x:ByteArray):HPro (delH H i x):=by
 unfold delH
 cases ho:obAt H i with
 |none=>exact hp
 |some o =>
  simp only
  split
  ·exact putO_pro hp (fun hs=>by simp at hs)
  ·exact hp
theorem make_ok{H:Hp}(h:HOk H):HOk (makeH H):=by
 unfold makeH
 split
 ·exact h
 ·rename_i hlt
  have hlim:=h.lim
  have hm:=h.more (F':=growF H.F H.most (0,[])) (T':=H.T) (fun j t ht=>growF_get ht) (fun _ _ _=>rfl) (Nat.le_refl _) h.nodup (fun j t ht y hy=>by
   rcases growF_mem ht with h1|rfl
   ·exact h.ids j t h1 y hy
   ·cases hy)
  have hlast:∀ (j:Nat) (u:Ob),(H.obs ++ [{ L:=[],shape:=growN H.F H.most (0,[]),proto:=0,epoch:=0 }])[j]?=some u→H.obs[j]?=some u∨u={ L:=[],shape:=growN H.F H.most (0,[]),proto:=0,epoch:=0 }:=by
   intro j u hu
   by_cases h1:j<H.obs.length
   ·rw[List.getElem?_append_left h1]at hu;exact .inl hu
   ·rw[List.getElem?_append_right (by omega)]at hu
    have h0:j - H.obs.length=0:=by
     have:=(List.getElem?_eq_some_iff.1 hu).1
     simp at this;omega
    rw[h0]at hu
    simp at hu
    exact .inr hu.symm
  refine⟨hm.nodup,hm.ids,fun j u hu hs=>?_,fun j u hu=>?_,fun j u hu=>?_,?_,⟨hlim.1,by simp;omega,hlim.2.2⟩⟩
  ·rcases hlast j u hu with h1|rfl
   ·exact hm.fits j u h1 hs
   ·exact⟨0,[],growN_get hs,rfl⟩
  ·rcases hlast j u hu with h1|rfl
   ·exact h.keys j u h1
   ·exact List.nodup_nil
  ·rcases hlast j u hu with h1|rfl
   ·exact h.lens j u h1
   ·exact Nat.zero_le _
  ·obtain⟨d,hd⟩:=h.up
   refine⟨d,fun j u hu=>?_⟩
   rcases hlast j u hu with h1|rfl
   ·rcases hd j u h1 with h2|⟨h2,h3⟩
    ·exact .inl h2
    ·exact .inr ⟨by simp;omega,h3⟩
   ·exact .inl rfl
theorem make_pro{H:Hp}(hp:HPro H):HPro (makeH H):=by
 unfold makeH
 split
 ·exact hp
 ·intro j u hu hs
  simp only at hu
  by_cases h1:j<H.obs.length
  ·rw[List.getElem?_append_left h1]at hu
   obtain⟨l,hl⟩:=hp j u hu hs
   exact⟨l,growF_get hl⟩
  ·rw[List.getElem?_append_right (by omega)]at hu
   have h0:j - H.obs.length=0:=by
    have:=(List.getElem?_eq_some_iff.1 hu).1
    simp at this;omega
   rw[h0]at hu
   simp at hu
   subst hu
   exact⟨[],growN_get hs⟩
theorem moveL_pre{most:Nat}:∀ (xs:List Nat) (F:List Sh) (t:Nat) {j:Nat}{u:Sh},F[j]?=some u→(moveL most xs F t).1[j]?=some u:=by
 intro xs
 induction xs with
 |nil=>intro F t j u h;exact h
 |cons x r ih=>intro F t j u h;exact ih _ _ (addF_get h)
theorem moveL_ids{most m:Nat}:∀ (xs:List Nat) (F:List Sh) (t:Nat),(∀ (j:Nat) (t:Sh),F[j]?=some t→∀ y∈t.2,1≤y∧y≤m)→(∀ x∈xs,1≤x∧x≤m)→∀ (j:Nat) (u:Sh),(moveL most xs F t).1[j]?=some u→∀ y∈u.2,1≤y∧y≤m:=by
 intro xs
 induction xs with
 |nil=>intro F t h _ j u hu;exact h j u hu
 |cons x r ih=>intro F t h hx j u hu;exact ih _ _ (addF_ids h (hx x (List.mem_cons_self))) (fun y hy=>hx y (List.mem_cons_of_mem _ hy)) j u hu
theorem moveL_get{most q:Nat}:∀ (xs:List Nat) (F:List Sh) (t:Nat) (acc:List Nat),(0<t→F[t - 1]?=some (q,acc))→0<(moveL most xs F t).2→(moveL most xs F t).1[(moveL most xs F t).2 - 1]?=some (q,xs.reverse++acc):=by
 intro xs
 induction xs with
 |nil=>intro F t acc h h2;exact h h2
 |cons x r ih =>
  intro F t acc h h2
  have:=ih (addF F most (t:Int) x) (addN F most (t:Int) x) (x::acc) (fun h3=>by
   obtain⟨u,h4,h5⟩:=addN_get h3
   have ht:0<t:=by
    unfold shAt at h4
    split at h4
    ·omega
    ·cases h4
   rw[shAt_at ht,h ht]at h4
   cases h4
   exact h5) h2
  rw[List.reverse_cons,List.append_assoc]
  exact this
theorem move_get{F:List Sh}{most n q q0:Nat}{l:List Nat}(hn:0<n)(hF:F[n - 1]?=some (q0,l))(hp:0<moveN F most n q):(moveF F most n q)[moveN F most n q - 1]?=some (q,l):=by
 have hsh:shAt F (n:Int)=some (q0,l):=by rw[shAt_at hn,hF]
 have e1:moveF F most n q=(moveL most l.reverse (growF F most (q,[])) (growN F most (q,[]))).1:=by unfold moveF;rw[hsh]
 have e2:moveN F most n q=(moveL most l.reverse (growF F most (q,[])) (growN F most (q,[]))).2:=by unfold moveN;rw[hsh]
 rw[e2]at hp
 rw[e1,e2]
 have:=moveL_get (q:=q) l.reverse (growF F most (q,[])) (growN F most (q,[])) [] (fun h=>growN_get h) hp
 simpa using this
theorem move_pre{F:List Sh}{most q j:Nat}{i:Int}{u:Sh}(h:F[j]?=some u):(moveF F most i q)[j]?=some u:=by
 unfold moveF
 split
 ·exact h
 ·exact moveL_pre _ _ _ (growF_get h)
theorem move_ids{F:List Sh}{most q m:Nat}{i:Int}(h:∀ (j:Nat) (t:Sh),F[j]?=some t→∀ y∈t.2,1≤y∧y≤m):∀ (j:Nat) (t:Sh),(moveF F most i q)[j]?=some t→∀ y∈t.2,1≤y∧y≤m:=by
 unfold moveF
 split
 ·exact h
 ·rename_i u hu
  obtain⟨k,hk⟩:=shAt_mem hu
  refine moveL_ids _ _ _ (fun j t ht=>?_) (fun x hx=>h k u hk x (by simpa using hx))
  rcases growF_mem ht with h1|rfl
  ·exact h j t h1
  ·intro y hy;cases hy
theorem proto_go{H:Hp}{i q:Int}(he:protoE H i q=0):(∃ o,obAt H i=some o)∧(q=0∨∃ o,obAt H q=some o)∧onB H i q=false:=by
 unfold protoE at he
 split at he
 ·omega
 ·rename_i h1
  split at he
  ·omega
  ·rename_i h2
   refine⟨?_,?_,by simpa using h2⟩
   ·cases h:obAt H i with
    |none=>exact absurd (.inl h) h1
    |some o=>exact⟨o,rfl⟩
   ·by_cases h0:q=0
    ·exact .inl h0
    ·cases h:obAt H q with
     |none=>exact absurd (.inr ⟨h0,h⟩) h1
     |some o=>exact .inr ⟨o,rfl⟩
open Classical in
theorem proto_up{H:Hp}(h:HOk H){j:Nat}{o o':Ob}{q:Nat}(ho:H.obs[j]?=some o)(hq:q=0∨q≤H.obs.length)(hon:onB H ((j+1:Nat):Int) (q:Int)=false)(hp:o'.proto=q) :
  ∃ d:Nat→Nat,∀ (k:Nat) (u:Ob),(H.obs.set j o')[k]?=some u→u.proto=0∨u.proto≤(H.obs.set j o').length∧d u.proto<d (k+1):=by
 obtain⟨d,hd⟩:=h.up
 have hne:¬ (0:Int)=((j+1:Nat):Int):=by omega
 refine⟨fun x=>if OnR H ((j+1:Nat):Int) (x:Int) true then d x+d q+1 else d x,fun k u hu=>?_⟩
 rw[List.length_set]
 rw[List.getElem?_set]at hu
 split at hu
 ·rename_i e
  subst e
  split at hu
  ·cases hu
   rw[hp]
   by_cases h0:q=0
   ·exact .inl h0
   ·refine .inr ⟨by omega,?_⟩
    simp only
    rw[if_neg (fun hc=>by rw[hc.eq]at hon;cases hon),if_pos OnR.here]
    omega
  ·cases hu
 ·rename_i hjk
  rcases hd k u hu with h1|⟨h1,h2⟩
  ·exact .inl h1
  ·refine .inr ⟨h1,?_⟩
   simp only
   have hpv:protoV H ((k+1:Nat):Int)=(u.proto:Int):=by unfold protoV;rw[obAt_get,hu]
   by_cases hc:OnR H ((j+1:Nat):Int) (u.proto:Int) true
   ·rw[if_pos hc,if_pos (.up (by omega) (by omega) (by rw[hpv];exact hc))]
    omega
   ·rw[if_neg hc,if_neg]
    ·exact h2
    ·intro hc2
     generalize hk1:((k+1:Nat):Int)=kk at hc2 hpv
     generalize hb:true=bb at hc2
     cases hc2 with
     |here=>omega
     |zero _=>cases hb
     |up _ _ hu2=>subst hb;rw[hpv]at hu2;exact hc hu2
theorem proto_ok{H:Hp}(h:HOk H)(i q:Int):HOk (protoH H i q):=by
 unfold protoH
 split
 ·rename_i he
  obtain⟨⟨o,ho⟩,hq,hon⟩:=proto_go he
  rw[ho]
  simp only
  obtain⟨j,rfl,hj,hoj⟩:=obAt_some ho
  have hq0:0≤q:=by
   rcases hq with h|⟨u,h⟩
   ·omega
   ·obtain⟨m,hm,_⟩:=obAt_some h;omega
  have hq1:q.toNat=0∨q.toNat≤H.obs.length:=by
   rcases hq with h|⟨u,h⟩
   ·omega
   ·obtain⟨m,hm,_⟩:=obAt_some h;omega
  have e:(((j+1:Nat):Int).toNat - 1)=j:=by omega
  have eq:((q.toNat:Nat):Int)=q:=by omega
  split
  ·rename_i hs
   unfold putO
   rw[e]
   exact h.upd (F':=H.F) (T':=H.T) hoj (fun _ _ h=>h) (fun _ _ _=>rfl) (Nat.le_refl _) h.nodup h.ids (fun h2=>by simp only at h2;omega) (h.keys j o hoj) (h.lens j o hoj) (proto_up h hoj hq1 (by rw[eq];exact hon) rfl)
  ·rename_i hs
   unfold putO
   rw[e]
   refine h.upd (F':=moveF H.F H.most o.shape q.toNat) (T':=H.T) hoj (fun _ _ h=>move_pre h) (fun _ _ _=>rfl) (Nat.le_refl _) h.nodup (move_ids h.ids) (fun h2=>?_) (h.keys j o hoj) (h.lens j o hoj) (proto_up h hoj hq1 (by rw[eq];exact hon) rfl)
   obtain⟨q0,l,h3,h4⟩:=h.fits j o hoj (by omega)
   exact⟨_,l,move_get (by omega) h3 h2,h4⟩
 ·exact h
theorem proto_pro{H:Hp}(h:HOk H)(hp:HPro H)(i q:Int):HPro (protoH H i q):=by
 unfold protoH
 split
 ·rename_i he
  obtain⟨⟨o,ho⟩,hq,hon⟩:=proto_go he
  rw[ho]
  simp only
  obtain⟨j,rfl,hj,hoj⟩:=obAt_some ho
  split
  ·rename_i hs
   exact putO_pro hp (fun h2=>by simp only at h2;omega)
  ·rename_i hs
   refine putO_pro (H:={ H with F:=moveF H.F H.most o.shape q.toNat }) (fun k u hu hsu=>?_) (fun h2=>?_)
   ·obtain⟨l,hl⟩:=hp k u hu hsu
    exact⟨l,move_pre hl⟩
   ·obtain⟨q0,l,h3,h4⟩:=h.fits j o hoj (by omega)
    exact⟨l,move_get (by omega) h3 h2⟩
 ·exact hp
end Go.Proofs.Tryz
namespace Go.Proofs.Tryz
open Go.Cs
open Go.RowKit (Below)
set_option maxRecDepth 100000
attribute [local irreducible] QC WLoop WScope CRound WRange
theorem rowVal(k n:Int)(y:ByteArray):crow Tryz.prog 48 1 #[(0,.agg #[.int .i64 k,.int .i64 n,.string y])]=some (.cells [.int .i64 k,.int .i64 n,.string y] 31 true):=by kernel_rfl
theorem infoVal:∃ ie,Tryz.prog.info? 31=some ie∧ie.size=3∧0<ie.bytes∧ie.bytes≤100:=by
 obtain⟨ie,h⟩:=Option.isSome_iff_exists.1 is31
 have h1:=ce31
 have h2:decide (0<Tryz.prog.bytesOf 31∧Tryz.prog.bytesOf 31≤100)=true:=by kernel_rfl
 rw[cellsOf_info h]at h1
 simp only[Program.bytesOf,h,decide_eq_true_eq]at h2
 exact⟨ie,h,h1,h2.1,h2.2⟩
section
variable {M:Type}[Mem M]{w0:World}{s:St M}{R:Value→St M→Prop}{lo p N pf pn:Nat}{H:Hp}{O:Nat→Prop}{tg:Nat→Nat}{sl:Value}{bs:List Nat}
theorem app_val{s:St M}{sl:Value}{cs:List Value}{k:Nat}{a b:Int}{y:ByteArray}(hlen:k≤1000000)(hsl:SlU 31 3 s sl cs k)(hfr:∀ q m c,sl = .slice (some q) m c→q.block<s.next) :
  ∃ s',capp Tryz.prog #[48,48] #[sl,.slice (some ⟨s.next,0,none⟩) 1 1] (s.new (.cells [.int .i64 a,.int .i64 b,.string y] 31 true))=some (.slice (some ⟨s.next+1,0,none⟩) (k+1) UNK,s')∧s'.next=s.next+2 ∧
   s'.at' (s.next+1)=some (.cells (cs ++ [.int .i64 a,.int .i64 b,.string y]) 31 true)∧(∀ b,b<s.next→(∀ q n c,sl = .slice (some q) n c→b≠q.block)→s'.at' b=s.at' b):=by
 obtain⟨ie,hie,h1,h2,h3⟩:=infoVal
 have hcapp:capp Tryz.prog #[48,48] #[sl,.slice (some ⟨s.next,0,none⟩) 1 1] (s.new (.cells [.int .i64 a,.int .i64 b,.string y] 31 true))=capp3 Tryz.prog 31 ie sl (s.new (.cells [.int .i64 a,.int .i64 b,.string y] 31 true)) (cmore ie.size (.slice (some ⟨s.next,0,none⟩) 1 1) (s.new (.cells [.int .i64 a,.int .i64 b,.string y] 31 true))):=
  app_eq underlying48 underlying48 hie
 have hv:cmore ie.size (.slice (some ⟨s.next,0,none⟩) 1 1) (s.new (.cells [.int .i64 a,.int .i64 b,.string y] 31 true))=some (1,[.int .i64 a,.int .i64 b,.string y]):=by
  simp only[more_at,St.at_new,if_true,more2,h1];rfl
 obtain⟨s',h3,h4,h5,h6⟩:=app_rowU (n:=k) (k:=1) hie ze31 (by rw[h1];rfl) h2 hcapp (by omega) (by
  have:(k+1)*ie.bytes≤1000001*100:=Nat.mul_le_mul (by omega) h3
  omega) rfl hv (by rw[h1];exact hsl.same fun q m c e=>by rw[St.at_new,if_neg (by have:=hfr q m c e;omega)])
 refine⟨s',by simpa using h3,by simp at h4;omega,h5,fun b hb hq=>?_⟩
 rw[h6 b (by simp;omega) hq,St.at_new,if_neg (by omega)]
theorem wch_app_val{s:St M}{sl:Value}{cs:List Value}{k:Nat}{a b:Int}{y:ByteArray}{K:Value→St M→Prop}(hlen:k≤1000000)(hsl:SlU 31 3 s sl cs k)(hfr:∀ q m c,sl = .slice (some q) m c→q.block<s.next)
  (h:∀ s',s'.next=s.next+2→s'.at' (s.next+1)=some (.cells (cs ++ [.int .i64 a,.int .i64 b,.string y]) 31 true)→(∀ b,b<s.next→(∀ q n c,sl = .slice (some q) n c→b≠q.block)→s'.at' b=s.at' b)→K (.slice (some ⟨s.next+1,0,none⟩) (k+1) UNK) s') :
  wch (capp Tryz.prog #[48,48] #[sl,.slice (some ⟨s.next,0,none⟩) 1 1] (s.new (.cells [.int .i64 a,.int .i64 b,.string y] 31 true))) K:=by
 obtain⟨s',h1,h2,h3,h4⟩:=app_val (a:=a) (b:=b) (y:=y) hlen hsl hfr
 exact⟨_,_,h1,h s' h2 h3 h4⟩
theorem ObAt.head{b:Nat}{o:Ob}{OO:Nat→Prop}{t:TypeId}{v:Value}{N':Nat}(h:ObAt lo s N b o OO)(hc:s.at' b=some (.cells [.iface t v,.int .i64 (o.proto:Int),.int .i64 (o.epoch:Int)] 184 true))(q e:Nat)(he:e≤N')(hN:N≤N') :
  ObAt lo (s.put b (.cells [.iface t v,.int .i64 (q:Int),.int .i64 (e:Int)] 184 true)) N' b { o with proto:=q,epoch:=e } OO:=by
 obtain⟨h1,h2,h3,h4⟩:=h
 refine⟨h1,h2,he,?_⟩
 rcases h4 with ⟨h5,pd,OD,h6,h7,h8⟩|⟨h5,ps,sl,h6,h7,h8,h9,h10,h11⟩
 ·rw[h6]at hc
  cases hc
  refine .inl ⟨h5,pd,OD,by rw[St.at_put,if_pos rfl],(h7.mono hN).same (Nat.le_refl _) fun c hc=>?_,h8⟩
  rw[St.at_put,if_neg (h8 c hc).2]
 ·rw[h6]at hc
  cases hc
  refine .inr ⟨h5,ps,sl,by rw[St.at_put,if_pos rfl],by rw[St.at_put,if_neg h9];exact h7,h8,h9,h10.same fun q n c e=>?_,h11⟩
  rw[St.at_put,if_neg (h11 q n c e).2.1]
theorem ObAt.loose{s':St M}{b pd:Nat}{o:Ob}{OD:Nat→Prop}{N':Nat}(hb:s'.at' b=some (.cells [.iface 180 (.agg #[.pointer (some ⟨pd,0,none⟩)]),.int .i64 (o.proto:Int),.int .i64 (o.epoch:Int)] 184 true))(hs:o.shape=0)(hD:DictAt lo s' pd o.L N' OD)(hne:∀ c,OD c→c≠b)(hlo:lo≤b∧b<s'.next)(he:o.epoch≤N'):ObAt lo s' N' b o (fun c=>c=b∨OD c):=by
 refine⟨?_,.inl rfl,he,.inl ⟨hs,pd,OD,hb,hD,fun c hc=>⟨.inr hc,hne c hc⟩⟩⟩
 rintro c (rfl|hc)
 ·exact hlo
 ·exact hD.own c hc
set_option maxHeartbeats 4000000 in
theorem hset0_spec(h:HpIn lo s p H N O tg pf pn sl bs)(hlo:lo≤s.next){j b:Nat}{o:Ob}{x y:ByteArray}{k n:Int}{w:V3}(hN:N≤1000000)(hN2:32≤N)(hb:bs[j]?=some b)(ho:H.obs[j]?=some o)(hx:getP o.L x=some w)
  (hR:∀ s' O',ObAt lo s' (N+1) b { o with L:=setP o.L x (k,n,y) } O'→Upd s s' (fun c=>O c∧tg c=j+3) O'→R (.tuple #[]) s'):QC Tryz.prog w0 162 #[.pointer (some ⟨p,0,none⟩),.pointer (some ⟨b,0,none⟩),.string x,vA k n y] s R:=by
 refine wfun2 hmix ok162 func162 rfl ntmps162 results162 (by simp) ?_
 have hB:=h.obj j b o hb ho
 have hbn:=(hB.own b hB.pin).2
 have hne:¬ b=s.next:=by omega
 have hml:o.L.length≤32:=by have:=h.ok.lens j o ho;have:=h.ok.lim;omega
 have l1:s.le (s.new (.cells [.int .i64 k,.int .i64 n,.string y] 31 true)):=lN (lR _)
 rcases hB.bl with ⟨h0,pd,OD,h1,h2,h3⟩|⟨h0,ps,sv,h1,h2,h3,h4,h5,h6⟩
 ·simp -implicitDefEqProofs only[↓Zd,(Zp),Zr,simprocAttr,qP,Value.cells,cut,qC,cld2,(HEx),vA,h1,hne,ord162,co165]
  refine hloosen_spec (h.le l1) (by have:=l1.1;omega) hN hN2 hb ho fun s1 pd1 OD1 hb1 hD1 ho1 hne1 hn1 hk1=>?_
  simp only[St.next_new]at hn1 hk1 ho1
  have c7:s1.at' s.next=some (.cells [.int .i64 k,.int .i64 n,.string y] 31 true):=by
   rw[hk1 _ (by omega) (fun hc=>by have:=(h.own _ hc.1).2;omega),St.at_new,if_pos rfl]
  have hpdn:=hne1 pd1 hD1.pin
  simp -implicitDefEqProofs only[↓Zd,(Zp),Zr,simprocAttr,qP,Value.cells,cut,qC,cld2,(HEx),vA,ord162,c7,co166]
  refine dset_spec (k:=k) (n:=n) (y:=y) hD1 (by omega) hN fun s2 OD2 hD2 hn2 hk2 ho2=>?_
  simp -implicitDefEqProofs only[↓Zd,(Zp),Zr,simprocAttr,qP,Value.cells,cut,qC,cld2,(HEx),vA,ord162]
  have hb2:s2.at' b=_:=(hk2 b (by omega) (fun hc=>hne1 b hc rfl)).trans hb1
  refine hR _ _ (ObAt.loose (o:={ o with L:=setP o.L x (k,n,y) }) hb2 h0 hD2 (fun c hc e=>?_) ⟨(hB.own b hB.pin).1,by omega⟩ (by have:=hB.ep;show o.epoch≤N+1;omega)) ⟨by omega,fun c hc hno=>?_,fun c hc=>?_⟩
  ·subst e
   rcases ho2 c hc with h|h
   ·exact hne1 c h rfl
   ·omega
  ·rw[hk2 c (by omega) (fun hc2=>by rcases ho1 c hc2 with h|h;exact hno h;omega),hk1 c (by omega) hno,St.at_new,if_neg (by omega)]
  ·rcases hc with rfl|hc
   ·exact .inl hB.pin
   ·rcases ho2 c hc with h|h
    ·rcases ho1 c h with h|h
     ·exact .inl h
     ·exact .inr (by omega)
    ·exact .inr (by omega)
 ·have hpsn:=(hB.own ps h3).2
  have hpse:¬ ps=s.next:=by omega
  have hF12:o.shape≤150:=by
   obtain⟨q0,l,h1,_⟩:=h.ok.fits j o ho h0
   have:=(List.getElem?_eq_some_iff.1 h1).1
   have:=h.fo.le
   omega
  rcases slot_fits h.ok ho h0 x with ⟨_,g2⟩|⟨m,v,g1,g2,g3⟩
  ·rw[g2]at hx;cases hx
  have hml2:=(List.getElem?_eq_some_iff.1 g2).1
  rcases h5 with ⟨e0,_⟩|⟨b2,junk,rfl,hb2,hl2⟩
  ·omega
  have hb2O:=h6 _ _ _ rfl
  simp only at hb2O
  have hb2n:=(hB.own b2 hb2O.1).2
  simp -implicitDefEqProofs only[↓Zd,(Zp),Zr,simprocAttr,qP,Value.cells,cut,qC,cld2,(HEx),vA,h1,h2,hne,hpse,ord162,co159]
  refine hslotof_spec (i:=(o.shape:Int)) (h.le l1) (by omega) fun s1 hs1=>?_
  rw[g1]
  have hn1:=hs1.1
  simp only[St.next_new]at hn1
  have k1:∀ c,c<s.next→s1.at' c=s.at' c:=fun c hc=>by rw[hs1.2 c (by simp only[St.next_new];omega),St.at_new,if_neg (by omega)]
  have c7:s1.at' s.next=some (.cells [.int .i64 k,.int .i64 n,.string y] 31 true):=by rw[hs1.2 _ (by simp only[St.next_new];omega),St.at_new,if_pos rfl]
  have hb21:=(k1 b2 hb2n).trans hb2
  have hkk:(0:Int)≤(m:Int)∧(m:Int)<(o.L.length:Int):=by omega
  have hset:=valsC_set o.L m x (k,n,y) _ junk g2
  obtain⟨cc1,cc2⟩:=valsC_cut o.L m x _ junk g2
  have hps1:=(k1 ps hpsn).trans h2
  have hsp:=setP_some (v:=(k,n,y)) (h.ok.keys j o ho) g2
  simp -implicitDefEqProofs only[↓Zd,(Zp),Zr,simprocAttr,qP,Value.cells,cut,qC,cld2,(HEx),vA,ord162,c7,hkk,hb21,hset,cc1,hps1]
  refine hR _ (fun c=>O c∧tg c=j+3) ⟨fun c hc=>⟨(hB.own c hc).1,by have:=(hB.own c hc).2;simp only[St.next_put];omega⟩,hB.pin,by have:=hB.ep;show o.epoch≤N+1;omega,.inr ⟨h0,ps,_,?_,?_,h3,h4,.inr ⟨b2,junk,by rw[hsp,List.length_set],?_,valsC_len _⟩,fun q n c e=>?_⟩⟩ ⟨by simp only[St.next_put];omega,fun c hc hno=>?_,fun c hc => .inl hc⟩
  ·rw[St.at_put,if_neg (fun e:b=b2=>hb2O.2.1 e.symm),k1 b hbn];exact h1
  ·rw[St.at_put,if_neg (fun e:ps=b2=>hb2O.2.2 e.symm)];exact hps1
  ·rw[St.at_put,if_pos rfl,hsp]
  ·cases e
   exact⟨hb2O.1,hb2O.2⟩
  ·rw[St.at_put,if_neg (fun e:c=b2=>hno (e▸hb2O.1)),k1 c hc]
theorem HpIn.setO{s':St M}{O':Nat→Prop}{i:Int}{j b:Nat}{o':Ob}(h:HpIn lo s p H N O tg pf pn sl bs)(hi:i=((j+1:Nat):Int))(hj:j<H.obs.length)(hb:bs[j]?=some b)(hU:Upd s s' (fun b=>O b∧tg b=j+3) O')(hB:ObAt lo s' N b o' O')(hok:HOk (putO H i o')) :
  HpIn lo s' p (putO H i o') N (reO O tg (j+3) O') (reT tg (j+3) O') pf pn sl bs:=by
 have e:i.toNat - 1=j:=by omega
 unfold putO at *
 rw[e]at hok ⊢
 exact h.newO hj hb hU hB hok
end
end Go.Proofs.Tryz
namespace Go.Proofs.Tryz
open Go.Cs
open Go.RowKit (Below)
set_option maxRecDepth 100000
attribute [local irreducible] QC WLoop WScope CRound WRange
theorem putO_put(H:Hp)(i:Int)(a b:Ob):putO (putO H i a) i b=putO H i b:=by
 unfold putO;simp only[List.set_set]
theorem next_put(H:Hp)(i k:Int)(a:Ob)(x:ByteArray):nextH (putO H i a) k x=putO (nextH H k x) i a:=by
 unfold nextH putO
 by_cases h:(shAt H.F k).isSome
 ·simp only[h,if_true]
 ·rw[if_neg h,if_neg h]
theorem nextN_put(H:Hp)(i k:Int)(a:Ob)(x:ByteArray):nextN (putO H i a) k x=nextN H k x:=rfl
theorem putO_at{H:Hp}{i:Int}{o a:Ob}{j:Nat}(hi:i=((j+1:Nat):Int))(hj:j<H.obs.length):(putO H i a).obs[j]?=some a:=by
 have e:i.toNat - 1=j:=by omega
 unfold putO
 simp only[e]
 rw[List.getElem?_set]
 simp[hj]
theorem bump_ok{H:Hp}(h:HOk H){i:Int}{o:Ob}(hi:obAt H i=some o)(e:Nat):HOk (putO H i { o with epoch:=e }):=by
 obtain⟨j,rfl,hj,ho⟩:=obAt_some hi
 exact putO_ok h hi (fun hs=>h.fits j o ho hs) (h.keys j o ho) (h.lens j o ho) rfl
section
variable {M:Type}[Mem M]{w0:World}{s:St M}{R:Value→St M→Prop}{lo p N pf pn:Nat}{H:Hp}{O:Nat→Prop}{tg:Nat→Nat}{sl:Value}{bs:List Nat}
theorem upd_put{b:Nat}{B:Blk}{OO:Nat→Prop}(hb:OO b):Upd s (s.put b B) OO OO:=
 ⟨Nat.le_refl _,fun c _ hno=>by rw[St.at_put,if_neg (fun e:c=b=>hno (e▸hb))],fun c hc => .inl hc⟩
theorem loose_end{s3 s4 s5:St M}{O3 OD4 OD5:Nat→Prop}{tg3:Nat→Nat}{j b pd q e N5:Nat}{L':List (ByteArray×V3)}(hb:O3 b∧tg3 b=j+3)(hbl:lo≤b∧b<s3.next)
  (hb4:s4.at' b=some (.cells [.iface 180 (.agg #[.pointer (some ⟨pd,0,none⟩)]),.int .i64 (q:Int),.int .i64 (e:Int)] 184 true))(ho4:∀ c,OD4 c→(O3 c∧tg3 c=j+3)∨s3.next≤c)(hne4:∀ c,OD4 c→c≠b)(hn4:s3.next≤s4.next)
  (hk4:∀ c,c<s3.next→¬ (O3 c∧tg3 c=j+3)→s4.at' c=s3.at' c)(hD5:DictAt lo s5 pd L' N5 OD5)(hn5:s4.next≤s5.next)(hk5:∀ c,c<s4.next→¬ OD4 c→s5.at' c=s4.at' c)(ho5:∀ c,OD5 c→OD4 c∨s4.next≤c)(he:e≤N5) :
  ObAt lo s5 N5 b { L:=L',shape:=0,proto:=q,epoch:=e } (fun c=>c=b∨OD5 c)∧Upd s3 s5 (fun c=>O3 c∧tg3 c=j+3) (fun c=>c=b∨OD5 c):=by
 have hne5:∀ c,OD5 c→c≠b:=fun c hc e=>by
  subst e
  rcases ho5 c hc with h|h
  ·exact hne4 c h rfl
  ·omega
 refine⟨ObAt.loose (o:={ L:=L',shape:=0,proto:=q,epoch:=e }) ((hk5 b (by omega) (fun hc=>hne4 b hc rfl)).trans hb4) rfl hD5 hne5 ⟨hbl.1,by omega⟩ he,by omega,fun c hc hno=>?_,fun c hc=>?_⟩
 ·rw[hk5 c (by omega) (fun hc2=>by rcases ho4 c hc2 with h|h;exact hno h;omega),hk4 c hc hno]
 ·rcases hc with rfl|hc
  ·exact .inl hb
  ·rcases ho5 c hc with h|h
   ·exact ho4 c h
   ·exact .inr (by omega)
theorem re_pin{b j:Nat}{O':Nat→Prop}(hb:O' b):reO O tg j O' b∧reT tg j O' b=j:=by
 have:=congrFun (re_same O tg j O') b
 exact this.mpr hb
set_option maxHeartbeats 8000000 in
theorem hset_spec(h:HpAt lo s p H N O)(hlo:lo≤s.next){i:Int}{x y:ByteArray}{k n:Int}(hN:N+3≤1000000)(hN2:32≤N)(hi : -9223372036854775808≤i∧i≤9223372036854775807)
  (hR:∀ s' O',HpAt lo s' p (setH H i x (k,n,y)) (N+3) O'→Upd s s' O O'→R (.int .i64 (setE H i x)) s'):QC Tryz.prog w0 78 #[.pointer (some ⟨p,0,none⟩),.int .i64 i,.string x,vA k n y] s R:=by
 refine wfun2 hmix ok78 func78 rfl ntmps78 results78 (by simp) ?_
 obtain⟨hpro,tg,pf,pn,sl,bs,h⟩:=h
 have l1:s.le (s.new (.cells [.int .i64 k,.int .i64 n,.string y] 31 true)):=lN (lR _)
 simp -implicitDefEqProofs only[↓Zd,(Zp),Zr,simprocAttr,qP,Value.cells,cut,qC,cld2,(HEx),vA,co133]
 refine hdead_spec (h.le l1) ?_
 simp -implicitDefEqProofs only[↓Zd,(Zp),Zr,simprocAttr,qP,Value.cells,cut,qC,cld2,(HEx),vA,co160]
 refine hfind_spec (h.le l1) hi (fun hno=>?_) (fun j b o hij hb ho hat=>?_)
 ·have e1:setH H i x (k,n,y)=H:=by unfold setH;rw[hno]
  have e2:setE H i x=4:=by unfold setE;rw[hno]
  rw[e1,e2]at hR
  simp -implicitDefEqProofs only[↓Zd,(Zp),Zr,simprocAttr,qP,Value.cells,cut,qC,cld2,(HEx),vA]
  exact hR _ _ ⟨hpro,tg,pf,pn,sl,bs,(h.le l1).mono (by omega)⟩ (.of_le l1)
 ·have hj:=(List.getElem?_eq_some_iff.1 ho).1
  have hhb:=h.bl
  have hlim:=h.ok.lim
  have hml:o.L.length≤32:=by have:=h.ok.lens j o ho;omega
  simp -implicitDefEqProofs only[↓Zd,(Zp),Zr,simprocAttr,qP,Value.cells,cut,qC,cld2,(HEx),vA,co161]
  refine hown0_spec (h.le l1) hb ho fun s1 hs1=>?_
  have hl1:=lT l1 hs1
  have hn1:=hs1.1
  simp only[St.next_new]at hn1
  have c7:s1.at' s.next=some (.cells [.int .i64 k,.int .i64 n,.string y] 31 true):=by rw[hs1.2 _ (by simp only[St.next_new];omega),St.at_new,if_pos rfl]
  have n7:¬ s.next=s1.next:=by omega
  have hpn:=(h.own p h.pin.1).2
  have np7:¬ p=s1.next:=by omega
  have hhb1:=(h.le hl1).bl
  cases hg:getP o.L x with
  |some w =>
   obtain⟨w1,w2,w3⟩:=w
   have e1:setH H i x (k,n,y)=putO H i { o with L:=setP o.L x (k,n,y) }:=by unfold setH;rw[hat];simp only[hg,Option.isSome_some,if_true]
   have e2:setE H i x=0:=by unfold setE;rw[hat];simp only[hg,Option.isSome_some,if_true]
   rw[e1,e2]at hR
   have hok:=set_ok h.ok i x (k,n,y)
   have hpr:=set_pro h.ok hpro i x (k,n,y)
   rw[e1]at hok hpr
   simp only[gotV,vOf]
   simp -implicitDefEqProofs only[↓Zd,(Zp),Zr,simprocAttr,qP,Value.cells,cut,qC,cld2,(HEx),vA,c7,n7,co162]
   have l2:s.le ((s1.new (.cells [.int .i64 0,.int .i64 0,.string ⟨#[]⟩] 31 true)).put s1.next (.cells [.int .i64 w1,.int .i64 w2,.string w3] 31 true)):=lP (lN hl1) (by omega)
   have h2:=h.le l2
   refine hset0_spec (k:=k) (n:=n) (y:=y) h2 (by have:=l2.1;omega) (by omega) hN2 hb ho hg fun s2 O2 hB2 hU2=>?_
   simp -implicitDefEqProofs only[↓Zd,(Zp),Zr,simprocAttr,qP,Value.cells,cut,qC,cld2,(HEx),vA]
   have h3:=(h2.mono (N':=N+1) (by omega)).setO hij hj hb hU2 hB2 hok
   exact hR _ _ ⟨hpr,_,_,_,_,_,h3.mono (by omega)⟩ ((Upd.of_le l2).trans (re_upd hU2))
  |none =>
   simp only[gotV]
   simp -implicitDefEqProofs only[↓Zd,(Zp),Zr,simprocAttr,qP,Value.cells,cut,qC,cld2,(HEx),vA,c7,n7,np7,hhb1,ord78,co163]
   have l2:s.le ((s1.new (.cells [.int .i64 0,.int .i64 0,.string ⟨#[]⟩] 31 true)).put s1.next (.cells [.int .i64 0,.int .i64 0,.string ⟨#[]⟩] 31 true)):=lP (lN hl1) (by omega)
   refine hcount0_spec ((h.le l2).obj j b o hb ho) fun s2 hs2=>?_
   have hl2:=lT l2 hs2
   have hn2:=hs2.1
   simp only[(Sn)]at hn2
   have h2:=h.le hl2
   have hhb2:=h2.bl
   have c72:s2.at' s.next=some (.cells [.int .i64 k,.int .i64 n,.string y] 31 true):=by rw[hs2.2 _ (by simp only[(Sn)];omega),St.at_put,if_neg (by omega),St.at_new,if_neg (by omega)];exact c7
   by_cases hmx:(H.maxP:Int)≤(o.L.length:Int)
   ·have e1:setH H i x (k,n,y)=H:=by unfold setH;rw[hat];simp only[hg,Option.isSome_none,Bool.false_eq_true,if_false];rw[if_pos (by omega)]
    have e2:setE H i x=42:=by unfold setE;rw[hat];simp only[hg,Option.isSome_none,Bool.false_eq_true,if_false];rw[if_pos (by omega)]
    rw[e1,e2]at hR
    simp -implicitDefEqProofs only[↓Zd,(Zp),Zr,simprocAttr,qP,Value.cells,cut,qC,cld2,(HEx),vA,hhb2,hmx,ord78]
    exact hR _ _ ⟨hpro,tg,pf,pn,sl,bs,h2.mono (by omega)⟩ (.of_le hl2)
   ·have e2:setE H i x=0:=by unfold setE;rw[hat];simp only[hg,Option.isSome_none,Bool.false_eq_true,if_false];rw[if_neg (by omega)]
    rw[e2]at hR
    have hB:=h2.obj j b o hb ho
    have hbn:=(hB.own b hB.pin).2
    have hep:=hB.ep
    have w1:IntKind.i64.wrap ((o.epoch:Int)+1)=((o.epoch+1:Nat):Int):=by rw[wrap_i64 (by omega)];omega
    have hsp:=setP_none o.L x (k,n,y) hg
    have hb7:¬ s.next=b:=by have:=(h.own b hB.pin.1).2;omega
    have hok1:=bump_ok h.ok hat (o.epoch+1)
    rcases hB.bl with ⟨h0,pd,OD,g1,g2,g3⟩|⟨h0,ps,sv,g1,g2,g3,g4,g5,g6⟩
    ·have e1:setH H i x (k,n,y)=putO H i { L:=setP o.L x (k,n,y),shape:=0,proto:=o.proto,epoch:=o.epoch+1 }:=by unfold setH;rw[hat];simp only[hg,Option.isSome_none,Bool.false_eq_true,if_false];rw[if_neg (by omega),if_pos h0]
     rw[e1]at hR
     have hok:=set_ok h.ok i x (k,n,y)
     have hpr:=set_pro h.ok hpro i x (k,n,y)
     rw[e1]at hok hpr
     simp -implicitDefEqProofs only[↓Zd,(Zp),Zr,simprocAttr,qP,Value.cells,cut,qC,cld2,(HEx),vA,hhb2,hmx,g1,w1,ord78,c72,hb7,co165]
     have hB1:=hB.head g1 o.proto (o.epoch+1) (N':=N+1) (by omega) (by omega)
     have h3:=(h2.mono (N':=N+1) (by omega)).setO hij hj hb (upd_put hB.pin) hB1 hok1
     have hU3:=re_upd (tg:=tg) (k:=j+3) (upd_put (s:=s2) (B := .cells [.iface 180 (.agg #[.pointer (some ⟨pd,0,none⟩)]),.int .i64 (o.proto:Int),.int .i64 ((o.epoch+1:Nat):Int)] 184 true) hB.pin)
     have ho3:(putO H i { o with epoch:=o.epoch+1 }).obs[j]?=some { o with epoch:=o.epoch+1 }:=putO_at (o:=o) hij hj
     refine hloosen_spec h3 (by simp only[St.next_put];omega) (by omega) (by omega) hb ho3 fun s4 pd4 OD4 hb4 hD4 ho4 hne4 hn4 hk4=>?_
     have hno7:¬ O s.next:=fun hc=>by have:=(h.own _ hc).2;omega
     have hno7':¬ reO O tg (j+3) (fun c=>O c∧tg c=j+3) s.next:=fun hc=>by rcases hc with h|h;exact hno7 h.1;exact hno7 h.1
     have c74:s4.at' s.next=some (.cells [.int .i64 k,.int .i64 n,.string y] 31 true):=by
      rw[hk4 _ (by simp only[St.next_put];omega) (fun hc=>hno7' hc.1),St.at_put,if_neg hb7];exact c72
     simp -implicitDefEqProofs only[↓Zd,(Zp),Zr,simprocAttr,qP,Value.cells,cut,qC,cld2,(HEx),vA,c74,ord78,co166]
     refine dset_spec (k:=k) (n:=n) (y:=y) hD4 (by simp only[St.next_put]at hn4;omega) (by omega) fun s5 OD5 hD5 hn5 hk5 ho5=>?_
     simp -implicitDefEqProofs only[↓Zd,(Zp),Zr,simprocAttr,qP,Value.cells,cut,qC,cld2,(HEx),vA,ord78]
     obtain⟨hB5,hU5⟩:=loose_end (O3:=reO O tg (j+3) (fun c=>O c∧tg c=j+3)) (tg3:=reT tg (j+3) (fun c=>O c∧tg c=j+3)) (re_pin hB.pin) ⟨(hB.own b hB.pin).1,by simp only[St.next_put];omega⟩ hb4 ho4 hne4 hn4 hk4 hD5 hn5 hk5 ho5 (by show o.epoch+1≤_;omega)
     have h5:=(h3.mono (N':=N+1+1) (by omega)).setO hij (by simp only[putO,List.length_set];exact hj) hb hU5 hB5 (by rw[putO_put];exact hok)
     rw[putO_put]at h5
     exact hR _ _ ⟨hpr,_,_,_,_,_,h5.mono (by omega)⟩ ((Upd.of_le hl2).trans (hU3.trans (re_upd hU5)))
    ·have hpsn:=(hB.own ps g3).2
     have hgs:¬ ps=b:=g4
     have h7ps:¬ s.next=ps:=by have:=(h.own _ g3.1).2;omega
     have hF12:o.shape≤150:=by
      obtain⟨q0,l,h1,_⟩:=h.ok.fits j o ho h0
      have:=(List.getElem?_eq_some_iff.1 h1).1
      have:=h.fo.le
      omega
     simp -implicitDefEqProofs only[↓Zd,(Zp),Zr,simprocAttr,qP,Value.cells,cut,qC,cld2,(HEx),vA,hhb2,hmx,g1,g2,hgs,w1,ord78,co164]
     have hB1:=hB.head g1 o.proto (o.epoch+1) (N':=N+1) (by omega) (by omega)
     have h3:=(h2.mono (N':=N+1) (by omega)).setO hij hj hb (upd_put hB.pin) hB1 hok1
     have hU3:=re_upd (tg:=tg) (k:=j+3) (upd_put (s:=s2) (B := .cells [.iface 185 (.pointer (some ⟨ps,0,none⟩)),.int .i64 (o.proto:Int),.int .i64 ((o.epoch+1:Nat):Int)] 184 true) hB.pin)
     have ho3:(putO H i { o with epoch:=o.epoch+1 }).obs[j]?=some { o with epoch:=o.epoch+1 }:=putO_at (o:=o) hij hj
     have hno7:¬ O s.next:=fun hc=>by have:=(h.own _ hc).2;omega
     have hno7':¬ reO O tg (j+3) (fun c=>O c∧tg c=j+3) s.next:=fun hc=>by rcases hc with h|h;exact hno7 h.1;exact hno7 h.1
     refine hnext_spec (i:=(o.shape:Int)) h3 (by simp only[St.next_put];omega) (by omega) (by omega) fun s4 O4 tg4 h4 hU4 hT4=>?_
     rw[next_put]at h4
     rw[nextN_put]
     have hn4:=hU4.next
     simp only[St.next_put]at hn4
     have c74:s4.at' s.next=some (.cells [.int .i64 k,.int .i64 n,.string y] 31 true):=by
      rw[hU4.keep _ (by simp only[St.next_put];omega) hno7',St.at_put,if_neg hb7];exact c72
     have e1:setH H i x (k,n,y)=putO (nextH H o.shape x) i { L:=setP o.L x (k,n,y),shape:=nextN H o.shape x,proto:=o.proto,epoch:=o.epoch+1 }:=by unfold setH;rw[hat];simp only[hg,Option.isSome_none,Bool.false_eq_true,if_false];rw[if_neg (by omega),if_neg (by omega)]
     rw[e1]at hR
     have hok:=set_ok h.ok i x (k,n,y)
     have hpr:=set_pro h.ok hpro i x (k,n,y)
     rw[e1]at hok hpr
     have hin3:∀ c,O c∧tg c=j+3→s4.at' c=(s2.put b (.cells [.iface 185 (.pointer (some ⟨ps,0,none⟩)),.int .i64 (o.proto:Int),.int .i64 ((o.epoch+1:Nat):Int)] 184 true)).at' c∧O4 c∧tg4 c=j+3:=fun c hc=>by
      have hp3:=re_pin (O:=O) (tg:=tg) (j:=j+3) (O':=fun c=>O c∧tg c=j+3) hc
      obtain⟨a1,a2,a3⟩:=hT4 c hp3.1 (by rw[hp3.2];omega) (by rw[hp3.2];omega)
      exact⟨a1,a2,a3.trans hp3.2⟩
     have ho4:(putO (nextH H (o.shape:Int) x) i { o with epoch:=o.epoch+1 }).obs[j]?=some { o with epoch:=o.epoch+1 }:=putO_at (o:=o) hij (by rw[(next_obs _ _ _).1];exact hj)
     have hlt4:j<(nextH H (o.shape:Int) x).obs.length:=by rw[(next_obs _ _ _).1];exact hj
     have hUall:Upd s s4 O O4:=(Upd.of_le hl2).trans (hU3.trans hU4)
     by_cases hpos:(0:Int)<((nextN H (o.shape:Int) x:Nat):Int)
     ·have hps4:s4.at' ps=some (.cells [.int .i64 (o.shape:Int),sv] 187 true):=by
       rw[(hin3 ps g3).1,St.at_put,if_neg g4];exact g2
      have hb4:s4.at' b=some (.cells [.iface 185 (.pointer (some ⟨ps,0,none⟩)),.int .i64 (o.proto:Int),.int .i64 ((o.epoch+1:Nat):Int)] 184 true):=by
       rw[(hin3 b hB.pin).1,St.at_put,if_pos rfl]
      have hsl4:SlU 31 3 s4 sv (valsC o.L) o.L.length:=g5.same fun q n c e=>by
       have:=g6 q n c e
       rw[(hin3 _ this.1).1,St.at_put,if_neg this.2.1]
      have hfr4:∀ q m c,sv = .slice (some q) m c→q.block<s4.next:=fun q m c e=>(h4.own _ (hin3 _ (g6 q m c e).1).2.1).2
      have hpsn4:=(h4.own _ (hin3 ps g3).2.1).2
      have hbn4:=(h4.own _ (hin3 b hB.pin).2.1).2
      simp -implicitDefEqProofs only[↓Zd,(Zp),Zr,simprocAttr,qP,Value.cells,cut,qC,cld2,(HEx),vA,hpos,hps4,c74,rowVal,ord78]
      refine wch_app_val (by omega) hsl4 hfr4 fun s5 hn5 hb5 hk5=>?_
      have hps5:s5.at' ps=some (.cells [.int .i64 (o.shape:Int),sv] 187 true):=by
       rw[hk5 ps hpsn4 (fun q n c e e2=>(g6 q n c e).2.2 e2.symm)];exact hps4
      have c75:s5.at' s.next=some (.cells [.int .i64 k,.int .i64 n,.string y] 31 true):=by
       rw[hk5 _ (by omega) (fun q m c e e2=>hno7 (by have:=(g6 q m c e).1.1;rw[← e2]at this;exact this))];exact c74
      simp -implicitDefEqProofs only[↓Zd,(Zp),Zr,simprocAttr,qP,Value.cells,cut,qC,cld2,(HEx),vA,hps5,c75,ord78]
      have hne5:¬ b=ps:=fun e=>g4 e.symm
      have hB6:ObAt lo ((s5.put ps (.cells [.int .i64 ((nextN H (o.shape:Int) x:Nat):Int),sv] 187 true)).put ps (.cells [.int .i64 ((nextN H (o.shape:Int) x:Nat):Int),.slice (some ⟨s4.next+1,0,none⟩) (o.L.length+1) UNK] 187 true)) (N+1+1) b { L:=setP o.L x (k,n,y),shape:=nextN H (o.shape:Int) x,proto:=o.proto,epoch:=o.epoch+1 } (fun c=>(O4 c∧tg4 c=j+3)∨c=s4.next+1):=by
       refine⟨fun c hc=>?_,.inl (hin3 b hB.pin).2,by show o.epoch+1≤_;omega,.inr ⟨by show 0<nextN H (o.shape:Int) x;omega,ps,_,?_,by rw[St.at_put,if_pos rfl],.inl (hin3 ps g3).2,g4,.inr ⟨s4.next+1,[],by rw[hsp];simp,?_,valsC_len _⟩,fun q m c e=>?_⟩⟩
       ·rcases hc with hc|rfl
        ·have:=h4.own c hc.1
         simp only[St.next_put];omega
        ·simp only[St.next_put];omega
       ·rw[St.at_put,if_neg hne5,St.at_put,if_neg hne5,hk5 b hbn4 (fun q m c e e2=>(g6 q m c e).2.1 e2.symm)];exact hb4
       ·rw[St.at_put,if_neg (by omega),St.at_put,if_neg (by omega),hb5,hsp,valsC_app,List.append_nil];rfl
       ·cases e
        exact⟨.inr rfl,by show s4.next+1≠b;omega,by show s4.next+1≠ps;omega⟩
      have hU6:Upd s4 ((s5.put ps (.cells [.int .i64 ((nextN H (o.shape:Int) x:Nat):Int),sv] 187 true)).put ps (.cells [.int .i64 ((nextN H (o.shape:Int) x:Nat):Int),.slice (some ⟨s4.next+1,0,none⟩) (o.L.length+1) UNK] 187 true)) (fun c=>O4 c∧tg4 c=j+3) (fun c=>(O4 c∧tg4 c=j+3)∨c=s4.next+1):=by
       refine⟨by simp only[St.next_put];omega,fun c hc hno=>?_,fun c hc=>?_⟩
       ·have hcp:¬ c=ps:=fun e=>hno (e▸(hin3 ps g3).2)
        rw[St.at_put,if_neg hcp,St.at_put,if_neg hcp,hk5 c hc (fun q m k e e2=>hno (by rw[e2];exact (hin3 _ (g6 q m k e).1).2))]
       ·rcases hc with hc|rfl
        ·exact .inl hc
        ·exact .inr (by omega)
      have h6:=h4.setO hij (by simp only[putO,List.length_set];exact hlt4) hb hU6 hB6 (by rw[putO_put];exact hok)
      rw[putO_put]at h6
      exact hR _ _ ⟨hpr,_,_,_,_,_,h6.mono (by omega)⟩ (hUall.trans (re_upd hU6))
     ·have hz:nextN H (o.shape:Int) x=0:=by omega
      simp -implicitDefEqProofs only[↓Zd,(Zp),Zr,simprocAttr,qP,Value.cells,cut,qC,cld2,(HEx),vA,hpos,ord78,c74,co165]
      refine hloosen_spec h4 (by omega) (by omega) (by omega) hb ho4 fun s5 pd5 OD5 hb5 hD5 ho5 hne5 hn5 hk5=>?_
      have hno4:¬ O4 s.next:=fun hc=>by
       rcases hU4.own _ hc with h|h
       ·exact hno7' h
       ·simp only[St.next_put]at h;omega
      have c75:s5.at' s.next=some (.cells [.int .i64 k,.int .i64 n,.string y] 31 true):=by
       rw[hk5 _ (by omega) (fun hc=>hno4 hc.1)];exact c74
      simp -implicitDefEqProofs only[↓Zd,(Zp),Zr,simprocAttr,qP,Value.cells,cut,qC,cld2,(HEx),vA,c75,ord78,co166]
      refine dset_spec (k:=k) (n:=n) (y:=y) hD5 (by omega) (by omega) fun s6 OD6 hD6 hn6 hk6 ho6=>?_
      simp -implicitDefEqProofs only[↓Zd,(Zp),Zr,simprocAttr,qP,Value.cells,cut,qC,cld2,(HEx),vA,ord78]
      have hpin4:=(hin3 b hB.pin).2
      obtain⟨hB6,hU6⟩:=loose_end (L':=setP o.L x (k,n,y)) hpin4 (h4.own b hpin4.1) hb5 ho5 hne5 hn5 hk5 hD6 hn6 hk6 ho6 (by show o.epoch+1≤_;omega)
      rw[hz]at hok hpr hR
      have h6:=(h4.mono (N':=N+1+1+1) (by omega)).setO hij (by simp only[putO,List.length_set];exact hlt4) hb hU6 hB6 (by rw[putO_put];exact hok)
      rw[putO_put]at h6
      exact hR _ _ ⟨hpr,_,_,_,_,_,h6⟩ (hUall.trans (re_upd hU6))
end
end Go.Proofs.Tryz
end
section
namespace Go.Proofs.Tryz
open Go.Cs
open Go.RowKit (Below)
set_option maxRecDepth 100000
attribute [local irreducible] QC WLoop WScope CRound WRange
section
variable {M:Type}[Mem M]{w0:World}{s:St M}{R:Value→St M→Prop}{lo p N:Nat}{H:Hp}{O:Nat→Prop}
set_option maxHeartbeats 8000000 in
theorem hdel_spec(h:HpAt lo s p H N O)(hlo:lo≤s.next){i:Int}{x:ByteArray}(hN:N+3≤1000000)(hN2:32≤N)(hi : -9223372036854775808≤i∧i≤9223372036854775807)
  (hR:∀ s' O',HpAt lo s' p (delH H i x) (N+3) O'→Upd s s' O O'→R (.bool (delB H i x)) s'):QC Tryz.prog w0 168 #[.pointer (some ⟨p,0,none⟩),.int .i64 i,.string x] s R:=by
 refine wfun2 hmix ok168 func168 rfl ntmps168 results168 (by simp) ?_
 obtain⟨hpro,tg,pf,pn,sl,bs,h⟩:=h
 simp -implicitDefEqProofs only[↓Zd,(Zp),Zr,simprocAttr,qP,Value.cells,cut,qC,cld2,(HEx),vA,co160]
 refine hfind_spec h hi (fun hno=>?_) (fun j b o hij hb ho hat=>?_)
 ·have e1:delH H i x=H:=by unfold delH;rw[hno]
  have e2:delB H i x=false:=by unfold delB;rw[hno];rfl
  rw[e1,e2]at hR
  simp -implicitDefEqProofs only[↓Zd,(Zp),Zr,simprocAttr,qP,Value.cells,cut,qC,cld2,(HEx),vA]
  exact hR _ _ ⟨hpro,tg,pf,pn,sl,bs,h.mono (by omega)⟩ .refl
 ·have hj:=(List.getElem?_eq_some_iff.1 ho).1
  simp -implicitDefEqProofs only[↓Zd,(Zp),Zr,simprocAttr,qP,Value.cells,cut,qC,cld2,(HEx),vA,co161]
  refine hown0_spec h hb ho fun s1 hs1=>?_
  have hn1:=hs1.1
  cases hg:getP o.L x with
  |none =>
   have e1:delH H i x=H:=by unfold delH;rw[hat];simp only[hg,Option.isSome_none,Bool.false_eq_true,if_false]
   have e2:delB H i x=false:=by unfold delB;rw[hat];simp only[Option.bind_some,hg,Option.isSome_none]
   rw[e1,e2]at hR
   simp only[gotV]
   simp -implicitDefEqProofs only[↓Zd,(Zp),Zr,simprocAttr,qP,Value.cells,cut,qC,cld2,(HEx),vA]
   have l2:s.le ((s1.new (.cells [.int .i64 0,.int .i64 0,.string ⟨#[]⟩] 31 true)).put s1.next (.cells [.int .i64 0,.int .i64 0,.string ⟨#[]⟩] 31 true)):=lP (lN hs1) (by omega)
   exact hR _ _ ⟨hpro,tg,pf,pn,sl,bs,(h.le l2).mono (by omega)⟩ (.of_le l2)
  |some w =>
   obtain⟨v1,v2,v3⟩:=w
   have e1:delH H i x=putO H i { L:=delP o.L x,shape:=0,proto:=o.proto,epoch:=o.epoch+1 }:=by unfold delH;rw[hat];simp only[hg,Option.isSome_some,if_true]
   have e2:delB H i x=true:=by unfold delB;rw[hat];simp only[Option.bind_some,hg,Option.isSome_some]
   have hok:=del_ok h.ok i x
   have hpr:=del_pro hpro i x
   rw[e1]at hok hpr
   rw[e1,e2]at hR
   have hok1:=bump_ok h.ok hat (o.epoch+1)
   have l2:s.le ((s1.new (.cells [.int .i64 0,.int .i64 0,.string ⟨#[]⟩] 31 true)).put s1.next (.cells [.int .i64 v1,.int .i64 v2,.string v3] 31 true)):=lP (lN hs1) (by omega)
   have h2:=h.le l2
   have hB:=h2.obj j b o hb ho
   obtain⟨t,v,hc⟩:=hB.cells
   have hbn:=(h.own b hB.pin.1).2
   have hep:=hB.ep
   have w1:IntKind.i64.wrap ((o.epoch:Int)+1)=((o.epoch+1:Nat):Int):=by rw[wrap_i64 (by omega)];omega
   have hbs:¬ b=s1.next:=by omega
   have hc1:s1.at' b=some (.cells [.iface t v,.int .i64 (o.proto:Int),.int .i64 (o.epoch:Int)] 184 true):=by
    rw[St.at_put,if_neg hbs,St.at_new,if_neg hbs]at hc;exact hc
   simp only[gotV,vOf]
   simp -implicitDefEqProofs only[↓Zd,(Zp),Zr,simprocAttr,qP,Value.cells,cut,qC,cld2,(HEx),vA,hc1,hbs,w1,co165]
   have hB1:=hB.head hc o.proto (o.epoch+1) (N':=N+1) (by omega) (by omega)
   have h3:=(h2.mono (N':=N+1) (by omega)).setO hij hj hb (upd_put hB.pin) hB1 hok1
   have hU3:=re_upd (tg:=tg) (k:=j+3) (upd_put (s:=(s1.new (.cells [.int .i64 0,.int .i64 0,.string ⟨#[]⟩] 31 true)).put s1.next (.cells [.int .i64 v1,.int .i64 v2,.string v3] 31 true)) (B := .cells [.iface t v,.int .i64 (o.proto:Int),.int .i64 ((o.epoch+1:Nat):Int)] 184 true) hB.pin)
   have ho3:(putO H i { o with epoch:=o.epoch+1 }).obs[j]?=some { o with epoch:=o.epoch+1 }:=putO_at (o:=o) hij hj
   refine hloosen_spec h3 (by simp only[(Sn)];omega) (by omega) (by omega) hb ho3 fun s4 pd4 OD4 hb4 hD4 ho4 hne4 hn4 hk4=>?_
   simp -implicitDefEqProofs only[↓Zd,(Zp),Zr,simprocAttr,qP,Value.cells,cut,qC,cld2,(HEx),vA,co229]
   refine ddel_spec hD4 (by omega) (fun s5 hD5 hn5 hk5=>?_) (by rw[hg];rfl)
   rw[hg]
   simp -implicitDefEqProofs only[↓Zd,(Zp),Zr,simprocAttr,qP,Value.cells,cut,qC,cld2,(HEx),vA]
   obtain⟨hB5,hU5⟩:=loose_end (O3:=reO O tg (j+3) (fun c=>O c∧tg c=j+3)) (tg3:=reT tg (j+3) (fun c=>O c∧tg c=j+3)) (re_pin hB.pin) ⟨(hB.own b hB.pin).1,by simp only[(Sn)];omega⟩ hb4 ho4 hne4 hn4 hk4 hD5 hn5 hk5 (fun c hc => .inl hc) (by show o.epoch+1≤_;omega)
   have h5:=h3.setO hij (by simp only[putO,List.length_set];exact hj) hb hU5 hB5 (by rw[putO_put];exact hok)
   rw[putO_put]at h5
   exact hR _ _ ⟨hpr,_,_,_,_,_,h5.mono (by omega)⟩ ((Upd.of_le l2).trans (hU3.trans (re_upd hU5)))
theorem putO_putF(H:Hp)(F':List Sh)(i:Int)(a b:Ob):putO { putO H i a with F:=F' } i b=putO { H with F:=F' } i b:=by
 unfold putO;simp only[List.set_set]
theorem move_ok{H:Hp}(h:HOk H)(n q:Nat):HOk { H with F:=moveF H.F H.most n q }:=
 h.more (fun j t ht=>move_pre ht) (fun _ _ _=>rfl) (Nat.le_refl _) h.nodup (move_ids h.ids)
set_option maxHeartbeats 8000000 in
theorem hsetproto_spec(h:HpAt lo s p H N O)(hlo:lo≤s.next){i q:Int}(hN:N+3≤1000000)(hN2:32≤N)(hi : -9223372036854775808≤i∧i≤9223372036854775807)(hq : -9223372036854775808≤q∧q≤9223372036854775807)
  (hR:∀ s' O',HpAt lo s' p (protoH H i q) (N+3) O'→Upd s s' O O'→R (.int .i64 (protoE H i q)) s'):QC Tryz.prog w0 153 #[.pointer (some ⟨p,0,none⟩),.int .i64 i,.int .i64 q] s R:=by
 refine wfun2 hmix ok153 func153 rfl ntmps153 results153 (by simp) ?_
 obtain⟨hpro,tg,pf,pn,sl,bs,h⟩:=h
 have hmono:=h.mono (N':=N+3) (by omega)
 have hno4:protoE H i q=4→R (.int .i64 4) s:=fun e=>by
  have:=hR s O
  rw[e]at this
  have e1:protoH H i q=H:=by unfold protoH;rw[if_neg (by omega)]
  rw[e1]at this
  exact this ⟨hpro,_,_,_,_,_,hmono⟩ .refl
 have hno32:protoE H i q=32→R (.int .i64 32) s:=fun e=>by
  have:=hR s O
  rw[e]at this
  have e1:protoH H i q=H:=by unfold protoH;rw[if_neg (by omega)]
  rw[e1]at this
  exact this ⟨hpro,_,_,_,_,_,hmono⟩ .refl
 have hhb:=h.bl
 simp -implicitDefEqProofs only[↓Zd,(Zp),Zr,simprocAttr,qP,Value.cells,cut,qC,cld2,(HEx),vA,co133]
 refine hdead_spec h ?_
 simp -implicitDefEqProofs only[↓Zd,(Zp),Zr,simprocAttr,qP,Value.cells,cut,qC,cld2,(HEx),vA,co160]
 refine hfind_spec h hi (fun hno=>?_) (fun j b o hij hb ho hat=>?_)
 ·have e:protoE H i q=4:=by unfold protoE;rw[if_pos (.inl hno)]
  simp -implicitDefEqProofs only[↓Zd,(Zp),Zr,simprocAttr,qP,Value.cells,cut,qC,cld2,(HEx),vA]
  exact hno4 e
 ·have hj:=(List.getElem?_eq_some_iff.1 ho).1
  have hrest:(q=0∨∃ u,obAt H q=some u)→QC Tryz.prog w0 216 #[.pointer (some ⟨p,0,none⟩),.int .i64 i,.int .i64 q] s (fun v s'=>s'=s∧v = .bool (onB H i q)):=fun hq=>by
   refine hon_spec h (by omega) ?_ fun b hb=>⟨rfl,by rw[hb.eq]⟩
   rcases hq with h|⟨u,h⟩
   ·exact .inl h
   ·obtain⟨m,hm,hm2,_⟩:=obAt_some h
    right;omega
  by_cases qn0:q<0
  ·have q0:¬ q=0:=by omega
   have hqn:obAt H q=none:=obAt_none.2 (by omega)
   have e:protoE H i q=4:=by unfold protoE;rw[if_pos (.inr ⟨q0,hqn⟩)]
   simp -implicitDefEqProofs only[↓Zd,(Zp),Zr,simprocAttr,qP,Value.cells,cut,qC,cld2,(HEx),vA,q0,co160]
   refine hfind_spec h hq (fun _=>?_) (fun j2 b2 o2 hij2 hb2 ho2 hat2=>by rw[hqn]at hat2;cases hat2)
   simp -implicitDefEqProofs only[↓Zd,(Zp),Zr,simprocAttr,qP,Value.cells,cut,qC,cld2,(HEx),vA]
   exact hno4 e
  ·obtain⟨qn,rfl⟩:∃ qn:Nat,q=(qn:Int):=⟨q.toNat,by omega⟩
   have hB:=h.obj j b o hb ho
   have hbn:=(hB.own b hB.pin).2
   have hep:=hB.ep
   have w1:IntKind.i64.wrap ((o.epoch:Int)+1)=((o.epoch+1:Nat):Int):=by rw[wrap_i64 (by omega)];omega
   have hpb:¬ p=b:=fun e=>by have h1:=h.pin.2;have h2:=hB.pin.2;rw[e]at h1;omega
   by_cases q0:qn=0
   ·subst q0
    simp -implicitDefEqProofs only[↓Zd,(Zp),Zr,simprocAttr,qP,Value.cells,cut,qC,cld2,(HEx),vA,co160,co216]
    refine QC.mono (hrest (.inl rfl)) fun v s' hv=>?_
    obtain⟨rfl,rfl⟩:=hv
    have hqok:¬ (obAt H i=none∨(((0:Nat):Int)≠0∧obAt H ((0:Nat):Int)=none)):=by rintro (h|h);rw[hat]at h;cases h;exact h.1 rfl
    have hup:onB H i ((0:Nat):Int)=false→HOk (putO H i { o with proto:=0,epoch:=o.epoch+1 }):=fun hon=>by
     subst hij
     unfold putO
     rw[show ((j+1:Nat):Int).toNat - 1=j by omega]
     exact h.ok.upd (F':=H.F) (T':=H.T) ho (fun _ _ h=>h) (fun _ _ _=>rfl) (Nat.le_refl _) h.ok.nodup h.ok.ids (fun h2=>h.ok.fits j o ho h2) (h.ok.keys j o ho) (h.ok.lens j o ho) (proto_up h.ok ho (.inl rfl) hon rfl)
    cases hon:onB H i ((0:Nat):Int) with
    |true =>
     have e:protoE H i ((0:Nat):Int)=32:=by unfold protoE;rw[if_neg hqok,if_pos hon]
     simp -implicitDefEqProofs only[↓Zd,(Zp),Zr,simprocAttr,qP,Value.cells,cut,qC,cld2,(HEx),vA]
     exact hno32 e
    |false =>
     have e:protoE H i ((0:Nat):Int)=0:=by unfold protoE;rw[if_neg hqok,if_neg (by rw[hon];simp)]
     have hok:=proto_ok h.ok i ((0:Nat):Int)
     have hpr:=proto_pro h.ok hpro i ((0:Nat):Int)
     have hok1:=hup hon
     rcases hB.bl with ⟨h0,pd,OD,g1,g2,g3⟩|⟨h0,ps,sv,g1,g2,g3,g4,g5,g6⟩
     ·have e1:protoH H i ((0:Nat):Int)=putO H i { o with proto:=0,epoch:=o.epoch+1 }:=by unfold protoH;rw[if_pos e,hat];simp only[if_pos h0];rfl
      rw[e1]at hok hpr hR
      rw[e]at hR
      simp -implicitDefEqProofs only[↓Zd,(Zp),Zr,simprocAttr,qP,Value.cells,cut,qC,cld2,(HEx),vA,g1,w1,ord153]
      have hB1:=hB.head g1 0 o.epoch (N':=N+1) (by omega) (by omega)
      have hB2:=hB1.head (by rw[St.at_put,if_pos rfl]) 0 (o.epoch+1) (N':=N+1) (by show o.epoch+1≤_;omega) (Nat.le_refl _)
      have h3:=(h.mono (N':=N+1) (by omega)).setO hij hj hb ((upd_put hB.pin).trans (upd_put hB.pin)) hB2 hok1
      exact hR _ _ ⟨hpr,_,_,_,_,_,h3.mono (by omega)⟩ (re_upd ((upd_put hB.pin).trans (upd_put hB.pin)))
     ·have e1:protoH H i ((0:Nat):Int)=putO { H with F:=moveF H.F H.most o.shape 0 } i { o with proto:=0,epoch:=o.epoch+1,shape:=moveN H.F H.most o.shape 0 }:=by unfold protoH;rw[if_pos e,hat];simp only[if_neg (show ¬ o.shape=0 by omega)];rfl
      rw[e1]at hok hpr hR
      rw[e]at hR
      have hgs:¬ ps=b:=g4
      have hF12:o.shape≤150:=by
       obtain⟨q0,l,h1,_⟩:=h.ok.fits j o ho h0
       have:=(List.getElem?_eq_some_iff.1 h1).1
       have:=h.fo.le
       omega
      have hB1:=hB.head g1 0 o.epoch (N':=N+1) (by omega) (by omega)
      have hB2:=hB1.head (by rw[St.at_put,if_pos rfl]) 0 (o.epoch+1) (N':=N+1) (by show o.epoch+1≤_;omega) (Nat.le_refl _)
      have h3:=(h.mono (N':=N+1) (by omega)).setO hij hj hb ((upd_put hB.pin).trans (upd_put hB.pin)) hB2 hok1
      have hU3:=re_upd ((upd_put (s:=s') (B := .cells [.iface 185 (.pointer (some ⟨ps,0,none⟩)),.int .i64 ((0:Nat):Int),.int .i64 (o.epoch:Int)] 184 true) hB.pin).trans (upd_put (B := .cells [.iface 185 (.pointer (some ⟨ps,0,none⟩)),.int .i64 ((0:Nat):Int),.int .i64 ((o.epoch+1:Nat):Int)] 184 true) hB.pin))
      simp -implicitDefEqProofs only[↓Zd,(Zp),Zr,simprocAttr,qP,Value.cells,cut,qC,cld2,(HEx),vA,g1,g2,hgs,w1,hhb,hpb,ord153,co217]
      refine fmove_spec (i:=(o.shape:Int)) (q:=0) h3.fo (by simp only[St.next_put];omega) (by omega) fun s4 O4 hF4 hU4=>?_
      have hF4':FAt lo s4 pf (moveF H.F H.most (o.shape:Int) 0) H.most O4:=hF4
      show Cs.shape Tryz.prog 3 (.int .i64 ((moveN H.F H.most (o.shape:Int) 0:Nat):Int)) _
      have h4:=h3.newF hU4 hF4' (move_ok hok1 o.shape 0)
      have hU4':=re_upd hU4
      have hn4:=hU4.next
      simp only[St.next_put]at hn4
      generalize hO3:reO O tg (j+3) (fun c=>O c∧tg c=j+3)=O3 at h3 h4 hU3 hU4 hU4'
      generalize hT3:reT tg (j+3) (fun c=>O c∧tg c=j+3)=tg3 at h3 h4 hU4 hU4'
      have hin3:∀ c,O c∧tg c=j+3→O3 c∧tg3 c=j+3:=fun c hc=>by
       have:=re_pin (O:=O) (tg:=tg) (j:=j+3) (O':=fun c=>O c∧tg c=j+3) hc
       rw[hO3,hT3]at this;exact this
      have hat4:∀ c,O c∧tg c=j+3→s4.at' c=((s'.put b (.cells [.iface 185 (.pointer (some ⟨ps,0,none⟩)),.int .i64 ((0:Nat):Int),.int .i64 (o.epoch:Int)] 184 true)).put b (.cells [.iface 185 (.pointer (some ⟨ps,0,none⟩)),.int .i64 ((0:Nat):Int),.int .i64 ((o.epoch+1:Nat):Int)] 184 true)).at' c:=fun c hc =>
       re_keep h3.own hU4 c (hin3 c hc).1 (by rw[(hin3 c hc).2];omega)
      have hin4:∀ c,O c∧tg c=j+3→reO O3 tg3 1 O4 c∧reT tg3 1 O4 c=j+3:=fun c hc=>re_tag (fun b hb=>(h3.own b hb).2) hU4.own (by omega) (hin3 c hc)
      have hps4:s4.at' ps=some (.cells [.int .i64 (o.shape:Int),sv] 187 true):=by
       rw[hat4 ps g3,St.at_put,if_neg g4,St.at_put,if_neg g4];exact g2
      have hb4:s4.at' b=some (.cells [.iface 185 (.pointer (some ⟨ps,0,none⟩)),.int .i64 ((0:Nat):Int),.int .i64 ((o.epoch+1:Nat):Int)] 184 true):=by
       rw[hat4 b hB.pin,St.at_put,if_pos rfl]
      have hsl4:SlU 31 3 s4 sv (valsC o.L) o.L.length:=g5.same fun q n c e=>by
       have:=g6 q n c e
       rw[hat4 _ this.1,St.at_put,if_neg this.2.1,St.at_put,if_neg this.2.1]
      have hok4:HOk (putO { H with F:=moveF H.F H.most (o.shape:Int) 0 } i { o with proto:=0,epoch:=o.epoch+1 }):=h4.ok
      have hUall:=hU3.trans hU4'
      have hobj4:({ putO H i { o with proto:=0,epoch:=o.epoch+1 } with F:=moveF H.F H.most (o.shape:Int) 0 }:Hp).obs[j]?=some { o with proto:=0,epoch:=o.epoch+1 }:=putO_at (o:=o) hij hj
      have hlt4:j<({ putO H i { o with proto:=0,epoch:=o.epoch+1 } with F:=moveF H.F H.most (o.shape:Int) 0 }:Hp).obs.length:=by simp only[putO,List.length_set];exact hj
      by_cases hpos:(0:Int)<((moveN H.F H.most (o.shape:Int) 0:Nat):Int)
      ·simp -implicitDefEqProofs only[↓Zd,(Zp),Zr,simprocAttr,qP,Value.cells,cut,qC,cld2,(HEx),vA,hpos,hps4,ord153]
       have hB5:ObAt lo (s4.put ps (.cells [.int .i64 ((moveN H.F H.most (o.shape:Int) 0:Nat):Int),sv] 187 true)) (N+1) b { o with proto:=0,epoch:=o.epoch+1,shape:=moveN H.F H.most (o.shape:Int) 0 } (fun c=>reO O3 tg3 1 O4 c∧reT tg3 1 O4 c=j+3):=by
        refine⟨fun c hc=>h4.own c hc.1,hin4 b hB.pin,by show o.epoch+1≤_;omega,.inr ⟨by show 0<moveN H.F H.most (o.shape:Int) 0;omega,ps,sv,?_,by rw[St.at_put,if_pos rfl],hin4 ps g3,g4,hsl4.same fun q n c e=>?_,fun q n c e=>?_⟩⟩
        ·rw[St.at_put,if_neg (fun e:b=ps=>g4 e.symm)];exact hb4
        ·rw[St.at_put,if_neg (g6 q n c e).2.2]
        ·exact⟨hin4 _ (g6 q n c e).1,(g6 q n c e).2⟩
       have h5:=h4.setO hij hlt4 hb (upd_put (hin4 ps g3)) hB5 (by rw[putO_putF];exact hok)
       rw[putO_putF]at h5
       exact hR _ _ ⟨hpr,_,_,_,_,_,h5.mono (by omega)⟩ (hUall.trans (re_upd (upd_put (hin4 ps g3))))
      ·have hz:moveN H.F H.most (o.shape:Int) 0=0:=by omega
       rw[hz]at hok hpr hR
       simp -implicitDefEqProofs only[↓Zd,(Zp),Zr,simprocAttr,qP,Value.cells,cut,qC,cld2,(HEx),vA,hpos,ord153,co165]
       refine hloosen_spec h4 (by omega) (by omega) (by omega) hb hobj4 fun s5 pd5 OD5 hb5 hD5 ho5 hne5 hn5 hk5=>?_
       simp -implicitDefEqProofs only[↓Zd,(Zp),Zr,simprocAttr,qP,Value.cells,cut,qC,cld2,(HEx),vA,ord153]
       obtain⟨hB6,hU6⟩:=loose_end (hin4 b hB.pin) (h4.own b (hin4 b hB.pin).1) hb5 ho5 hne5 hn5 hk5 hD5 (Nat.le_refl _) (fun _ _ _=>rfl) (fun c hc => .inl hc) (by show o.epoch+1≤_;omega)
       have h6:=h4.setO hij hlt4 hb hU6 hB6 (by rw[putO_putF];exact hok)
       rw[putO_putF]at h6
       exact hR _ _ ⟨hpr,_,_,_,_,_,h6.mono (by omega)⟩ (hUall.trans (re_upd hU6))
   ·have hqz:¬ (qn:Int)=0:=by omega
    simp -implicitDefEqProofs only[↓Zd,(Zp),Zr,simprocAttr,qP,Value.cells,cut,qC,cld2,(HEx),vA,hqz,co160]
    refine hfind_spec h hq (fun hno=>?_) (fun j2 b2 o2 hij2 hb2 ho2 hat2=>?_)
    ·have e:protoE H i (qn:Int)=4:=by unfold protoE;rw[if_pos (.inr ⟨hqz,hno⟩)]
     simp -implicitDefEqProofs only[↓Zd,(Zp),Zr,simprocAttr,qP,Value.cells,cut,qC,cld2,(HEx),vA]
     exact hno4 e
    ·simp -implicitDefEqProofs only[↓Zd,(Zp),Zr,simprocAttr,qP,Value.cells,cut,qC,cld2,(HEx),vA,co216]
     refine QC.mono (hrest (.inr ⟨o2,hat2⟩)) fun v s' hv=>?_
     obtain⟨rfl,rfl⟩:=hv
     have hqok:¬ (obAt H i=none∨(((qn:Nat):Int)≠0∧obAt H ((qn:Nat):Int)=none)):=by rintro (h|h);rw[hat]at h;cases h;rw[hat2]at h;cases h.2
     have hup:onB H i ((qn:Nat):Int)=false→HOk (putO H i { o with proto:=qn,epoch:=o.epoch+1 }):=fun hon=>by
      subst hij
      unfold putO
      rw[show ((j+1:Nat):Int).toNat - 1=j by omega]
      exact h.ok.upd (F':=H.F) (T':=H.T) ho (fun _ _ h=>h) (fun _ _ _=>rfl) (Nat.le_refl _) h.ok.nodup h.ok.ids (fun h2=>h.ok.fits j o ho h2) (h.ok.keys j o ho) (h.ok.lens j o ho) (proto_up h.ok ho (.inr (by have:=(List.getElem?_eq_some_iff.1 ho2).1;omega)) hon rfl)
     cases hon:onB H i ((qn:Nat):Int) with
     |true =>
      have e:protoE H i ((qn:Nat):Int)=32:=by unfold protoE;rw[if_neg hqok,if_pos hon]
      simp -implicitDefEqProofs only[↓Zd,(Zp),Zr,simprocAttr,qP,Value.cells,cut,qC,cld2,(HEx),vA]
      exact hno32 e
     |false =>
      have e:protoE H i ((qn:Nat):Int)=0:=by unfold protoE;rw[if_neg hqok,if_neg (by rw[hon];simp)]
      have hok:=proto_ok h.ok i ((qn:Nat):Int)
      have hpr:=proto_pro h.ok hpro i ((qn:Nat):Int)
      have hok1:=hup hon
      rcases hB.bl with ⟨h0,pd,OD,g1,g2,g3⟩|⟨h0,ps,sv,g1,g2,g3,g4,g5,g6⟩
      ·have e1:protoH H i ((qn:Nat):Int)=putO H i { o with proto:=qn,epoch:=o.epoch+1 }:=by unfold protoH;rw[if_pos e,hat];simp only[if_pos h0];rfl
       rw[e1]at hok hpr hR
       rw[e]at hR
       simp -implicitDefEqProofs only[↓Zd,(Zp),Zr,simprocAttr,qP,Value.cells,cut,qC,cld2,(HEx),vA,g1,w1,ord153]
       have hB1:=hB.head g1 qn o.epoch (N':=N+1) (by omega) (by omega)
       have hB2:=hB1.head (by rw[St.at_put,if_pos rfl]) qn (o.epoch+1) (N':=N+1) (by show o.epoch+1≤_;omega) (Nat.le_refl _)
       have h3:=(h.mono (N':=N+1) (by omega)).setO hij hj hb ((upd_put hB.pin).trans (upd_put hB.pin)) hB2 hok1
       exact hR _ _ ⟨hpr,_,_,_,_,_,h3.mono (by omega)⟩ (re_upd ((upd_put hB.pin).trans (upd_put hB.pin)))
      ·have e1:protoH H i ((qn:Nat):Int)=putO { H with F:=moveF H.F H.most o.shape qn } i { o with proto:=qn,epoch:=o.epoch+1,shape:=moveN H.F H.most o.shape qn }:=by unfold protoH;rw[if_pos e,hat];simp only[if_neg (show ¬ o.shape=0 by omega)];rfl
       rw[e1]at hok hpr hR
       rw[e]at hR
       have hgs:¬ ps=b:=g4
       have hF12:o.shape≤150:=by
        obtain⟨q0,l,h1,_⟩:=h.ok.fits j o ho h0
        have:=(List.getElem?_eq_some_iff.1 h1).1
        have:=h.fo.le
        omega
       have hB1:=hB.head g1 qn o.epoch (N':=N+1) (by omega) (by omega)
       have hB2:=hB1.head (by rw[St.at_put,if_pos rfl]) qn (o.epoch+1) (N':=N+1) (by show o.epoch+1≤_;omega) (Nat.le_refl _)
       have h3:=(h.mono (N':=N+1) (by omega)).setO hij hj hb ((upd_put hB.pin).trans (upd_put hB.pin)) hB2 hok1
       have hU3:=re_upd ((upd_put (s:=s') (B := .cells [.iface 185 (.pointer (some ⟨ps,0,none⟩)),.int .i64 ((qn:Nat):Int),.int .i64 (o.epoch:Int)] 184 true) hB.pin).trans (upd_put (B := .cells [.iface 185 (.pointer (some ⟨ps,0,none⟩)),.int .i64 ((qn:Nat):Int),.int .i64 ((o.epoch+1:Nat):Int)] 184 true) hB.pin))
       simp -implicitDefEqProofs only[↓Zd,(Zp),Zr,simprocAttr,qP,Value.cells,cut,qC,cld2,(HEx),vA,g1,g2,hgs,w1,hhb,hpb,ord153,co217]
       refine fmove_spec (i:=(o.shape:Int)) (q:=qn) h3.fo (by simp only[St.next_put];omega) (by omega) fun s4 O4 hF4 hU4=>?_
       have hF4':FAt lo s4 pf (moveF H.F H.most (o.shape:Int) qn) H.most O4:=hF4
       show Cs.shape Tryz.prog 3 (.int .i64 ((moveN H.F H.most (o.shape:Int) qn:Nat):Int)) _
       have h4:=h3.newF hU4 hF4' (move_ok hok1 o.shape qn)
       have hU4':=re_upd hU4
       have hn4:=hU4.next
       simp only[St.next_put]at hn4
       generalize hO3:reO O tg (j+3) (fun c=>O c∧tg c=j+3)=O3 at h3 h4 hU3 hU4 hU4'
       generalize hT3:reT tg (j+3) (fun c=>O c∧tg c=j+3)=tg3 at h3 h4 hU4 hU4'
       have hin3:∀ c,O c∧tg c=j+3→O3 c∧tg3 c=j+3:=fun c hc=>by
        have:=re_pin (O:=O) (tg:=tg) (j:=j+3) (O':=fun c=>O c∧tg c=j+3) hc
        rw[hO3,hT3]at this;exact this
       have hat4:∀ c,O c∧tg c=j+3→s4.at' c=((s'.put b (.cells [.iface 185 (.pointer (some ⟨ps,0,none⟩)),.int .i64 ((qn:Nat):Int),.int .i64 (o.epoch:Int)] 184 true)).put b (.cells [.iface 185 (.pointer (some ⟨ps,0,none⟩)),.int .i64 ((qn:Nat):Int),.int .i64 ((o.epoch+1:Nat):Int)] 184 true)).at' c:=fun c hc =>
        re_keep h3.own hU4 c (hin3 c hc).1 (by rw[(hin3 c hc).2];omega)
       have hin4:∀ c,O c∧tg c=j+3→reO O3 tg3 1 O4 c∧reT tg3 1 O4 c=j+3:=fun c hc=>re_tag (fun b hb=>(h3.own b hb).2) hU4.own (by omega) (hin3 c hc)
       have hps4:s4.at' ps=some (.cells [.int .i64 (o.shape:Int),sv] 187 true):=by
        rw[hat4 ps g3,St.at_put,if_neg g4,St.at_put,if_neg g4];exact g2
       have hb4:s4.at' b=some (.cells [.iface 185 (.pointer (some ⟨ps,0,none⟩)),.int .i64 ((qn:Nat):Int),.int .i64 ((o.epoch+1:Nat):Int)] 184 true):=by
        rw[hat4 b hB.pin,St.at_put,if_pos rfl]
       have hsl4:SlU 31 3 s4 sv (valsC o.L) o.L.length:=g5.same fun q n c e=>by
        have:=g6 q n c e
        rw[hat4 _ this.1,St.at_put,if_neg this.2.1,St.at_put,if_neg this.2.1]
       have hok4:HOk (putO { H with F:=moveF H.F H.most (o.shape:Int) qn } i { o with proto:=qn,epoch:=o.epoch+1 }):=h4.ok
       have hUall:=hU3.trans hU4'
       have hobj4:({ putO H i { o with proto:=qn,epoch:=o.epoch+1 } with F:=moveF H.F H.most (o.shape:Int) qn }:Hp).obs[j]?=some { o with proto:=qn,epoch:=o.epoch+1 }:=putO_at (o:=o) hij hj
       have hlt4:j<({ putO H i { o with proto:=qn,epoch:=o.epoch+1 } with F:=moveF H.F H.most (o.shape:Int) qn }:Hp).obs.length:=by simp only[putO,List.length_set];exact hj
       by_cases hpos:(0:Int)<((moveN H.F H.most (o.shape:Int) qn:Nat):Int)
       ·simp -implicitDefEqProofs only[↓Zd,(Zp),Zr,simprocAttr,qP,Value.cells,cut,qC,cld2,(HEx),vA,hpos,hps4,ord153]
        have hB5:ObAt lo (s4.put ps (.cells [.int .i64 ((moveN H.F H.most (o.shape:Int) qn:Nat):Int),sv] 187 true)) (N+1) b { o with proto:=qn,epoch:=o.epoch+1,shape:=moveN H.F H.most (o.shape:Int) qn } (fun c=>reO O3 tg3 1 O4 c∧reT tg3 1 O4 c=j+3):=by
         refine⟨fun c hc=>h4.own c hc.1,hin4 b hB.pin,by show o.epoch+1≤_;omega,.inr ⟨by show 0<moveN H.F H.most (o.shape:Int) qn;omega,ps,sv,?_,by rw[St.at_put,if_pos rfl],hin4 ps g3,g4,hsl4.same fun q n c e=>?_,fun q n c e=>?_⟩⟩
         ·rw[St.at_put,if_neg (fun e:b=ps=>g4 e.symm)];exact hb4
         ·rw[St.at_put,if_neg (g6 q n c e).2.2]
         ·exact⟨hin4 _ (g6 q n c e).1,(g6 q n c e).2⟩
        have h5:=h4.setO hij hlt4 hb (upd_put (hin4 ps g3)) hB5 (by rw[putO_putF];exact hok)
        rw[putO_putF]at h5
        exact hR _ _ ⟨hpr,_,_,_,_,_,h5.mono (by omega)⟩ (hUall.trans (re_upd (upd_put (hin4 ps g3))))
       ·have hz:moveN H.F H.most (o.shape:Int) qn=0:=by omega
        rw[hz]at hok hpr hR
        simp -implicitDefEqProofs only[↓Zd,(Zp),Zr,simprocAttr,qP,Value.cells,cut,qC,cld2,(HEx),vA,hpos,ord153,co165]
        refine hloosen_spec h4 (by omega) (by omega) (by omega) hb hobj4 fun s5 pd5 OD5 hb5 hD5 ho5 hne5 hn5 hk5=>?_
        simp -implicitDefEqProofs only[↓Zd,(Zp),Zr,simprocAttr,qP,Value.cells,cut,qC,cld2,(HEx),vA,ord153]
        obtain⟨hB6,hU6⟩:=loose_end (hin4 b hB.pin) (h4.own b (hin4 b hB.pin).1) hb5 ho5 hne5 hn5 hk5 hD5 (Nat.le_refl _) (fun _ _ _=>rfl) (fun c hc => .inl hc) (by show o.epoch+1≤_;omega)
        have h6:=h4.setO hij hlt4 hb hU6 hB6 (by rw[putO_putF];exact hok)
        rw[putO_putF]at h6
        exact hR _ _ ⟨hpr,_,_,_,_,_,h6.mono (by omega)⟩ (hUall.trans (re_upd hU6))
end
end Go.Proofs.Tryz
namespace Go.Proofs.Tryz
open Go.Cs
open Go.RowKit (Below)
set_option maxRecDepth 100000
attribute [local irreducible] QC WLoop WScope CRound WRange
theorem rowPtr(a:Option Addr):crow Tryz.prog 147 1 #[(0,.pointer a)]=some (.cells [.pointer a] 176 true):=by kernel_rfl
theorem infoPtr:∃ ie,Tryz.prog.info? 176=some ie∧ie.size=1∧0<ie.bytes∧ie.bytes≤100:=by
 obtain⟨ie,h⟩:=Option.isSome_iff_exists.1 is176
 have h1:=ce176
 have h2:decide (0<Tryz.prog.bytesOf 176∧Tryz.prog.bytesOf 176≤100)=true:=by kernel_rfl
 rw[cellsOf_info h]at h1
 simp only[Program.bytesOf,h,decide_eq_true_eq]at h2
 exact⟨ie,h,h1,h2.1,h2.2⟩
section
variable {M:Type}[Mem M]{w0:World}{s:St M}{R:Value→St M→Prop}{lo p N:Nat}{H:Hp}{O:Nat→Prop}
theorem wch_app_ptr{s:St M}{sl:Value}{l:List Nat}{a:Nat}{K:Value→St M→Prop}(hlen:l.length≤1000000)(hsl:SlU 176 1 s sl (ptrs l) l.length)(hfr:∀ q m c,sl = .slice (some q) m c→q.block<s.next)
  (h:∀ s',s'.next=s.next+2→s'.at' (s.next+1)=some (.cells (ptrs (l ++ [a])) 176 true)→(∀ b,b<s.next→(∀ q n c,sl = .slice (some q) n c→b≠q.block)→s'.at' b=s.at' b)→K (.slice (some ⟨s.next+1,0,none⟩) (l.length+1) UNK) s') :
  wch (capp Tryz.prog #[147,147] #[sl,.slice (some ⟨s.next,0,none⟩) 1 1] (s.new (.cells [.pointer (some ⟨a,0,none⟩)] 176 true))) K:=by
 obtain⟨ie,hie,h1,h2,h3⟩:=infoPtr
 have hcapp:capp Tryz.prog #[147,147] #[sl,.slice (some ⟨s.next,0,none⟩) 1 1] (s.new (.cells [.pointer (some ⟨a,0,none⟩)] 176 true))=capp3 Tryz.prog 176 ie sl (s.new (.cells [.pointer (some ⟨a,0,none⟩)] 176 true)) (cmore ie.size (.slice (some ⟨s.next,0,none⟩) 1 1) (s.new (.cells [.pointer (some ⟨a,0,none⟩)] 176 true))):=
  app_eq underlying147 underlying147 hie
 have hv:cmore ie.size (.slice (some ⟨s.next,0,none⟩) 1 1) (s.new (.cells [.pointer (some ⟨a,0,none⟩)] 176 true))=some (1,[.pointer (some ⟨a,0,none⟩)]):=by
  simp only[more_at,St.at_new,if_true,more2,h1];rfl
 obtain⟨s',h3,h4,h5,h6⟩:=app_rowU (n:=l.length) (k:=1) hie ze176 (by rw[h1];rfl) h2 hcapp (by omega) (by
  have:(l.length+1)*ie.bytes≤1000001*100:=Nat.mul_le_mul (by omega) h3
  omega) rfl hv (by rw[h1];exact hsl.same fun q m c e=>by rw[St.at_new,if_neg (by have:=hfr q m c e;omega)])
 refine⟨_,s',h3,h s' (by simp at h4;omega) (by simpa [ptrs] using h5) fun b hb hq=>?_⟩
 rw[h6 b (by simp;omega) hq,St.at_new,if_neg (by omega)]
open Classical in
theorem HpIn.addO{s':St M}{tg:Nat→Nat}{pf pn b r:Nat}{sl sl':Value}{bs:List Nat}{o':Ob}{OO:Nat→Prop}(h:HpIn lo s p H N O tg pf pn sl bs)(hn:s.next≤s'.next)(hk:∀ c,O c→tg c≠0→s'.at' c=s.at' c)
  (hp:s'.at' p=some (.cells [sl',.pointer (some ⟨pf,0,none⟩),.pointer (some ⟨pn,0,none⟩),.int .i64 (H.maxO:Int),.int .i64 (H.maxP:Int)] 149 true))(hsl:SlU 176 1 s' sl' (ptrs (bs ++ [b])) (bs ++ [b]).length)(hr:∀ q n c,sl' = .slice (some q) n c→q.block=r)
  (hr1:¬ O r∧lo≤r∧r<s'.next)(hOO:∀ c,OO c→¬ O c∧c≠r)(hB:ObAt lo s' N b o' OO)(hok:HOk { H with obs:=H.obs ++ [o'] }) :
  HpIn lo s' p { H with obs:=H.obs ++ [o'] } N (fun c=>(O c∧tg c≠bs.length+3)∨OO c∨c=r) (fun c=>if OO c then bs.length+3 else if c=r then 0 else tg c) pf pn sl' (bs ++ [b]):=by
 have hrp:r≠p:=fun e=>hr1.1 (e▸h.pin.1)
 have hold:∀ k,k≠bs.length+3→k≠0→(fun c=>((O c∧tg c≠bs.length+3)∨OO c∨c=r)∧(if OO c then bs.length+3 else if c=r then 0 else tg c)=k)=fun c=>O c∧tg c=k:=by
  intro k hk1 hk2
  funext c
  apply propext
  by_cases h1:OO c
  ·simp only[h1,if_true,true_or,or_true,true_and]
   exact⟨fun e=>absurd e.symm hk1,fun e=>absurd e.1 (hOO c h1).1⟩
  ·by_cases h2:c=r
   ·subst h2
    simp only[h1,if_false,if_true,or_true,true_and]
    exact⟨fun e=>absurd e.symm hk2,fun e=>absurd e.1 hr1.1⟩
   ·simp only[h1,h2,if_false,or_false]
    exact⟨fun ⟨⟨a,_⟩,b⟩=>⟨a,b⟩,fun ⟨a,b⟩=>⟨⟨a,by omega⟩,b⟩⟩
 have hnew:(fun c=>((O c∧tg c≠bs.length+3)∨OO c∨c=r)∧(if OO c then bs.length+3 else if c=r then 0 else tg c)=bs.length+3)=OO:=by
  funext c
  apply propext
  by_cases h1:OO c
  ·simp[h1]
  ·by_cases h2:c=r
   ·subst h2
    simp[h1]
   ·simp only[h1,h2,if_false,or_false,iff_false]
    exact fun ⟨⟨_,a⟩,b⟩=>a b
 have hpO:¬ OO p:=fun hc=>(hOO p hc).1 h.pin.1
 refine⟨fun c hc=>?_,hok,h.tn,⟨.inl ⟨h.pin.1,by rw[h.pin.2];omega⟩,?_⟩,hp,hsl,fun q n c e=>?_,?_,?_,by simp[h.len],fun i b' o h1 h2=>?_⟩
 ·rcases hc with ⟨hc,_⟩|hc|rfl
  ·have:=h.own c hc;omega
  ·exact hB.own c hc
  ·exact hr1.2
 ·rw[if_neg hpO,if_neg (fun e=>hrp e.symm)];exact h.pin.2
 ·have:=hr q n c e
  rw[this]
  exact⟨.inr (.inr rfl),by rw[if_neg (fun hc=>(hOO r hc).2 rfl),if_pos rfl],hrp⟩
 ·rw[hold 1 (by omega) (by omega)]
  exact h.fo.same hn fun c hc=>hk c hc.1 (by rw[hc.2];omega)
 ·rw[hold 2 (by omega) (by omega)]
  exact h.ta.same hn fun c hc=>hk c hc.1 (by rw[hc.2];omega)
 ·by_cases hi:i<bs.length
  ·rw[List.getElem?_append_left hi]at h1
   rw[List.getElem?_append_left (by rw[← h.len];exact hi)]at h2
   rw[hold (i+3) (by omega) (by omega)]
   exact (h.obj i b' o h1 h2).same hn fun c hc=>hk c hc.1 (by rw[hc.2];omega)
  ·have h0:i=bs.length:=by
    have:=(List.getElem?_eq_some_iff.1 h1).1
    simp at this;omega
   subst h0
   rw[List.getElem?_append_right (Nat.le_refl _)]at h1
   rw[List.getElem?_append_right (by rw[← h.len];exact Nat.le_refl _),← h.len]at h2
   simp at h1 h2
   subst h1 h2
   rw[hnew];exact hB
set_option maxHeartbeats 8000000 in
theorem hmake_spec(h:HpAt lo s p H N O)(hlo:lo≤s.next)(hR:∀ s' O',HpAt lo s' p (makeH H) N O'→Upd s s' O O'→R (makeV H) s'):QC Tryz.prog w0 62 #[.pointer (some ⟨p,0,none⟩)] s R:=by
 refine wfun2 hmix ok62 func62 rfl ntmps62 results62 (by simp) ?_
 obtain⟨hpro,tg,pf,pn,sl,bs,h⟩:=h
 have hhb:=h.bl
 have hlim:=h.ok.lim
 have hlen:=h.len
 obtain⟨an,cn,rfl⟩:∃ a c,sl = .slice a bs.length c:=by
  rcases h.row with ⟨e1,_,rfl⟩|⟨b2,junk,rfl,_⟩
  ·exact⟨none,0,by rw[e1]⟩
  ·exact⟨_,_,rfl⟩
 simp -implicitDefEqProofs only[↓Zd,(Zp),Zr,simprocAttr,qP,Value.cells,cut,qC,cld2,(HEx),vA,co133]
 refine hdead_spec h ?_
 by_cases hmx:(H.maxO:Int)≤(bs.length:Int)
 ·have e1:makeH H=H:=by unfold makeH;rw[if_pos (by omega)]
  have e2:makeV H = .tuple #[.int .i64 0,.int .i64 40]:=by unfold makeV;rw[if_pos (by omega)]
  rw[e1,e2]at hR
  simp -implicitDefEqProofs only[↓Zd,(Zp),Zr,simprocAttr,qP,Value.cells,cut,qC,cld2,(HEx),vA,hhb,hmx,ord62]
  exact hR _ _ ⟨hpro,tg,pf,pn,_,bs,h⟩ .refl
 ·have e1:makeH H={ H with obs:=H.obs ++ [{ L:=[],shape:=growN H.F H.most (0,[]),proto:=0,epoch:=0 }],F:=growF H.F H.most (0,[]) }:=by unfold makeH;rw[if_neg (by omega)]
  have e2:makeV H = .tuple #[.int .i64 ((bs.length+1:Nat):Int),.int .i64 0]:=by unfold makeV;rw[if_neg (by omega),hlen]
  have hok:=make_ok h.ok
  have hpr:=make_pro hpro
  rw[e1]at hok hpr
  rw[e1,e2]at hR
  have hbl:∀ (m:Nat),cbuild Tryz.prog 180 #[(0,.pointer (some ⟨m,0,none⟩))]=some (.agg #[.pointer (some ⟨m,0,none⟩)]):=fun m=>by kernel_rfl
  have hmk:∀ v,cmkI Tryz.prog 180 v=some (.iface 180 v):=fun v=>mkI_s underlying180
  have hmp:∀ v,cmkI Tryz.prog 185 v=some (.iface 185 v):=fun v=>mkI_p underlying185
  have hbo:∀ (v:Value),cbuild Tryz.prog 184 #[(0,.iface 180 (.agg #[v]))]=some (.agg #[.iface 180 (.agg #[v]),.int .i64 0,.int .i64 0]):=fun v=>by kernel_rfl
  have hbs:∀ (n:Int),cbuild Tryz.prog 187 #[(0,.int .i64 n)]=some (.agg #[.int .i64 n,.slice none 0 0]):=fun v=>by kernel_rfl
  simp -implicitDefEqProofs only[↓Zd,(Zp),Zr,simprocAttr,qP,Value.cells,cut,qC,cld2,(HEx),vA,hhb,hmx,ord62,co134]
  refine dnew_spec fun s1 pd hD1 hs1=>?_
  have hn1:=hs1.1
  have hhb1:=(h.le hs1).bl
  have hpn:=(h.own p h.pin.1).2
  have hps1:¬ p=s1.next:=by omega
  simp -implicitDefEqProofs only[↓Zd,(Zp),Zr,simprocAttr,qP,Value.cells,cut,qC,cld2,(HEx),vA,hhb1,hps1,hbl,hmk,hbo,ord62,co135]
  have l2:s.le (s1.new (.cells [.iface 180 (.agg #[.pointer (some ⟨pd,0,none⟩)]),.int .i64 0,.int .i64 0] 184 true)):=lN hs1
  have h2:=h.le l2
  refine froot_spec (q:=0) h2.fo (by simp only[St.next_new];omega) fun s3 O3 hF3 hU3=>?_
  have hn3:=hU3.next
  simp only[St.next_new]at hn3
  have hokF:HOk { H with F:=growF H.F H.most (0,[]) }:=h.ok.more (F':=growF H.F H.most (0,[])) (T':=H.T) (fun j t ht=>growF_get ht) (fun _ _ _=>rfl) (Nat.le_refl _) h.ok.nodup (fun j t ht y hy=>by
   rcases growF_mem ht with h1|rfl
   ·exact h.ok.ids j t h1 y hy
   ·cases hy)
  have h3:=h2.newF hU3 hF3 hokF
  have hU3':=re_upd hU3
  have hhb3:=h3.bl
  generalize hO4:reO O tg 1 O3=O4 at h3 hU3'
  generalize hT4:reT tg 1 O3=tg4 at h3
  have hUall:Upd s s3 O O4:=(Upd.of_le l2).trans hU3'
  have hfresh:∀ c,s.next≤c→c<s1.next+1→¬ O4 c:=fun c h1 h2' hc=>by
   rcases hU3'.own c hc with g|g
   ·have:=(h.own c g).2
    omega
   ·simp only[St.next_new]at g;omega
  have hke:∀ c,s.next≤c→c<s1.next+1→s3.at' c=(s1.new (.cells [.iface 180 (.agg #[.pointer (some ⟨pd,0,none⟩)]),.int .i64 0,.int .i64 0] 184 true)).at' c:=fun c h1 h2'=>by
   refine hU3'.keep c (by simp only[St.next_new];omega) (fun hc=>?_)
   have:=(h.own c hc).2;omega
  have hob3:s3.at' s1.next=some (.cells [.iface 180 (.agg #[.pointer (some ⟨pd,0,none⟩)]),.int .i64 0,.int .i64 0] 184 true):=by rw[hke _ (by omega) (by omega),St.at_new,if_pos rfl]
  have hpO4:=h3.pin.1
  have hsl3:=h3.row
  have hfr3:∀ q m c,Value.slice an bs.length cn = .slice (some q) m c→q.block<s3.next:=fun q m c e=>(h3.own _ (h3.rowO q m c e).1).2
  have hpn3:=(h3.own p hpO4).2
  by_cases hpos:(0:Int)<((growN H.F H.most (0,[]):Nat):Int)
  ·have hob3n:¬ s1.next=s3.next:=by omega
   have hpne1:¬ p=s1.next:=by omega
   have hpne3:¬ p=s3.next:=by omega
   simp -implicitDefEqProofs only[↓Zd,(Zp),Zr,simprocAttr,qP,Value.cells,cut,qC,cld2,(HEx),vA,hpos,hob3,hob3n,hpne1,hpne3,hhb3,hbs,hmp,rowPtr,ord62]
   have hle4:∀ c,O4 c→((s3.new (.cells [.int .i64 ((growN H.F H.most (0,[]):Nat):Int),.slice none 0 0] 187 true)).put s1.next (.cells [.iface 185 (.pointer (some ⟨s3.next,0,none⟩)),.int .i64 0,.int .i64 0] 184 true)).at' c=s3.at' c:=fun c hc=>by
    have:=(h3.own c hc).2
    have:c≠s1.next:=fun e=>hfresh s1.next (by omega) (by omega) (e▸hc)
    rw[St.at_put,if_neg this,St.at_new,if_neg (by omega)]
   refine wch_app_ptr (l:=bs) (a:=s1.next) (by omega) (hsl3.same fun q n c e=>hle4 _ (h3.rowO q n c e).1) (fun q m c e=>by have:=hfr3 q m c e;simp only[(Sn)];omega) fun s5 hn5 hb5 hk5=>?_
   simp only[(Sn)]at hn5 hb5 hk5
   have hp5:s5.at' p=some (.cells [.slice an bs.length cn,.pointer (some ⟨pf,0,none⟩),.pointer (some ⟨pn,0,none⟩),.int .i64 (H.maxO:Int),.int .i64 (H.maxP:Int)] 149 true):=by
    rw[hk5 p (by omega) (fun q m c e e2=>(h3.rowO q m c e).2.2 e2.symm),hle4 p hpO4];exact hhb3
   simp -implicitDefEqProofs only[↓Zd,(Zp),Zr,simprocAttr,qP,Value.cells,cut,qC,cld2,(HEx),vA,hp5,ord62,len_slice]
   have hk6:∀ c,c<s3.next+1→c≠s1.next→c≠p→(∀ q m k,Value.slice an bs.length cn = .slice (some q) m k→c≠q.block)→c≠s3.next→(s5.put p (.cells [.slice (some ⟨s3.next+1+1,0,none⟩) (bs.length+1) UNK,.pointer (some ⟨pf,0,none⟩),.pointer (some ⟨pn,0,none⟩),.int .i64 (H.maxO:Int),.int .i64 (H.maxP:Int)] 149 true)).at' c=s3.at' c:=fun c h1 h2 h3' h4 h5=>by
    rw[St.at_put,if_neg h3',hk5 c h1 h4,St.at_put,if_neg h2,St.at_new,if_neg h5]
   have hB:ObAt lo (s5.put p (.cells [.slice (some ⟨s3.next+1+1,0,none⟩) (bs.length+1) UNK,.pointer (some ⟨pf,0,none⟩),.pointer (some ⟨pn,0,none⟩),.int .i64 (H.maxO:Int),.int .i64 (H.maxP:Int)] 149 true)) N s1.next { L:=[],shape:=growN H.F H.most (0,[]),proto:=0,epoch:=0 } (fun c=>c=s1.next∨c=s3.next):=by
    refine⟨?_,.inl rfl,Nat.zero_le _,.inr ⟨by show 0<growN H.F H.most (0,[]);omega,s3.next,.slice none 0 0,?_,?_,.inr rfl,by omega,.inl ⟨rfl,rfl,rfl⟩,fun q n c e=>by cases e⟩⟩
    ·rintro c (rfl|rfl)<;>simp only[St.next_put]<;>omega
    ·rw[St.at_put,if_neg (fun e=>hpne1 e.symm),hk5 _ (by omega) (fun q m c e e2=>hfresh s1.next (by omega) (by omega) (by rw[e2];exact (h3.rowO q m c e).1)),St.at_put,if_pos rfl];rfl
    ·rw[St.at_put,if_neg (fun e=>hpne3 e.symm),hk5 _ (by omega) (fun q m c e e2=>by have:=hfr3 q m c e;omega),St.at_put,if_neg (fun e=>hob3n e.symm),St.at_new,if_pos rfl]
   have h6:=h3.addO (r:=s3.next+1+1) (b:=s1.next) (by simp only[St.next_put];omega) (fun c hc hct=>hk6 c (by have:=(h3.own c hc).2;omega) (fun e=>hfresh s1.next (by omega) (by omega) (e▸hc)) (fun e=>hct (by rw[e];exact h3.pin.2)) (fun q m k e e2=>hct (by rw[e2];exact (h3.rowO q m k e).2.1)) (by have:=(h3.own c hc).2;omega)) (by rw[St.at_put,if_pos rfl]) (.inr ⟨s3.next+1+1,[],by simp,by rw[St.at_put,if_neg (by omega),List.append_nil];exact hb5,by rw[ptrs_len,Nat.mul_one]⟩) (fun q n c e=>by cases e;rfl) ⟨fun hc=>by have:=(h3.own _ hc).2;omega,by omega,by simp only[St.next_put];omega⟩ (fun c hc=>by
    rcases hc with rfl|rfl
    ·exact⟨hfresh _ (by omega) (by omega),by omega⟩
    ·exact⟨fun hc=>by have:=(h3.own _ hc).2;omega,by omega⟩) hB hok
   refine hR _ _ ⟨hpr,_,_,_,_,_,h6⟩ ⟨by simp only[St.next_put];omega,fun c hc hno=>?_,fun c hc=>?_⟩
   ·have hno4:¬ O4 c:=fun h4=>by
     rcases hUall.own c h4 with g|g
     ·exact hno g
     ·omega
    have g:=hk6 c (by omega) (by omega) (fun e=>hno4 (e▸hpO4)) (fun q m k e e2=>hno4 (by rw[e2];exact (h3.rowO q m k e).1)) (by omega)
    exact g.trans (hUall.keep c hc hno)
   ·rcases hc with ⟨hc,_⟩|(rfl|rfl)|rfl
    ·exact hUall.own c hc
    ·exact .inr (by omega)
    ·exact .inr (by omega)
    ·exact .inr (by omega)
  ·have hz:growN H.F H.most (0,[])=0:=by omega
   rw[hz]at hok hpr hR
   simp -implicitDefEqProofs only[↓Zd,(Zp),Zr,simprocAttr,qP,Value.cells,cut,qC,cld2,(HEx),vA,hpos,hob3,hhb3,rowPtr,ord62]
   refine wch_app_ptr (l:=bs) (a:=s1.next) (by omega) hsl3 hfr3 fun s5 hn5 hb5 hk5=>?_
   have hp5:s5.at' p=some (.cells [.slice an bs.length cn,.pointer (some ⟨pf,0,none⟩),.pointer (some ⟨pn,0,none⟩),.int .i64 (H.maxO:Int),.int .i64 (H.maxP:Int)] 149 true):=by
    rw[hk5 p (by omega) (fun q m c e e2=>(h3.rowO q m c e).2.2 e2.symm)];exact hhb3
   simp -implicitDefEqProofs only[↓Zd,(Zp),Zr,simprocAttr,qP,Value.cells,cut,qC,cld2,(HEx),vA,hp5,ord62,len_slice]
   have hk6:∀ c,c<s3.next→c≠p→(∀ q m k,Value.slice an bs.length cn = .slice (some q) m k→c≠q.block)→(s5.put p (.cells [.slice (some ⟨s3.next+1,0,none⟩) (bs.length+1) UNK,.pointer (some ⟨pf,0,none⟩),.pointer (some ⟨pn,0,none⟩),.int .i64 (H.maxO:Int),.int .i64 (H.maxP:Int)] 149 true)).at' c=s3.at' c:=fun c h1 h3' h4=>by
    rw[St.at_put,if_neg h3',hk5 c h1 h4]
   have hfr6:∀ c,s.next≤c→c<s1.next+1→(s5.put p (.cells [.slice (some ⟨s3.next+1,0,none⟩) (bs.length+1) UNK,.pointer (some ⟨pf,0,none⟩),.pointer (some ⟨pn,0,none⟩),.int .i64 (H.maxO:Int),.int .i64 (H.maxP:Int)] 149 true)).at' c=s3.at' c:=fun c h1 h2=>hk6 c (by omega) (by omega) (fun q m k e e2=>hfresh c h1 h2 (by rw[e2];exact (h3.rowO q m k e).1))
   have hD6:DictAt lo (s5.put p (.cells [.slice (some ⟨s3.next+1,0,none⟩) (bs.length+1) UNK,.pointer (some ⟨pf,0,none⟩),.pointer (some ⟨pn,0,none⟩),.int .i64 (H.maxO:Int),.int .i64 (H.maxP:Int)] 149 true)) pd [] 0 (fun b=>s.next≤b∧b<s1.next):=(hD1.low hlo).same (by simp only[St.next_put];omega) fun c hc=>by
    rw[hfr6 c hc.1 (by omega),hke c hc.1 (by omega),St.at_new,if_neg (by omega)]
   have hB:=ObAt.loose (lo:=lo) (b:=s1.next) (o:={ L:=[],shape:=0,proto:=0,epoch:=0 }) (by rw[hfr6 _ (by omega) (by omega)];exact hob3) rfl hD6 (fun c hc=>by omega) ⟨by omega,by simp only[St.next_put];omega⟩ (Nat.le_refl _)
   have h6:=h3.addO (r:=s3.next+1) (b:=s1.next) (by simp only[St.next_put];omega) (fun c hc hct=>hk6 c (h3.own c hc).2 (fun e=>hct (by rw[e];exact h3.pin.2)) (fun q m k e e2=>hct (by rw[e2];exact (h3.rowO q m k e).2.1))) (by rw[St.at_put,if_pos rfl]) (.inr ⟨s3.next+1,[],by simp,by rw[St.at_put,if_neg (by omega),List.append_nil];exact hb5,by rw[ptrs_len,Nat.mul_one]⟩) (fun q n c e=>by cases e;rfl) ⟨fun hc=>by have:=(h3.own _ hc).2;omega,by omega,by simp only[St.next_put];omega⟩ (fun c hc=>by
    rcases hc with rfl|hc
    ·exact⟨hfresh _ (by omega) (by omega),by omega⟩
    ·exact⟨hfresh _ hc.1 (by omega),by omega⟩) (hB.mono (Nat.zero_le _)) hok
   refine hR _ _ ⟨hpr,_,_,_,_,_,h6⟩ ⟨by simp only[St.next_put];omega,fun c hc hno=>?_,fun c hc=>?_⟩
   ·have hno4:¬ O4 c:=fun h4=>by
     rcases hUall.own c h4 with g|g
     ·exact hno g
     ·omega
    have g:=hk6 c (by omega) (fun e=>hno4 (e▸hpO4)) (fun q m k e e2=>hno4 (by rw[e2];exact (h3.rowO q m k e).1))
    exact g.trans (hUall.keep c hc hno)
   ·rcases hc with ⟨hc,_⟩|(rfl|hc)|rfl
    ·exact hUall.own c hc
    ·exact .inr (by omega)
    ·exact .inr hc.1
    ·exact .inr (by omega)
end
end Go.Proofs.Tryz
namespace Go.Proofs.Tryz
open Go.Cs
open Go.RowKit (Below)
set_option maxRecDepth 100000
attribute [local irreducible] QC WLoop WScope CRound WRange
section
variable {M:Type}[Mem M]{w0:World}{s:St M}{R:Value→St M→Prop}{lo p N:Nat}{H:Hp}{O:Nat→Prop}
theorem FAt.low{lo lo':Nat}{s:St M}{p:Nat}{F:List Sh}{most:Nat}{O:Nat→Prop}(h:FAt lo s p F most O)(hl:lo'≤lo):FAt lo' s p F most O:=
 ⟨fun b hb=>⟨by have:=(h.own b hb).1;omega,(h.own b hb).2⟩,h.pin,h.ok,h.le,h.bl⟩
theorem TabAt.low{lo lo':Nat}{s:St M}{p:Nat}{T:List ByteArray}{O:Nat→Prop}(h:TabAt lo s p T O)(hl:lo'≤lo):TabAt lo' s p T O:=
 ⟨fun b hb=>⟨by have:=(h.own b hb).1;omega,(h.own b hb).2⟩,h.pin,h.bl⟩
theorem tnew_spec(h:∀ s' p,TabAt s.next s' p [] (fun b=>s.next≤b∧b<s'.next)→s.le s'→R (.pointer (some ⟨p,0,none⟩)) s'):QC Tryz.prog w0 95 #[] s R:=by
 refine wfun2 hmix ok95 func95 rfl ntmps95 results95 (by simp) ?_
 have newTab:∀ (m:Nat),cbuild Tryz.prog 240 #[(0,.map (some m))]=some (.agg #[.map (some m),.slice none 0 0]):=fun m=>by kernel_rfl
 simp -implicitDefEqProofs only[↓Zd,(Zp),Zr,simprocAttr,qP,Value.cells,cut,qC,cld2,underlying3,underlying4,underlying9,underlying5,underlying38,underlying0,be4,bn4,underlying240,sz240,is240,ce240,ag240,ze240,fa240x0,fa240x1,underlying145,sz145,is145,ce145,ag145,ze145,nt145,nn145,nf145,ng145,underlying238,sz238,is238,ce238,ag238,ze238,nt238,nn238,nf238,ng238,newTab]
 refine h _ _ ⟨fun b hb=>hb,by simp,s.next,.slice none 0 0,by simp,by simp;rfl,⟨by omega,by simp only[St.next_new];omega⟩,by simp,.inl ⟨rfl,rfl,rfl⟩,fun q n c e=>by cases e⟩ (by repeat (first|exact lR _|assumption|refine lN ?_|refine lP ?_ (by first|omega|(simp only[(Sn)];omega))|refine lT ?_ (by assumption)))
theorem between_spec{a b:Int}(h:R (.int .i64 (max 0 (min a b))) s):QC Tryz.prog w0 96 #[.int .i64 a,.int .i64 b] s R:=by
 refine wfun2 hmix ok96 func96 rfl ntmps96 results96 (by simp) ?_
 have hmx:(if (if b<a then b else a)>0 then (if b<a then b else a) else 0)=max 0 (min a b):=by omega
 simp -implicitDefEqProofs only[↓Zd,(Zp),Zr,simprocAttr,qP,Value.cells,cut,qC,cld2,(HEx),vA,o_min,o_max,bi_min,bi_max,hmx]
 exact h
def newH(objects props shapes:Int):Hp:={ obs:=[],F:=[],T:=[],most:=(max 0 (min shapes 150)).toNat,maxO:=(max 0 (min objects 200)).toNat,maxP:=(max 0 (min props 32)).toNat }
theorem newH_ok(a b c:Int):HOk (newH a b c):=
 ⟨List.nodup_nil,fun i t h=>by simp[newH]at h,fun i o h=>by simp[newH]at h,fun i o h=>by simp[newH]at h,fun i o h=>by simp[newH]at h,⟨fun _=>0,fun i o h=>by simp[newH]at h⟩,⟨by simp[newH];omega,by simp[newH],by simp[newH];omega⟩⟩
theorem newH_pro(a b c:Int):HPro (newH a b c):=fun i o h=>by simp[newH]at h
set_option maxHeartbeats 8000000 in
theorem hnew_spec{a b c d n:Int}(h:∀ s' p,HpAt s.next s' p (newH a c n) 0 (fun b=>s.next≤b∧b<s'.next)→s.le s'→R (.pointer (some ⟨p,0,none⟩)) s'):QC Tryz.prog w0 34 #[.agg #[.int .i64 a,.int .i64 b,.int .i64 c,.int .i64 d],.int .i64 n] s R:=by
 refine wfun2 hmix ok34 func34 rfl ntmps34 results34 (by simp) ?_
 simp -implicitDefEqProofs only[↓Zd,(Zp),Zr,simprocAttr,qP,Value.cells,cut,qC,cld2,(HEx),vA,underlying24,sz24,is24,ce24,ag24,ze24,fa24x0,fa24x1,fa24x2,fa24x3,ord34,co94]
 refine fnew_spec fun s1 pf hF1 hs1=>?_
 have hn1:=hs1.1
 simp only[St.next_new]at hn1
 have hbx1:s1.at' s.next=some (.cells [.int .i64 a,.int .i64 b,.int .i64 c,.int .i64 d] 24 true):=by rw[hs1.2 _ (by simp only[St.next_new];omega),St.at_new,if_pos rfl]
 simp -implicitDefEqProofs only[↓Zd,(Zp),Zr,simprocAttr,qP,Value.cells,cut,qC,cld2,(HEx),vA,underlying24,sz24,is24,ce24,ag24,ze24,fa24x0,fa24x1,fa24x2,fa24x3,hbx1,ord34,co95]
 refine tnew_spec fun s2 pn hT2 hs2=>?_
 have hn2:=hs2.1
 have hbx2:s2.at' s.next=_:=(hs2.2 _ (by omega)).trans hbx1
 have hbH:∀ (u v:Value) (e f:Int),cbuild Tryz.prog 149 #[(1,.pointer (some ⟨pf,0,none⟩)),(2,.pointer (some ⟨pn,0,none⟩)),(3,.int .i64 e),(4,.int .i64 f)]=some (.agg #[.slice none 0 0,.pointer (some ⟨pf,0,none⟩),.pointer (some ⟨pn,0,none⟩),.int .i64 e,.int .i64 f]):=fun u v e f=>by kernel_rfl
 simp -implicitDefEqProofs only[↓Zd,(Zp),Zr,simprocAttr,qP,Value.cells,cut,qC,cld2,(HEx),vA,underlying24,sz24,is24,ce24,ag24,ze24,fa24x0,fa24x1,fa24x2,fa24x3,hbx2,ord34,co96]
 refine between_spec ?_
 simp -implicitDefEqProofs only[↓Zd,(Zp),Zr,simprocAttr,qP,Value.cells,cut,qC,cld2,(HEx),vA,underlying24,sz24,is24,ce24,ag24,ze24,fa24x0,fa24x1,fa24x2,fa24x3,hbx2,ord34,co96]
 refine between_spec ?_
 simp -implicitDefEqProofs only[↓Zd,(Zp),Zr,simprocAttr,qP,Value.cells,cut,qC,cld2,(HEx),vA,underlying24,sz24,is24,ce24,ag24,ze24,fa24x0,fa24x1,fa24x2,fa24x3,hbx2,ord34,hbH .nilFunc .nilFunc]
 have hl:s.le (s2.new (.cells [.slice none 0 0,.pointer (some ⟨pf,0,none⟩),.pointer (some ⟨pn,0,none⟩),.int .i64 (max 0 (min a 200)),.int .i64 (max 0 (min c 32))] 149 true)):=lN (lT (lT (lN (lR _)) hs1) hs2)
 refine h _ _ ⟨newH_pro a c n,(fun c=>if s1.next≤c∧c<s2.next then 2 else if s.next+1≤c∧c<s1.next then 1 else 0),pf,pn,.slice none 0 0,[],⟨fun b hb=>hb,newH_ok a c n,Nat.zero_le _,⟨⟨by omega,by simp only[St.next_new];omega⟩,by rw[if_neg (by omega),if_neg (by omega)]⟩,?_,.inl ⟨rfl,rfl,rfl⟩,(fun q n c e=>by cases e),?_,?_,rfl,fun i b o hb _=>by simp at hb⟩⟩ hl
 ·rw[St.at_new,if_pos rfl]
  have e1:((newH a c n).maxO:Int)=max 0 (min a 200):=by simp only[newH];omega
  have e2:((newH a c n).maxP:Int)=max 0 (min c 32):=by simp only[newH];omega
  rw[e1,e2]
 ·have e:(fun b=>(s.next≤b∧b<(s2.new (.cells [.slice none 0 0,.pointer (some ⟨pf,0,none⟩),.pointer (some ⟨pn,0,none⟩),.int .i64 (max 0 (min a 200)),.int .i64 (max 0 (min c 32))] 149 true)).next)∧(if s1.next≤b∧b<s2.next then 2 else if s.next+1≤b∧b<s1.next then 1 else 0)=1)=fun b=>s.next+1≤b∧b<s1.next:=by
   funext b
   apply propext
   simp only[St.next_new]
   split
   ·omega
   ·split<;>omega
  rw[e]
  simp only[St.next_new]at hF1
  refine (hF1.low (by omega)).same (by simp only[St.next_new];omega) fun c hc=>?_
  rw[St.at_new,if_neg (by omega),hs2.2 c (by omega)]
 ·have e:(fun b=>(s.next≤b∧b<(s2.new (.cells [.slice none 0 0,.pointer (some ⟨pf,0,none⟩),.pointer (some ⟨pn,0,none⟩),.int .i64 (max 0 (min a 200)),.int .i64 (max 0 (min c 32))] 149 true)).next)∧(if s1.next≤b∧b<s2.next then 2 else if s.next+1≤b∧b<s1.next then 1 else 0)=2)=fun b=>s1.next≤b∧b<s2.next:=by
   funext b
   apply propext
   simp only[St.next_new]
   split
   ·omega
   ·split<;>omega
  rw[e]
  refine (hT2.low (by omega)).same (by simp only[St.next_new];omega) fun c hc=>?_
  rw[St.at_new,if_neg (by omega)]
end
end Go.Proofs.Tryz
namespace Go.Proofs.Tryz
open Go.Cs
open Go.RowKit (Below)
set_option maxRecDepth 100000
attribute [local irreducible] QC WLoop WScope CRound WRange
section
variable {M:Type}[Mem M]{w0:World}{s:St M}{R:Value→St M→Prop}{lo p N:Nat}{H:Hp}{O:Nat→Prop}
theorem BAt.go{s0 s s':St M}{p:Nat}{l:List UInt8}(h:BAt s0 s p l)(hs:s.le s'):BAt s0 s' p l:=by
 obtain⟨h1,h2,h3,ad,sl,h4,h5,h6⟩:=h
 have:=hs.1
 refine⟨lT h1 hs,h2,by omega,ad,sl,(hs.2 p h3).trans h4,h5,?_⟩
 rcases h6 with h6|⟨g1,b,g2,g3,g4,g5,g6⟩
 ·exact .inl h6
 ·exact .inr ⟨g1,b,g2,(hs.2 b g6).trans g3,g4,g5,by omega⟩
theorem Fix.sub{W W':List Nat}{a b:Env}(h:Fix W a b)(hs:∀ t,W'.contains t=false→W.contains t=false):Fix W' a b:=fun t ht=>h t (hs t ht)
end
end Go.Proofs.Tryz
end
namespace Go.Proofs.Tryz
open Go.Cs
open Go.RowKit (Below)
set_option maxRecDepth 100000
attribute [local irreducible] QC WLoop WScope CRound WRange
set_option maxHeartbeats 32000000
variable {M:Type}[Mem M]{w0:World}{s:St M}{R:Value→St M→Prop}

end Go.Proofs.Tryz
section
set_option maxRecDepth 100000
namespace Go.Proofs.Tryz
open Go.Cs Go.ChangeShapes Go.WideShapes Go.ChangeAt Go.RowKit Go.ChangeMaps
structure AID where
 a0:Int
 a1:Int
 a2:Int
def actIC(x:AID):List Value:=[.int .i64 x.a0,.int .i64 x.a1,.int .i64 x.a2]
def ActIOk(x:AID):Prop:=I64 x.a0∧I64 x.a1∧I64 x.a2
theorem el_AID{H:Type}{enc:TypeId×Value→H}{W:World}(n:Nat)(l:List Value)(y:DataW H×List MemPlace)(hf:DataW.trod enc prog W 0 (fun _=>true) true n 74 l=some y):∃ a,l=actIC a∧ActIOk a:=by
 obtain⟨xs,m,_,hx,hl,hlen,hp⟩:=DataW.trod_struct underlying74 hf
 rw[ce74]at hl
 have h0:DataW.trod enc prog W 0 (fun _=>true) true m 3 (List.take (prog.cellsOf 3) (List.drop 0 l))=xs[0]?:=hp 0 _ rfl
 rw[ce3]at h0
 have h1:DataW.trod enc prog W 0 (fun _=>true) true m 3 (List.take (prog.cellsOf 3) (List.drop 1 l))=xs[1]?:=hp 1 _ rfl
 rw[ce3]at h1
 have h2:DataW.trod enc prog W 0 (fun _=>true) true m 3 (List.take (prog.cellsOf 3) (List.drop 2 l))=xs[2]?:=hp 2 _ rfl
 rw[ce3]at h2
 have hlen:xs.length=3:=hlen
 match l,hl,xs,hlen with
 | [c0,c1,c2],_,[y0,y1,y2],_ =>
  simp only[List.drop_zero,List.drop_succ_cons,List.take_succ_cons,List.take_zero,List.getElem?_cons_zero,List.getElem?_cons_succ]at h0 h1 h2
  obtain⟨a0,e0,rfl,w0⟩:=DataW.trod_int underlying3 h0
  simp only[List.cons.injEq,and_true]at e0
  subst e0
  obtain⟨a1,e1,rfl,w1⟩:=DataW.trod_int underlying3 h1
  simp only[List.cons.injEq,and_true]at e1
  subst e1
  obtain⟨a2,e2,rfl,w2⟩:=DataW.trod_int underlying3 h2
  simp only[List.cons.injEq,and_true]at e2
  subst e2
  exact⟨⟨a0,a1,a2⟩,rfl,Go.Cs.fits_i64 w0,Go.Cs.fits_i64 w1,Go.Cs.fits_i64 w2⟩
theorem actsI_cut:∀ (l:List AID) (k:Nat) (x:AID),l[k]?=some x→k*3+3≤(l.flatMap actIC).length∧List.take 3 (List.drop (k*3) (l.flatMap actIC))=actIC x:=by
 intro l
 induction l with
 |nil=>intro k x h;simp at h
 |cons y l ih =>
  intro k x h
  rw[List.flatMap_cons]
  cases k with
  |zero =>
   simp at h;subst h
   exact⟨by rw[List.length_append];show 0*3+3≤3+_;omega,rfl⟩
  |succ k =>
   obtain⟨h1,h2⟩:=ih k x (by simpa using h)
   refine⟨by rw[List.length_append];show _≤3+_;omega,?_⟩
   rw[show (k+1)*3=3+k*3 by omega,← List.drop_drop]
   exact h2
end Go.Proofs.Tryz
end
section
set_option maxRecDepth 100000
namespace Go.Proofs.Tryz
open Go.Cs Go.ChangeShapes Go.WideShapes Go.ChangeAt Go.RowKit Go.ChangeMaps
theorem I64.le{n:Int}(h:I64 n) : -9223372036854775808≤n∧n≤9223372036854775807:=h
structure CodeD where
 p:Int
 l:Int
 s:Int
 d:Int
 ins:List AID
 us:List AID
 cp:Nat
 oi:Option BI
 ad:Nat→Option Addr
structure CodeV where
 p:Int
 l:Int
 s:Int
 d:Int
 ins:List AID
 ad:Option Addr
 cp:Nat
def codeC(c:CodeV):List Value:=[.int .i64 c.p,.int .i64 c.l,.int .i64 c.s,.int .i64 c.d,.slice c.ad c.ins.length c.cp]
def codeV(j:Nat)(c:CodeD):CodeV:=⟨c.p,c.l,c.s,c.d,c.ins,c.ad j,c.cp⟩
structure CodeOk(c:CodeV):Prop where
 p:I64 c.p
 l:I64 c.l
 s:I64 c.s
 d:I64 c.d
 ins:∀ a∈c.ins,ActIOk a
 len:c.ins.length≤9223372036854775807
def CodeRel(W:World)(c:CodeD)(cs:List Value):Prop:=∃ v,cs=[.int .i64 c.p,.int .i64 c.l,.int .i64 c.s,.int .i64 c.d,v]∧(∀ j,CodeOk (codeV j c))∧(∀ ρ,QIn ρ W c.oi (c.us.flatMap actIC))∧(∀ (ρ:Ren) j,ρ j=c.oi→VRel ρ (.slice (c.ad j) c.ins.length c.cp) v)∧(c.ins=[]∨(c.ad=fun j=>some ⟨j,0,none⟩)∧∀ k,k<c.ins.length→c.us[k]?=c.ins[k]?)
theorem actI_plain(a:AID):∀ x∈actIC a,plain 6 x=true:=by
 intro x hx
 simp only[actIC,List.mem_cons,List.not_mem_nil,or_false]at hx
 rcases hx with rfl|rfl|rfl<;>rfl
theorem el_Code{H:Type}{enc:TypeId×Value→H}{W:World}(n:Nat)(l:List Value)(y:DataW H×List MemPlace)(hf:DataW.trod enc prog W 0 (fun _=>true) true n 72 l=some y):∃ c,CodeRel W c l:=by
 obtain⟨xs,m,_,hx,hl,hlen,hp⟩:=DataW.trod_struct underlying72 hf
 rw[ce72]at hl
 have h0:DataW.trod enc prog W 0 (fun _=>true) true m 3 (List.take (prog.cellsOf 3) (List.drop 0 l))=xs[0]?:=hp 0 _ rfl
 have h1:DataW.trod enc prog W 0 (fun _=>true) true m 3 (List.take (prog.cellsOf 3) (List.drop 1 l))=xs[1]?:=hp 1 _ rfl
 have h2:DataW.trod enc prog W 0 (fun _=>true) true m 3 (List.take (prog.cellsOf 3) (List.drop 2 l))=xs[2]?:=hp 2 _ rfl
 have h3:DataW.trod enc prog W 0 (fun _=>true) true m 3 (List.take (prog.cellsOf 3) (List.drop 3 l))=xs[3]?:=hp 3 _ rfl
 have h4:DataW.trod enc prog W 0 (fun _=>true) true m 70 (List.take (prog.cellsOf 70) (List.drop 4 l))=xs[4]?:=hp 4 _ rfl
 rw[ce3]at h0 h1 h2 h3
 rw[ce70]at h4
 have hlen:xs.length=5:=hlen
 match l,hl,xs,hlen with
 | [c0,c1,c2,c3,c4],_,[y0,y1,y2,y3,y4],_ =>
  simp only[List.drop_zero,List.drop_succ_cons,List.take_succ_cons,List.take_zero,List.getElem?_cons_zero,List.getElem?_cons_succ]at h0 h1 h2 h3 h4
  obtain⟨a0,e0,rfl,w0⟩:=DataW.trod_int underlying3 h0
  simp only[List.cons.injEq,and_true]at e0
  subst e0
  obtain⟨a1,e1,rfl,w1⟩:=DataW.trod_int underlying3 h1
  simp only[List.cons.injEq,and_true]at e1
  subst e1
  obtain⟨a2,e2,rfl,w2⟩:=DataW.trod_int underlying3 h2
  simp only[List.cons.injEq,and_true]at e2
  subst e2
  obtain⟨a3,e3,rfl,w3⟩:=DataW.trod_int underlying3 h3
  simp only[List.cons.injEq,and_true]at e3
  subst e3
  obtain⟨A,us,cp,oi,ad,g1,g2,g3,g4,g5⟩:=open_in (c:=3) actIC ActIOk underlying70 ce74 (fun _=>rfl) actI_plain (by omega) el_AID h4
  exact⟨⟨a0,a1,a2,a3,A,us,cp,oi,ad⟩,c4,rfl,fun j=>⟨Go.Cs.fits_i64 w0,Go.Cs.fits_i64 w1,Go.Cs.fits_i64 w2,Go.Cs.fits_i64 w3,g3,g5⟩,g1,g2,g4⟩
def strC(x:ByteArray):List Value:=[.string x]
def val3(x:Int×Int×ByteArray):List Value:=[.int .i64 x.1,.int .i64 x.2.1,.string x.2.2]
def ValOk(x:Int×Int×ByteArray):Prop:=I64 x.1∧I64 x.2.1
theorem el_str{H:Type}{enc:TypeId×Value→H}{W:World}(n:Nat)(l:List Value)(y:DataW H×List MemPlace)(hf:DataW.trod enc prog W 0 (fun _=>true) true n 9 l=some y):∃ a,l=strC a∧True:=by
 obtain⟨a,e,_,_⟩:=DataW.trod_string underlying9 hf
 exact⟨a,e,trivial⟩
theorem el_val{H:Type}{enc:TypeId×Value→H}{W:World}(n:Nat)(l:List Value)(y:DataW H×List MemPlace)(hf:DataW.trod enc prog W 0 (fun _=>true) true n 31 l=some y):∃ a,l=val3 a∧ValOk a:=by
 have hl:l.length=3:=by
  obtain⟨xs,m,_,_,hl,_⟩:=DataW.trod_struct underlying31 hf
  rw[ce31]at hl
  exact hl
 match l,hl with
 | [c0,c1,c2],_ =>
  obtain⟨k,n,x,rfl,rfl,rfl,_,h1,h2,_⟩:=open_value_c hf
  exact⟨(k,n,x),rfl,Go.Cs.fits_i64 h1,Go.Cs.fits_i64 h2⟩
theorem cellsP:prog.cellTypes prog.depth 60=some [3,39,58]:=by kernel_rfl
end Go.Proofs.Tryz
end
section
set_option maxRecDepth 100000
namespace Go.Proofs.Tryz
open Go.Cs Go.ChangeShapes Go.WideShapes Go.ChangeAt Go.RowKit Go.ChangeMaps
theorem open_in2{α H:Type}{enc:TypeId×Value→H}{W:World}{c m0:Nat}{t e:TypeId}{v:Value}{y0:DataW H×List MemPlace}(cellsA:α→List Value)(good:α→Prop)(hu:prog.underlying t=some (.slice e))(hc:prog.cellsOf e=c)(hlen:∀ a,(cellsA a).length=c)
  (hpl:∀ a,∀ x∈cellsA a,plain 6 x=true)(hc0:0<c)(hel:∀ (n:Nat) (cs:List Value) y,DataW.trod enc prog W 0 (fun _=>true) true n e cs=some y→∃ a,cs=cellsA a∧good a)
  (hf:DataW.trod enc prog W 0 (fun _=>true) true m0 t [v]=some y0) :
  ∃ (A us:List α) (cp:Nat) (oi:Option BI) (ad:Nat→Option Addr),(∀ ρ,QIn ρ W oi (us.flatMap cellsA))∧(∀ (ρ:Ren) j,ρ j=oi→VRel ρ (.slice (ad j) A.length cp) v)∧(∀ a∈A,good a)∧(A=[]∨(ad=fun j=>some ⟨j,0,none⟩)∧∀ k,k<A.length→us[k]?=A[k]?)∧A.length≤9223372036854775807∧(ad=(fun _=>none)∧A=[]∧cp=0∨ad=fun j=>some ⟨j,0,none⟩)∧A.length≤cp∧cp<UNK:=by
 have hmx:maxLen=9223372036854775807:=by decide
 rcases DataW.trod_slice hu hf with ⟨hcs,hx⟩|⟨a,len,cap,elems,rest,n,_,hcs,hx,hb,hl,hm,hlen',hel',hsp,hns⟩
 ·simp only[List.cons.injEq,and_true]at hcs
  subst hcs
  exact⟨[],[],0,none,fun _=>none,(by intro ρ i hi;cases hi),(fun ρ j _ => .nilSlice),(by simp),.inl rfl,Nat.zero_le _,.inl ⟨rfl,rfl,rfl⟩,Nat.le_refl _,by unfold UNK;omega⟩
 ·simp only[List.cons.injEq,and_true]at hcs
  subst hcs
  obtain⟨hrl,hr⟩:=hsp rfl
  have hU:cap<UNK:=by unfold UNK;omega
  by_cases h0:cap=0
  ·have hl0:len=0:=by omega
   subst hl0 h0
   exact⟨[],[],0,none,fun j=>some ⟨j,0,none⟩,(by intro ρ i hi;cases hi),(fun ρ j _ => .void),(by simp),.inl rfl,Nat.zero_le _,.inr rfl,Nat.le_refl _,by unfold UNK;omega⟩
  have hb':∀ i,i<cap→∃ y,(W.cells? 0 (a.add (i*c)) c).bind (DataW.trod enc prog W 0 (fun _=>true) true n e)=some y:=by
   intro i hi
   by_cases h1:i<len
   ·have:=hel' i h1
    rw[hc]at this
    exact⟨elems[i]'(by omega),by rw[this];simp[hlen',h1]⟩
   ·have:=hr (i - len) (by omega)
    rw[hc,show len+(i - len)=i by omega]at this
    exact⟨rest[i - len]'(by omega),by rw[this];simp⟩
  have hfirst:a.spot=none∧∃ cs e' fr,W.heap[a.block]?=some (.cells cs e' fr):=by
   obtain⟨y,hy⟩:=hb' 0 (by omega)
   obtain⟨cs',hcs',_⟩:=Option.bind_eq_some_iff.1 hy
   obtain⟨_,_,hcell⟩:=World.cells?_some hcs'
   have:=hcell 0 hc0
   have e1:(a.add (0*c)).add 0=a:=by rw[Nat.zero_mul];unfold Addr.add;simp
   rw[e1]at this
   unfold World.cell? at this
   split at this
   ·rename_i cs e' fr hh
    split at this
    ·rename_i hs
     exfalso
     have h5:cs'[0]?=none:=this.symm
     rw[List.getElem?_eq_none_iff]at h5
     have h6:=World.cells?_some hcs'
     omega
    ·rename_i hs
     exact⟨by simpa using hs,cs,e',fr,hh⟩
   ·exfalso
    have h5:cs'[0]?=none:=this.symm
    rw[List.getElem?_eq_none_iff]at h5
    have h6:=World.cells?_some hcs'
    omega
  obtain⟨hs1,cs,e',fr,hh⟩:=hfirst
  have ha:a=⟨a.block,a.off,none⟩:=by cases a;simp at hs1;simp[hs1]
  have hadd:∀ i,a.add i=⟨a.block,a.off+i,none⟩:=by
   intro i
   unfold Addr.add
   split
   ·subst_vars;exact ha
   ·rfl
  have hadd2:∀ i k,(a.add i).add k=⟨a.block,a.off+i+k,none⟩:=by
   intro i k
   rw[hadd]
   unfold Addr.add
   split
   ·subst_vars;simp
   ·rfl
  have each:∀ i,i<cap→∃ x,good x∧∀ k,k<c→cs[a.off+i*c+k]?=(cellsA x)[k]?:=by
   intro i hi
   obtain⟨y,hy⟩:=hb' i hi
   obtain⟨cs',hcs',hy'⟩:=Option.bind_eq_some_iff.1 hy
   obtain⟨x,rfl,hg⟩:=hel n cs' y hy'
   obtain⟨_,_,hcell⟩:=World.cells?_some hcs'
   refine⟨x,hg,fun k hk=>?_⟩
   have:=hcell k hk
   rw[hadd2]at this
   unfold World.cell? at this
   simp only[hh,Option.isSome_none,Bool.false_eq_true,if_false]at this
   exact this
  obtain⟨us,hal,has⟩:∃ us:List α,us.length=cap∧∀ i x,us[i]?=some x→good x∧∀ k,k<c→cs[a.off+i*c+k]?=(cellsA x)[k]?:=by
   clear hrl hr hel' hf hx hb hl hm hlen' hsp hns hU hb' h0
   induction cap with
   |zero=>exact⟨[],rfl,fun i x h=>by simp at h⟩
   |succ m ih =>
    obtain⟨us,h1,h2⟩:=ih (fun i hi=>each i (by omega))
    obtain⟨x,h3⟩:=each m (by omega)
    refine⟨us ++ [x],by simp[h1],fun i y hy=>?_⟩
    by_cases hi:i<us.length
    ·rw[List.getElem?_append_left hi]at hy;exact h2 i y hy
    ·rw[List.getElem?_append_right (by omega)]at hy
     have h0:i - us.length=0:=by
      have:=(List.getElem?_eq_some_iff.1 hy).1
      simp at this;omega
     rw[h0]at hy
     simp at hy
     subst hy
     have:i=m:=by omega
     subst this;exact h3
  have hfl:∀ (l:List α),(l.flatMap cellsA).length=l.length*c:=by
   intro l
   induction l with
   |nil=>simp
   |cons x l ih=>rw[List.flatMap_cons,List.length_append,ih,hlen,List.length_cons,Nat.succ_mul];omega
  have hget:∀ (l:List α) (i k:Nat) (x:α),l[i]?=some x→k<c→(l.flatMap cellsA)[i*c+k]?=(cellsA x)[k]?:=by
   intro l
   induction l with
   |nil=>intro i k x h;simp at h
   |cons y l ih =>
    intro i k x h hk
    rw[List.flatMap_cons]
    cases i with
    |zero =>
     simp at h;subst h
     rw[Nat.zero_mul,Nat.zero_add,List.getElem?_append_left (by rw[hlen];exact hk)]
    |succ i =>
     have:c≤(i+1)*c+k:=by rw[Nat.succ_mul];omega
     rw[List.getElem?_append_right (by rw[hlen];exact this),hlen,show (i+1)*c+k - c=i*c+k by rw[Nat.succ_mul];omega]
     exact ih i k x (by simpa using h) hk
  refine⟨us.take len,us,cap,some ⟨a.block,a.off,0,0,0⟩,fun j=>some ⟨j,0,none⟩,?_,?_,?_,.inr ⟨rfl,?_⟩,by simp;omega,.inr rfl,by simp;omega,hU⟩
  ·rintro ρ i ⟨⟩
   have hsz:a.off+cap*c≤cs.size:=by
    have h1:us[cap - 1]?=some (us[cap - 1]'(by omega)):=List.getElem?_eq_getElem _
    have h2:=(has _ _ h1).2 (c - 1) (by omega)
    rw[List.getElem?_eq_getElem (by rw[hlen];omega)]at h2
    have:=(Array.getElem?_eq_some_iff.1 h2).1
    have e:cap*c=(cap - 1)*c+c:=by
     conv=>lhs;rw[show cap=(cap - 1)+1 by omega,Nat.succ_mul]
    omega
   refine⟨rfl,rfl,cs,e',fr,hh,by rw[hfl,hal];exact hsz,fun k hk=>?_⟩
   rw[hfl,hal]at hk
   have hi:k / c<cap:=by rw[Nat.div_lt_iff_lt_mul hc0];exact hk
   have hk2:k % c<c:=Nat.mod_lt _ hc0
   have e:k / c*c+k % c=k:=Nat.div_add_mod' k c
   have h1:us[k / c]?=some (us[k / c]'(by omega)):=List.getElem?_eq_getElem _
   have h2:=(has _ _ h1).2 (k % c) hk2
   have h3:=hget us _ _ _ h1 hk2
   have hlt:k % c<(cellsA (us[k / c]'(by omega))).length:=by rw[hlen];exact hk2
   rw[List.getElem?_eq_getElem hlt]at h2 h3
   show VRel ρ _ (cs.getD (a.off+k) Go.undef)
   rw[show a.off+k / c*c+k % c=a.off+k by omega]at h2
   rw[e]at h3
   rw[Array.getD_eq_getD_getElem?,h2,List.getD_eq_getElem?_getD,h3]
   exact VRel.of_plain 6 (hpl _ _ (List.getElem_mem _))
  ·intro ρ j hj
   have:(us.take len).length=len:=by simp;omega
   rw[this]
   exact .slice ⟨_,hj,rfl,by show a=⟨a.block,0+a.off,none⟩;rw[Nat.zero_add];exact ha⟩ (.inl ⟨rfl,hU⟩)
  ·intro x hx
   obtain⟨i,hi⟩:=List.getElem?_of_mem (List.mem_of_mem_take hx)
   exact (has i x hi).1
  ·intro k hk
   simp only[List.length_take]at hk
   rw[List.getElem?_take,if_pos (by omega)]
end Go.Proofs.Tryz
end
section
set_option maxRecDepth 100000
namespace Go.Proofs.Tryz
open Go.Cs Go.ChangeShapes Go.WideShapes Go.ChangeAt Go.RowKit Go.ChangeMaps
theorem cellsF:prog.cellTypes prog.depth 62=some [3,3,48,48,3,3,9]:=by kernel_rfl
def ValRow{H:Type}(enc:TypeId×Value→H)(W:World)(v:Value):Prop:=
 ∃ (A us:List (Int×Int×ByteArray)) (cp:Nat) (oi:Option BI) (ad:Nat→Option Addr),(∀ ρ,QIn ρ W oi (us.flatMap val3))∧(∀ (ρ:Ren) j,ρ j=oi→VRel ρ (.slice (ad j) A.length cp) v)∧(∀ a∈A,ValOk a)∧(A=[]∨(ad=fun j=>some ⟨j,0,none⟩)∧∀ k,k<A.length→us[k]?=A[k]?)∧A.length≤9223372036854775807∧(ad=(fun _=>none)∧A=[]∧cp=0∨ad=fun j=>some ⟨j,0,none⟩)∧A.length≤cp∧cp<UNK
theorem open_frame{H:Type}{enc:TypeId×Value→H}{W:World}{r:Reach}{b0:Nat}{v:Value}{d:DataW H}{ps:List MemPlace}(hval:Value.okWide prog W r b0 62 v)(hd:DataW.Trod enc prog W 0 (fun _=>true) true 62 v d ps) :
  ∃ (f pc:Int) (v2 v3:Value) (k n:Int) (x:ByteArray),v = .agg #[.int .i64 f,.int .i64 pc,v2,v3,.int .i64 k,.int .i64 n,.string x]∧I64 f∧I64 pc∧I64 k∧I64 n∧ValRow enc W v2∧ValRow enc W v3:=by
 simp only[Value.okWide,underlying62]at hval
 obtain⟨cs,rfl,hcs,ts,hts,_,hrow⟩:=hval
 rw[cellsF]at hts
 cases hts
 rw[ce62]at hcs
 obtain⟨fuel,hf⟩:=hd
 obtain⟨xs,m,_,hx,hl,hlen,hp⟩:=DataW.trod_struct underlying62 hf
 have h0:DataW.trod enc prog W 0 (fun _=>true) true m 3 (List.take (prog.cellsOf 3) (List.drop 0 cs.toList))=xs[0]?:=hp 0 _ rfl
 have h1:DataW.trod enc prog W 0 (fun _=>true) true m 3 (List.take (prog.cellsOf 3) (List.drop 1 cs.toList))=xs[1]?:=hp 1 _ rfl
 have h2:DataW.trod enc prog W 0 (fun _=>true) true m 48 (List.take (prog.cellsOf 48) (List.drop 2 cs.toList))=xs[2]?:=hp 2 _ rfl
 have h3:DataW.trod enc prog W 0 (fun _=>true) true m 48 (List.take (prog.cellsOf 48) (List.drop 3 cs.toList))=xs[3]?:=hp 3 _ rfl
 have h4:DataW.trod enc prog W 0 (fun _=>true) true m 31 (List.take (prog.cellsOf 31) (List.drop 4 cs.toList))=xs[4]?:=hp 4 _ rfl
 rw[ce3]at h0 h1
 rw[ce48]at h2 h3
 rw[ce31]at h4
 have hlen:xs.length=5:=hlen
 obtain⟨l⟩:=cs
 match l,hcs,xs,hlen with
 | [c0,c1,c2,c3,c4,c5,c6],_,[y0,y1,y2,y3,y4],_ =>
  simp only[List.drop_zero,List.drop_succ_cons,List.take_succ_cons,List.take_zero,List.getElem?_cons_zero,List.getElem?_cons_succ]at h0 h1 h2 h3 h4
  obtain⟨f,e0,rfl,w0⟩:=DataW.trod_int underlying3 h0
  obtain⟨pc,e1,rfl,w1⟩:=DataW.trod_int underlying3 h1
  simp only[List.cons.injEq,and_true]at e0 e1
  subst e0 e1
  obtain⟨⟨k,n,x⟩,ev,hk⟩:=el_val m [c4,c5,c6] y4 h4
  have ev:[c4,c5,c6]=[.int .i64 k,.int .i64 n,.string x]:=ev
  simp only[List.cons.injEq,and_true]at ev
  obtain⟨rfl,rfl,rfl⟩:=ev
  have row:∀ {c:Value}{y:DataW H×List MemPlace},DataW.trod enc prog W 0 (fun _=>true) true m 48 [c]=some y→ValRow enc W c:=fun h =>
   open_in2 (c:=3) val3 ValOk underlying48 ce31 (fun _=>rfl) (fun a x hx=>by
    simp only[val3,List.mem_cons,List.not_mem_nil,or_false]at hx
    rcases hx with rfl|rfl|rfl<;>rfl) (by omega) el_val h
  exact⟨f,pc,c2,c3,k,n,x,rfl,Go.Cs.fits_i64 w0,Go.Cs.fits_i64 w1,hk.1,hk.2,row h2,row h3⟩
end Go.Proofs.Tryz
end
namespace Go.Proofs.Tryz
open Go.Cs
open Go.RowKit (Below)
set_option maxRecDepth 100000
attribute [local irreducible] QC WLoop WScope CRound WRange
set_option maxHeartbeats 32000000
variable {M:Type}[Mem M]{w0:World}{s:St M}{R:Value→St M→Prop}
def BBx:=(And.intro (And.intro (And.intro (And.intro (And.intro (And.intro @underlying3 (And.intro @sz3 @is3)) (And.intro (And.intro @ce3 @ag3) (And.intro @ze3 @underlying4))) (And.intro (And.intro @sz4 (And.intro @is4 @ce4)) (And.intro (And.intro @ag4 @ze4) (And.intro @be4 @bn4)))) (And.intro (And.intro (And.intro @underlying9 (And.intro @sz9 @is9)) (And.intro (And.intro @ce9 @ag9) (And.intro @ze9 @underlying31))) (And.intro (And.intro (And.intro @sz31 @is31) (And.intro @ce31 @ag31)) (And.intro (And.intro @ze31 @fa31x0) (And.intro @fa31x1 @fa31x2))))) (And.intro (And.intro (And.intro (And.intro @underlying48 (And.intro @sz48 @is48)) (And.intro (And.intro @ce48 @ag48) (And.intro @ze48 @underlying74))) (And.intro (And.intro (And.intro @sz74 @is74) (And.intro @ce74 @ag74)) (And.intro (And.intro @ze74 @fa74x0) (And.intro @fa74x1 @fa74x2)))) (And.intro (And.intro (And.intro @underlying70 (And.intro @sz70 @is70)) (And.intro (And.intro @ce70 @ag70) (And.intro @ze70 @underlying72))) (And.intro (And.intro (And.intro @sz72 @is72) (And.intro @ce72 @ag72)) (And.intro (And.intro @ze72 @fa72x0) (And.intro @fa72x1 @fa72x2)))))) (And.intro (And.intro (And.intro (And.intro (And.intro @fa72x3 (And.intro @fa72x4 @underlying58)) (And.intro (And.intro @sz58 @is58) (And.intro @ce58 @ag58))) (And.intro (And.intro (And.intro @ze58 @underlying60) (And.intro @sz60 @is60)) (And.intro (And.intro @ce60 @ag60) (And.intro @ze60 @fa60x0)))) (And.intro (And.intro (And.intro @fa60x1 (And.intro @fa60x2 @underlying88)) (And.intro (And.intro @sz88 @is88) (And.intro @ce88 @ag88))) (And.intro (And.intro (And.intro @ze88 @underlying39) (And.intro @sz39 @is39)) (And.intro (And.intro @ce39 @ag39) (And.intro @ze39 @underlying75))))) (And.intro (And.intro (And.intro (And.intro @sz75 (And.intro @is75 @ce75)) (And.intro (And.intro @ag75 @underlying122) (And.intro @sz122 @is122))) (And.intro (And.intro (And.intro @ce122 @ag122) (And.intro @underlying224 @sz224)) (And.intro (And.intro @is224 @ce224) (And.intro @ag224 @underlying62)))) (And.intro (And.intro (And.intro @sz62 (And.intro @is62 @ce62)) (And.intro (And.intro @ag62 @ze62) (And.intro @fa62x0 @fa62x1))) (And.intro (And.intro (And.intro @fa62x2 @fa62x3) (And.intro @fa62x4 @underlying227)) (And.intro (And.intro @sz227 @is227) (And.intro @ce227 @ag227)))))))
theorem rowWords:crow prog 39 7 #[(0,.string ⟨#[99,111,117,110,116]⟩),(1,.string ⟨#[107,101,121]⟩),(2,.string ⟨#[104,97,115]⟩),(3,.string ⟨#[112,114,111,116,111]⟩),(4,.string ⟨#[115,101,116,112,114,111,116,111]⟩),(5,.string ⟨#[108,101,110]⟩),(6,.string ⟨#[115,116,114]⟩)]=some (.cells [.string ⟨#[99,111,117,110,116]⟩,.string ⟨#[107,101,121]⟩,.string ⟨#[104,97,115]⟩,.string ⟨#[112,114,111,116,111]⟩,.string ⟨#[115,101,116,112,114,111,116,111]⟩,.string ⟨#[108,101,110]⟩,.string ⟨#[115,116,114]⟩] 9 true):=by kernel_rfl
section
theorem goes_spec{op:Int}(hR:∀ b:Bool,(b=true↔22≤op∧op≤25)→R (.bool b) s):QC prog w0 170 #[.int .i64 op] s R:=by
 refine wfun2 hmix ok170 func170 rfl ntmps170 results170 (by simp) ?_
 by_cases h1:22≤op
 ·by_cases h2:op≤25
  ·simp -implicitDefEqProofs only[↓Zd,(Zp),if_true,if_false,ne_eq,implies_true,forall_const,Nat.reduceEqDiff,reduceIte,reduceCtorEq,Int.reduceEq,Int.reduceNeg,Int.reduceLE,Int.reduceLT,Nat.reduceAdd,Nat.reduceLeDiff,Int.reduceToNat,Nat.reduceMul,Nat.reduceBEq,qP,Value.cells,cut,qC,cld2,(BBx),vA,h1,h2,decide_true]
   exact hR true ⟨fun _=>⟨h1,h2⟩,fun _=>rfl⟩
  ·simp -implicitDefEqProofs only[↓Zd,(Zp),if_true,if_false,ne_eq,implies_true,forall_const,Nat.reduceEqDiff,reduceIte,reduceCtorEq,Int.reduceEq,Int.reduceNeg,Int.reduceLE,Int.reduceLT,Nat.reduceAdd,Nat.reduceLeDiff,Int.reduceToNat,Nat.reduceMul,Nat.reduceBEq,qP,Value.cells,cut,qC,cld2,(BBx),vA,h1,h2,decide_true,decide_false]
   exact hR false ⟨fun h=>Bool.noConfusion h,fun h=>absurd h.2 h2⟩
 ·simp -implicitDefEqProofs only[↓Zd,(Zp),if_true,if_false,ne_eq,implies_true,forall_const,Nat.reduceEqDiff,reduceIte,reduceCtorEq,Int.reduceEq,Int.reduceNeg,Int.reduceLE,Int.reduceLT,Nat.reduceAdd,Nat.reduceLeDiff,Int.reduceToNat,Nat.reduceMul,Nat.reduceBEq,qP,Value.cells,cut,qC,cld2,(BBx),vA,h1,decide_false]
  exact hR false ⟨fun h=>Bool.noConfusion h,fun h=>absurd h.1 h1⟩
theorem built_spec{a:Int}(hR:∀ s' x n,s.le s'→0≤n→n≤2→R (.tuple #[.string x,.int .i64 n]) s'):QC prog w0 92 #[.int .i64 a] s R:=by
 refine wfun2 hmix ok92 func92 rfl ntmps92 results92 (by simp) ?_
 have hl:∀ C:Blk,s.le (s.new C):=fun C=>lN (lR _)
 rcases (show a<1∨7<a∨a=1∨a=2∨a=3∨a=4∨a=5∨a=6∨a=7 by omega) with h|h|rfl|rfl|rfl|rfl|rfl|rfl|rfl
 ·simp -implicitDefEqProofs only[↓Zd,(Zp),if_true,if_false,ne_eq,implies_true,forall_const,Nat.reduceEqDiff,reduceIte,reduceCtorEq,Int.reduceEq,Int.reduceNeg,Int.reduceLE,Int.reduceLT,Nat.reduceAdd,Nat.reduceLeDiff,Int.reduceToNat,Nat.reduceMul,Nat.reduceBEq,qP,Value.cells,cut,qC,cld2,(BBx),vA,rowWords,h,decide_true]
  exact hR _ _ _ (hl _) (by omega) (by omega)
 ·have h1:¬ a<1:=by omega
  simp -implicitDefEqProofs only[↓Zd,(Zp),if_true,if_false,ne_eq,implies_true,forall_const,Nat.reduceEqDiff,reduceIte,reduceCtorEq,Int.reduceEq,Int.reduceNeg,Int.reduceLE,Int.reduceLT,Nat.reduceAdd,Nat.reduceLeDiff,Int.reduceToNat,Nat.reduceMul,Nat.reduceBEq,qP,Value.cells,cut,qC,cld2,(BBx),vA,rowWords,h,h1,decide_true,decide_false]
  exact hR _ _ _ (hl _) (by omega) (by omega)
 all_goals
  have w0:IntKind.i64.wrap (1 - 1)=0:=by decide
  have w1:IntKind.i64.wrap (2 - 1)=1:=by decide
  have w2:IntKind.i64.wrap (3 - 1)=2:=by decide
  have w3:IntKind.i64.wrap (4 - 1)=3:=by decide
  have w4:IntKind.i64.wrap (5 - 1)=4:=by decide
  have w5:IntKind.i64.wrap (6 - 1)=5:=by decide
  have w6:IntKind.i64.wrap (7 - 1)=6:=by decide
  have b0:(0:Int)<((7:Nat):Int):=by omega
  have b1:(1:Int)<((7:Nat):Int):=by omega
  have b2:(2:Int)<((7:Nat):Int):=by omega
  have b3:(3:Int)<((7:Nat):Int):=by omega
  have b4:(4:Int)<((7:Nat):Int):=by omega
  have b5:(5:Int)<((7:Nat):Int):=by omega
  have b6:(6:Int)<((7:Nat):Int):=by omega
  simp -implicitDefEqProofs only[↓Zd,(Zp),if_true,if_false,ne_eq,implies_true,forall_const,Nat.reduceEqDiff,reduceIte,reduceCtorEq,Int.reduceEq,Int.reduceNeg,Int.reduceLE,Int.reduceLT,Nat.reduceAdd,Nat.reduceLeDiff,Int.reduceToNat,Nat.reduceMul,Nat.reduceBEq,qP,Value.cells,cut,qC,cld2,(BBx),vA,rowWords,b0,b1,b2,b3,b4,b5,b6,Int.toNat_zero,Int.toNat_one,List.getElem?_cons_zero,List.getElem?_cons_succ,w0,w1,w2,w3,w4,w5,w6,decide_true,decide_false]
  exact hR _ _ _ (hl _) (by omega) (by omega)
theorem effect_spec{op a b:Int}(hR:∀ s' x y,s.le s'→0≤x→x≤8→0≤y→y≤2→R (.tuple #[.int .i64 x,.int .i64 y]) s'):QC prog w0 32 #[.agg #[.int .i64 op,.int .i64 a,.int .i64 b]] s R:=by
 refine wfun2 hmix ok32 func32 rfl ntmps32 results32 (by simp) ?_
 have hl:s.le (s.new (.cells [.int .i64 op,.int .i64 a,.int .i64 b] 74 true)):=lN (lR _)
 simp -implicitDefEqProofs only[↓Zd,(Zp),if_true,if_false,ne_eq,implies_true,forall_const,Nat.reduceEqDiff,reduceIte,reduceCtorEq,Int.reduceEq,Int.reduceNeg,Int.reduceLE,Int.reduceLT,Nat.reduceAdd,Nat.reduceLeDiff,Int.reduceToNat,Nat.reduceMul,Nat.reduceBEq,qP,Value.cells,cut,qC,cld2,(BBx),vA]
 repeat' (first|(refine c2_split (fun h=>?_) (fun h=>?_)<;>simp -implicitDefEqProofs only[↓Zd,(Zp),if_true,if_false,ne_eq,implies_true,forall_const,Nat.reduceEqDiff,reduceIte,reduceCtorEq,Int.reduceEq,Int.reduceNeg,Int.reduceLE,Int.reduceLT,Nat.reduceAdd,Nat.reduceLeDiff,Int.reduceToNat,Nat.reduceMul,Nat.reduceBEq,qP,Value.cells,cut,qC,cld2,(BBx),vA,co92])|(refine g3_split (fun h=>?_) (fun h=>?_)<;>simp -implicitDefEqProofs only[↓Zd,(Zp),if_true,if_false,ne_eq,implies_true,forall_const,Nat.reduceEqDiff,reduceIte,reduceCtorEq,Int.reduceEq,Int.reduceNeg,Int.reduceLE,Int.reduceLT,Nat.reduceAdd,Nat.reduceLeDiff,Int.reduceToNat,Nat.reduceMul,Nat.reduceBEq,qP,Value.cells,cut,qC,cld2,(BBx),vA,co92]))
 all_goals first
  |exact hR _ _ _ hl (by omega) (by omega) (by omega) (by omega)
  |(simp only[decide_eq_true_eq]at *
    rw[wrap_i64 (by omega)]
    exact hR _ _ _ hl (by omega) (by omega) (by omega) (by omega))
  |(refine built_spec fun s2 x n l2 h1 h2=>?_
    by_cases h3:0<n
    ·simp -implicitDefEqProofs only[↓Zd,(Zp),if_true,if_false,ne_eq,implies_true,forall_const,Nat.reduceEqDiff,reduceIte,reduceCtorEq,Int.reduceEq,Int.reduceNeg,Int.reduceLE,Int.reduceLT,Nat.reduceAdd,Nat.reduceLeDiff,Int.reduceToNat,Nat.reduceMul,Nat.reduceBEq,qP,Value.cells,cut,qC,cld2,(BBx),vA,h3,decide_true]
     exact hR _ _ _ (lT hl l2) (by omega) (by omega) (by omega) (by omega)
    ·simp -implicitDefEqProofs only[↓Zd,(Zp),if_true,if_false,ne_eq,implies_true,forall_const,Nat.reduceEqDiff,reduceIte,reduceCtorEq,Int.reduceEq,Int.reduceNeg,Int.reduceLE,Int.reduceLT,Nat.reduceAdd,Nat.reduceLeDiff,Int.reduceToNat,Nat.reduceMul,Nat.reduceBEq,qP,Value.cells,cut,qC,cld2,(BBx),vA,h3,decide_false]
     exact hR _ _ _ (lT hl l2) (by omega) (by omega) (by omega) (by omega))
end
theorem rowI1(a:Int):crow prog 88 1 #[(0,.int .i64 a)]=some (.cells [.int .i64 a] 3 true):=by kernel_rfl
theorem rowI2(a b:Int):crow prog 88 2 #[(0,.int .i64 a),(1,.int .i64 b)]=some (.cells [.int .i64 a,.int .i64 b] 3 true):=by kernel_rfl
section
theorem QRow.le{α:Type}{e:TypeId}{cellsA:α→List Value}{s':St M}{a:Option Addr}{A:List α}(h:QRow e cellsA s a A)(hs:s.le s'):QRow e cellsA s' a A:=by
 rcases h with h|⟨j,us,h1,h2,h3,h4⟩
 ·exact .inl h
 ·exact .inr ⟨j,us,h1,by have:=hs.1;omega,(hs.2 j h2).trans h3,h4⟩
structure PAt(s:St M)(pl:Option Addr)(pool:List ByteArray)(cl:Option Addr)(C:List CodeV):Prop where
 strs:QRow 9 strC s pl pool
 codes:C=[]∨∃ (j n:Nat) (cc:Nat→List Value),cl=some ⟨j,0,none⟩∧j<s.next∧s.at' j=some (.cells (rowsN cc n) 72 false)∧(∀ i,(cc i).length=5)∧C.length≤n∧∀ i c,C[i]?=some c→cc i=codeC c
 ins:∀ c∈C,QRow 74 actIC s c.ad c.ins
 ok:∀ c∈C,CodeOk c
 plen:pool.length≤9223372036854775807
 clen:C.length≤9223372036854775807
theorem PAt.le{s':St M}{pl cl:Option Addr}{pool:List ByteArray}{C:List CodeV}(h:PAt s pl pool cl C)(hs:s.le s'):PAt s' pl pool cl C:=by
 refine⟨h.strs.le hs,?_,fun c hc=>(h.ins c hc).le hs,h.ok,h.plen,h.clen⟩
 rcases h.codes with h|⟨j,n,cc,h1,h2,h3,h4⟩
 ·exact .inl h
 ·exact .inr ⟨j,n,cc,h1,by have:=hs.1;omega,(hs.2 j h2).trans h3,h4⟩
theorem targets_spec{c:CodeV}(hc:CodeOk c)(hi:QRow 74 actIC s c.ad c.ins){k:Nat}(hk:k<c.ins.length)(hk2:k≤4000)
  (hR:∀ s' q n m (l:List Int),s.le s'→(l=[]∧q=none∧n=0∨∃ b,q=some ⟨b,0,none⟩∧s.next≤b∧b<s'.next∧n=l.length∧s'.at' b=some (.cells (l.map (.int .i64)) 3 true))→(l=[]∨(∃ x,c.ins[k]?=some x∧22≤x.a0∧x.a0≤25∧(l=[x.a1]∨l=[(k:Int)+1,x.a1]))∨l=[(k:Int)+1])→R (.slice q n m) s') :
  QC prog w0 230 #[.agg #[.int .i64 c.p,.int .i64 c.l,.int .i64 c.s,.int .i64 c.d,.slice c.ad c.ins.length c.cp],.int .i64 (k:Int)] s R:=by
 refine wfun2 hmix ok230 func230 rfl ntmps230 results230 (by simp) ?_
 rcases hi with h0|⟨j,us,had,hj,hjb,hus⟩
 ·rw[h0]at hk;cases hk
 have hx:c.ins[k]?=some c.ins[k]:=List.getElem?_eq_getElem hk
 generalize c.ins[k]=x at hx
 have hux:us[k]?=some x:=by rw[hus k hk];exact hx
 obtain⟨c1,c2⟩:=actsI_cut us k x hux
 obtain⟨o,a,b⟩:=x
 have c2:List.take 3 (List.drop (k*3) (us.flatMap actIC))=[.int .i64 o,.int .i64 a,.int .i64 b]:=c2
 have c3:(us.flatMap actIC)[k*3]?=some (.int .i64 o):=by
  have:=congrArg (·[0]?) c2
  simpa [List.getElem?_take,List.getElem?_drop] using this
 have hkk:(0:Int)≤(k:Int)∧(k:Int)<(c.ins.length:Int):=by omega
 have h1:¬ (k:Int)<0:=by omega
 have h2:¬ (c.ins.length:Int)≤(k:Int):=by omega
 have w1:IntKind.i64.wrap ((k:Int)+1)=(k:Int)+1:=wrap_i64 (by omega)
 have hjn:¬ j=s.next:=by omega
 rw[had]
 by_cases h32:o=32
 ·subst h32
  simp -implicitDefEqProofs only[↓Zd,(Zp),Zr,simprocAttr,qP,Value.cells,cut,qC,cld2,(BBx),vA,h1,h2,hkk,hjb,hjn,c1,c2,c3,Nat.add_zero,Nat.zero_add,decide_true,decide_false]
  exact hR _ none 0 0 [] (lN (lR _)) (.inl ⟨rfl,rfl,rfl⟩) (.inl rfl)
 have l1:s.le (((s.new (.cells [.int .i64 c.p,.int .i64 c.l,.int .i64 c.s,.int .i64 c.d,.slice (some ⟨j,0,none⟩) c.ins.length c.cp] 72 true)).new (.cells [.int .i64 0,.int .i64 0,.int .i64 0] 74 true)).put (s.next+1) (.cells [.int .i64 o,.int .i64 a,.int .i64 b] 74 true)):=(by repeat (first|exact lR _|assumption|refine lN ?_|refine lP ?_ (by first|omega|(simp only[(Sn)];omega))|refine lT ?_ (by assumption)))
 have n1:(((s.new (.cells [.int .i64 c.p,.int .i64 c.l,.int .i64 c.s,.int .i64 c.d,.slice (some ⟨j,0,none⟩) c.ins.length c.cp] 72 true)).new (.cells [.int .i64 0,.int .i64 0,.int .i64 0] 74 true)).put (s.next+1) (.cells [.int .i64 o,.int .i64 a,.int .i64 b] 74 true)).next=s.next+2:=rfl
 have hjn2:¬ j=s.next+1:=by omega
 by_cases h22:o=22
 ·subst h22
  simp -implicitDefEqProofs only[↓Zd,(Zp),Zr,simprocAttr,qP,Value.cells,cut,qC,cld2,(BBx),vA,h1,h2,hkk,hjb,hjn,hjn2,c1,c2,c3,rowI1,ze74,Nat.add_zero,Nat.zero_add,decide_true,decide_false]
  exact hR _ _ 1 _ [a] (lN l1) (.inr ⟨_,rfl,by omega,by simp only[St.next_new];omega,rfl,by rw[St.at_new,if_pos (by simp only[(Sn)])];rfl⟩) (.inr (.inl ⟨_,hx,by show 22≤(22:Int);omega,by show (22:Int)≤25;omega,.inl rfl⟩))
 simp -implicitDefEqProofs only[↓Zd,(Zp),Zr,simprocAttr,qP,Value.cells,cut,qC,cld2,(BBx),vA,h1,h2,hkk,hjb,hjn,hjn2,c1,c2,c3,h32,h22,rowI1,ze74,Nat.add_zero,Nat.zero_add,decide_true,decide_false,co170]
 refine goes_spec fun g hg=>?_
 cases g with
 |true =>
  simp -implicitDefEqProofs only[↓Zd,(Zp),Zr,simprocAttr,qP,Value.cells,cut,qC,cld2,(BBx),vA,h1,w1,rowI2,Nat.add_zero,Nat.zero_add]
  exact hR _ _ 2 _ [(k:Int)+1,a] (lN l1) (.inr ⟨_,rfl,by omega,by simp only[St.next_new];omega,rfl,by rw[St.at_new,if_pos (by simp only[(Sn)])];rfl⟩) (.inr (.inl ⟨_,hx,(hg.1 rfl).1,(hg.1 rfl).2,.inr rfl⟩))
 |false =>
  simp -implicitDefEqProofs only[↓Zd,(Zp),Zr,simprocAttr,qP,Value.cells,cut,qC,cld2,(BBx),vA,h1,w1,rowI1,Nat.add_zero,Nat.zero_add]
  exact hR _ _ 1 _ [(k:Int)+1] (lN l1) (.inr ⟨_,rfl,by omega,by simp only[St.next_new];omega,rfl,by rw[St.at_new,if_pos (by simp only[(Sn)])];rfl⟩) (.inr (.inr rfl))
end
section
def ArgOk(g:Int)(np:Nat)(c:CodeV)(o a:Int):Prop:=
 (1≤o∧o≤32)∧(22≤o→o≤25→0≤a∧a<(c.ins.length:Int))∧((o=5∨o=13∨o=14∨o=15∨o=18∨o=27)→0≤a∧a<(np:Int)) ∧
 ((o=8∨o=9)→0≤a)∧((o=10∨o=11)→0≤a∧a<g)∧((o=26∨o=28)→0≤a∧a≤6)∧(o=29→1≤a∧a≤7)
theorem arg_spec{g o a b:Int}{pl cl:Option Addr}{np nc cpp ccp:Nat}{c:CodeV}(hc:CodeOk c)(hnp:np≤9223372036854775807)(hnc:nc≤9223372036854775807)(hg:0≤g∧g≤24)
  (hR:∀ s' r,s.le s'→(r=true→ArgOk g np c o a)→R (.bool r) s') :
  QC prog w0 169 #[.agg #[.int .i64 g,.slice pl np cpp,.slice cl nc ccp],.agg #[.int .i64 c.p,.int .i64 c.l,.int .i64 c.s,.int .i64 c.d,.slice c.ad c.ins.length c.cp],.agg #[.int .i64 o,.int .i64 a,.int .i64 b]] s R:=by
 refine wfun2 hmix ok169 func169 rfl ntmps169 results169 (by simp) ?_
 have w1:IntKind.i64.wrap ((c.ins.length:Int) - 1)=(c.ins.length:Int) - 1:=wrap_i64 (by have:=hc.len;omega)
 have w2:IntKind.i64.wrap ((np:Int) - 1)=(np:Int) - 1:=wrap_i64 (by omega)
 have w3:IntKind.i64.wrap (g - 1)=g - 1:=wrap_i64 (by omega)
 have l1:s.le (((s.new (.cells [.int .i64 g,.slice pl np cpp,.slice cl nc ccp] 60 true)).new (.cells [.int .i64 c.p,.int .i64 c.l,.int .i64 c.s,.int .i64 c.d,.slice c.ad c.ins.length c.cp] 72 true)).new (.cells [.int .i64 o,.int .i64 a,.int .i64 b] 74 true)):=(by repeat (first|exact lR _|assumption|refine lN ?_|refine lP ?_ (by first|omega|(simp only[(Sn)];omega))|refine lT ?_ (by assumption)))
 simp -implicitDefEqProofs only[↓Zd,(Zp),Zr,simprocAttr,qP,Value.cells,cut,qC,cld2,(BBx),vA]
 repeat' (first|(refine c2_split (fun h=>?_) (fun h=>?_)<;>simp -implicitDefEqProofs only[↓Zd,(Zp),Zr,simprocAttr,qP,Value.cells,cut,qC,cld2,(BBx),vA,w1,w2,w3])|(refine g3_split (fun h=>?_) (fun h=>?_)<;>simp -implicitDefEqProofs only[↓Zd,(Zp),Zr,simprocAttr,qP,Value.cells,cut,qC,cld2,(BBx),vA,w1,w2,w3]))
 all_goals (refine hR _ _ l1 (fun hb=>?_))
 all_goals (first|(cases hb;done)|(unfold ArgOk;simp only[decide_eq_true_eq,decide_eq_false_iff_not]at *;omega))
end
theorem mkInts(n:Nat)(hn:n≤1000000):cmks prog 88 (.int .i64 (n:Int)) (.int .i64 (n:Int))=some (.cells (List.replicate n (.int .i64 0)) 3 true,fun b => .slice (some ⟨b,0,none⟩) n n):=by
 have hi:∃ ie,prog.info? 3=some ie∧ie.size=1∧ie.bytes=8:=by
  obtain⟨ie,h1⟩:=Option.isSome_iff_exists.1 is3
  have h2:(prog.info? 3).map (·.size)=some 1:=by kernel_rfl
  have h3:(prog.info? 3).map (·.bytes)=some 8:=by kernel_rfl
  rw[h1]at h2 h3
  exact⟨ie,h1,Option.some.inj h2,Option.some.inj h3⟩
 obtain⟨ie,h1,h2,h3⟩:=hi
 unfold cmks
 simp only[underlying88,h1,h2,h3]
 rw[if_pos (by omega),Int.toNat_natCast,Nat.mul_one,zeros_one ze3 rfl]
section
structure DAt(s s':St M)(c:CodeV)(V:List Int):Prop where
 le:s.le s'
 box:s'.at' s.next=some (.cells [.int .i64 c.p,.int .i64 c.l,.int .i64 c.s,.int .i64 c.d,.slice c.ad c.ins.length c.cp] 72 true)
 out:s'.at' (s.next+1)=some (.cells (V.map (.int .i64)) 3 true)
 nx:s.next+2≤s'.next
 len:V.length=c.ins.length
 rng:∀ v∈V,-1≤v∧v≤64
theorem DAt.more{s s' s2:St M}{c:CodeV}{V:List Int}(h:DAt s s' c V)(hs:s'.le s2):DAt s s2 c V:=
 ⟨lT h.le hs,(hs.2 _ (by have:=h.nx;omega)).trans h.box,(hs.2 _ (by have:=h.nx;omega)).trans h.out,by have:=h.nx;have:=hs.1;omega,h.len,h.rng⟩
theorem DAt.set{s s':St M}{c:CodeV}{V:List Int}(h:DAt s s' c V){i:Nat}{v:Int}(hv : -1≤v∧v≤64):DAt s (s'.put (s.next+1) (.cells ((V.map (Value.int .i64)).set i (.int .i64 v)) 3 true)) c (V.set i v):=by
 refine⟨lP h.le (by omega),?_,?_,by have:=h.nx;simp only[St.next_put];omega,by rw[List.length_set];exact h.len,fun x hx=>?_⟩
 ·rw[St.at_put,if_neg (by omega)];exact h.box
 ·rw[St.at_put,if_pos rfl,List.map_set]
 ·rcases List.mem_or_eq_of_mem_set hx with hx|rfl
  ·exact h.rng x hx
  ·exact hv
theorem depths_spec{c:CodeV}(hc:CodeOk c)(hi:QRow 74 actIC s c.ad c.ins)(hn:c.ins.length≤4000)(hn1:1≤c.ins.length)(hd:c.d≤64)(hg:∀ x∈c.ins,22≤x.a0→x.a0≤25→0≤x.a1∧x.a1<(c.ins.length:Int))
  (hR:∀ s' q n m b,s.le s'→R (.tuple #[.slice q n m,.bool b]) s') :
  QC prog w0 171 #[.agg #[.int .i64 c.p,.int .i64 c.l,.int .i64 c.s,.int .i64 c.d,.slice c.ad c.ins.length c.cp]] s R:=by
 refine wfun2 hmix ok171 func171 rfl ntmps171 results171 (by simp) ?_
 rcases id hi with h0|⟨j,us,had,hj,hjb,hus⟩
 ·rw[h0]at hn1;cases hn1
 have hD0:DAt s ((s.new (.cells [.int .i64 c.p,.int .i64 c.l,.int .i64 c.s,.int .i64 c.d,.slice c.ad c.ins.length c.cp] 72 true)).new (.cells (List.replicate c.ins.length (.int .i64 0)) 3 true)) c (List.replicate c.ins.length 0):=by
  refine⟨lN (lN (lR _)),?_,?_,by simp only[St.next_new];omega,List.length_replicate,fun v hv=>?_⟩
  ·rw[St.at_new,if_neg (by simp only[St.next_new];omega),St.at_new,if_pos rfl]
  ·rw[St.at_new,if_pos (by simp only[St.next_new]),List.map_replicate]
  ·rw[(List.mem_replicate.1 hv).2];omega
 simp -implicitDefEqProofs only[↓Zd,(Zp),Zr,simprocAttr,qP,Value.cells,cut,qC,cld2,(BBx),vA,mkInts _ (show c.ins.length≤1000000 by omega),↓o_mks,↓f_mks,Nat.add_zero,Nat.zero_add]
 refine wloop_inv hmix (fun fuel env s'=>env 1 = .pointer (some ⟨s.next,0,none⟩)∧env 4 = .slice (some ⟨s.next+1,0,none⟩) c.ins.length c.ins.length∧∃ (V:List Int) (k:Nat),env 5 = .int .i64 (k:Int)∧k≤c.ins.length∧fuel=c.ins.length - k∧DAt s s' c V) (c.ins.length - 1) ⟨rfl,rfl,_,1,rfl,hn1,rfl,hD0⟩ ?_
 clear hD0
 rintro fuel env s1 ⟨e1,e4,V,k,e5,hk,rfl,hD⟩
 have hbx:=hD.box
 have hvl:=hD.len
 by_cases hk1:k<c.ins.length
 case pos =>
  have hk':(k:Int)<(c.ins.length:Int):=by omega
  have hkk:(0:Int)≤(k:Int)∧(k:Int)<(c.ins.length:Int):=by omega
  have wk:IntKind.i64.wrap ((k:Int)+1)=((k+1:Nat):Int):=by rw[wrap_i64 (by omega)];omega
  have ho:=hD.out
  have hlv:k+1≤(V.map (Value.int .i64)).length:=by rw[List.length_map];omega
  have hne:¬ s.next=s.next+1:=by omega
  simp -implicitDefEqProofs only[↓Zd,(Zp),Zr,simprocAttr,qP,Value.cells,cut,qC,cld2,(BBx),vA,e1,e4,e5,hbx,ho,hk',hkk,hlv,hne,wk,Nat.add_zero,Nat.zero_add,Nat.mul_one]
  exact⟨c.ins.length - (k+1),by omega,_,k+1,rfl,by omega,rfl,hD.set (by omega)⟩
 have hk':¬ (k:Int)<(c.ins.length:Int):=by omega
 simp -implicitDefEqProofs only[↓Zd,(Zp),Zr,simprocAttr,qP,Value.cells,cut,qC,cld2,(BBx),vA,e1,e4,e5,hbx,hk',Nat.add_zero,Nat.zero_add]
 refine wloop_inv hmix (fun fuel env s'=>env 1 = .pointer (some ⟨s.next,0,none⟩)∧env 4 = .slice (some ⟨s.next+1,0,none⟩) c.ins.length c.ins.length∧∃ (V:List Int) (k:Nat) (g:Bool),env 6 = .bool g∧env 7 = .int .i64 (k:Int)∧k≤c.ins.length+1∧fuel=c.ins.length+1 - k∧DAt s s' c V) (c.ins.length+1) ⟨by simp only[upd_apply];simpa using e1,by simp only[upd_apply];simpa using e4,V,0,true,rfl,rfl,by omega,rfl,hD⟩ ?_
 clear hbx hvl hD hk1 hk' hk e1 e4 e5
 rintro fuel env2 s2 ⟨e1,e4,V,k,g,e6,e7,hk,rfl,hD⟩
 have hbx:=hD.box
 have hvl:=hD.len
 by_cases hk1:k≤c.ins.length
 case neg =>
  have hk':¬ (k:Int)≤(c.ins.length:Int):=by omega
  simp -implicitDefEqProofs only[↓Zd,(Zp),Zr,simprocAttr,qP,Value.cells,cut,qC,cld2,(BBx),vA,e1,e4,e6,e7,hbx,hk',Nat.add_zero,Nat.zero_add]
  exact hR _ _ _ _ _ hD.le
 have hk':(k:Int)≤(c.ins.length:Int):=by omega
 cases g with
 |false =>
  simp -implicitDefEqProofs only[↓Zd,(Zp),Zr,simprocAttr,qP,Value.cells,cut,qC,cld2,(BBx),vA,e1,e4,e6,e7,hbx,hk',Nat.add_zero,Nat.zero_add]
  exact hR _ _ _ _ _ hD.le
 |true =>
 have wk:IntKind.i64.wrap ((k:Int)+1)=((k+1:Nat):Int):=by rw[wrap_i64 (by omega)];omega
 simp -implicitDefEqProofs only[↓Zd,(Zp),Zr,simprocAttr,qP,Value.cells,cut,qC,cld2,(BBx),vA,e1,e4,e6,e7,hbx,hk',Nat.add_zero,Nat.zero_add]
 refine wloop_inv hmix (fun fuel env s'=>env 1 = .pointer (some ⟨s.next,0,none⟩)∧env 4 = .slice (some ⟨s.next+1,0,none⟩) c.ins.length c.ins.length∧env 7 = .int .i64 (k:Int)∧∃ (V:List Int) (m:Nat) (g:Bool),env 6 = .bool g∧env 8 = .int .i64 (m:Int)∧m≤c.ins.length∧fuel=c.ins.length - m∧DAt s s' c V) (c.ins.length - 0) ⟨by simp only[upd_apply];simpa using e1,by simp only[upd_apply];simpa using e4,by simp only[upd_apply];simpa using e7,V,0,false,rfl,rfl,by omega,rfl,hD⟩ ?_
 clear hbx hvl hD e1 e4 e6 e7 V
 rintro fuel env3 s3 ⟨e1,e4,e7,V,m,g,e6,e8,hm,rfl,hD⟩
 have hbx:=hD.box
 have hvl:=hD.len
 by_cases hm1:m<c.ins.length
 case neg =>
  have hm':¬ (m:Int)<(c.ins.length:Int):=by omega
  simp -implicitDefEqProofs only[↓Zd,(Zp),Zr,simprocAttr,qP,Value.cells,cut,qC,cld2,(BBx),vA,e1,e4,e6,e7,e8,hbx,hm',wk,Nat.add_zero,Nat.zero_add]
  exact⟨c.ins.length+1 - (k+1),by omega,V,k+1,g,rfl,rfl,by omega,rfl,hD⟩
 have hm':(m:Int)<(c.ins.length:Int):=by omega
 have hmm:(0:Int)≤(m:Int)∧(m:Int)<(c.ins.length:Int):=by omega
 have wm:IntKind.i64.wrap ((m:Int)+1)=((m+1:Nat):Int):=by rw[wrap_i64 (by omega)];omega
 have ho:=hD.out
 obtain⟨v,hv⟩:∃ v,V[m]?=some v:=⟨V[m]'(by omega),List.getElem?_eq_getElem _⟩
 have hvr:=hD.rng v (List.mem_of_getElem? hv)
 have gv:(V.map (Value.int .i64))[m]?=some (.int .i64 v):=by rw[List.getElem?_map,hv];rfl
 have hx:c.ins[m]?=some c.ins[m]:=List.getElem?_eq_getElem hm1
 generalize c.ins[m]=x at hx
 have hux:us[m]?=some x:=by rw[hus m hm1];exact hx
 obtain⟨c1,c2⟩:=actsI_cut us m x hux
 obtain⟨o,a,b⟩:=x
 have c2:List.take 3 (List.drop (m*3) (us.flatMap actIC))=[.int .i64 o,.int .i64 a,.int .i64 b]:=c2
 have c3:(us.flatMap actIC)[m*3]?=some (.int .i64 o):=by
  have:=congrArg (·[0]?) c2
  simpa [List.getElem?_take,List.getElem?_drop] using this
 have hjb3:s3.at' j=some (.cells (us.flatMap actIC) 74 false):=(hD.le.2 j hj).trans hjb
 have hgo:∀ {s':St M}{V':List Int}{g':Bool},DAt s s' c V'→∃ m_1,m_1<c.ins.length - m∧∃ (V_1:List Int) (m':Nat) (g_1:Bool),Value.bool g' = .bool g_1∧Value.int .i64 ((m+1:Nat):Int) = .int .i64 (m':Int)∧m'≤c.ins.length∧m_1=c.ins.length - m'∧DAt s s' c V_1:=fun h=>⟨c.ins.length - (m+1),by omega,_,m+1,_,rfl,rfl,by omega,rfl,h⟩
 rw[had]at hbx
 by_cases hv0:v<0
 ·simp -implicitDefEqProofs only[↓Zd,(Zp),Zr,simprocAttr,qP,Value.cells,cut,qC,cld2,(BBx),vA,e1,e4,e6,e7,e8,hbx,hm',hmm,ho,gv,hv0,wm,decide_true,Nat.mul_one,Nat.add_zero,Nat.zero_add]
  exact hgo hD
 simp -implicitDefEqProofs only[↓Zd,(Zp),Zr,simprocAttr,qP,Value.cells,cut,qC,cld2,(BBx),vA,e1,e4,e6,e7,e8,hbx,hm',hmm,ho,gv,hv0,wm,hjb3,c1,c2,decide_true,decide_false,Nat.mul_one,Nat.add_zero,Nat.zero_add,co32]
 refine effect_spec fun s4 x y l4 hx0 hx8 hy0 hy2=>?_
 have hD4:=hD.more l4
 have hbx4:=hD4.box
 have ho4:=hD4.out
 have hjb4:s4.at' j=some (.cells (us.flatMap actIC) 74 false):=(hD4.le.2 j hj).trans hjb
 by_cases hvx:v<x
 ·simp -implicitDefEqProofs only[↓Zd,(Zp),Zr,simprocAttr,qP,Value.cells,cut,qC,cld2,(BBx),vA,e1,e4,e6,e7,e8,hbx4,had,hmm,ho4,gv,hvx,decide_true,decide_false,Nat.mul_one,Nat.add_zero,Nat.zero_add,ord171]
  exact hR _ _ _ _ _ hD4.le
 by_cases hvd:c.d<v
 ·simp -implicitDefEqProofs only[↓Zd,(Zp),Zr,simprocAttr,qP,Value.cells,cut,qC,cld2,(BBx),vA,e1,e4,e6,e7,e8,hbx4,had,hmm,ho4,gv,hvx,hvd,decide_true,decide_false,Nat.mul_one,Nat.add_zero,Nat.zero_add,ord171]
  exact hR _ _ _ _ _ hD4.le
 simp -implicitDefEqProofs only[↓Zd,(Zp),Zr,simprocAttr,qP,Value.cells,cut,qC,cld2,(BBx),vA,e1,e4,e6,e7,e8,hbx4,had,hmm,ho4,gv,hvx,hvd,decide_true,decide_false,Nat.mul_one,Nat.add_zero,Nat.zero_add,ord171,co230]
 rw[← had]
 refine targets_spec (k:=m) hc (hi.le hD4.le) hm1 (by omega) fun s5 q n mm l l5 hq hl=>?_
 have n5:=l5.1
 have hD5:=hD4.more l5
 have hlt:∀ (i:Nat) (t:Int),l[i]?=some t→0≤t∧t≤4001:=by
  intro i t ht
  have hmem:=List.mem_of_getElem? ht
  rcases hl with rfl|⟨z,hz,z1,z2,hz3⟩|rfl
  ·cases hmem
  ·have:=hg z (List.mem_of_getElem? hz) z1 z2
   rcases hz3 with rfl|rfl
   ·rw[List.mem_singleton.1 hmem];omega
   ·simp only[List.mem_cons,List.not_mem_nil,or_false]at hmem
    rcases hmem with rfl|rfl<;>omega
  ·rw[List.mem_singleton.1 hmem];omega
 have hln:n=l.length:=by
  rcases hq with ⟨h1,_,h2⟩|⟨_,_,_,_,h2,_⟩
  ·rw[h1,h2];rfl
  ·exact h2
 have hl2:l.length≤2:=by
  rcases hl with rfl|⟨z,hz,z1,z2,rfl|rfl⟩|rfl<;>simp
 subst hln
 simp -implicitDefEqProofs only[↓Zd,(Zp),Zr,simprocAttr,qP,Value.cells,cut,qC,cld2,(BBx),vA,e1,e4,e6,e7,e8]
 refine wloop_inv hmix (fun fuel env s'=>env 1 = .pointer (some ⟨s.next,0,none⟩)∧env 4 = .slice (some ⟨s.next+1,0,none⟩) c.ins.length c.ins.length∧env 7 = .int .i64 (k:Int)∧env 8 = .int .i64 (m:Int)∧env 9 = .int .i64 x∧env 10 = .int .i64 y∧env 11 = .slice q l.length mm∧∃ (V:List Int) (i:Nat) (g:Bool),env 6 = .bool g∧env 12 = .int .i64 (i:Int)∧i≤l.length∧fuel=l.length - i∧DAt s s' c V∧V[m]?=some v∧s5.next≤s'.next∧∀ b,b<s5.next→b≠s.next+1→s'.at' b=s5.at' b) (l.length - 0) ⟨by simp only[upd_apply];simpa using e1,by simp only[upd_apply];simpa using e4,by simp only[upd_apply];simpa using e7,by simp only[upd_apply];simpa using e8,rfl,rfl,rfl,V,0,g,by simp only[upd_apply];simpa using e6,rfl,by omega,rfl,hD5,hv,Nat.le_refl _,fun _ _ _=>rfl⟩ ?_
 clear e1 e4 e6 e7 e8 hbx hbx4 ho ho4 gv
 rintro fuel env6 s6 ⟨e1,e4,e7,e8,e9,e10,e11,V,i,g,e6,e12,hi1,rfl,hD6,hv6,n6,k6⟩
 by_cases hil:i<l.length
 case neg =>
  have hi':¬ (i:Int)<(l.length:Int):=by omega
  simp -implicitDefEqProofs only[↓Zd,(Zp),Zr,simprocAttr,qP,Value.cells,cut,qC,cld2,(BBx),vA,e1,e4,e6,e7,e8,e9,e10,e11,e12,hi',wm]
  exact hgo hD6
 have hi':(i:Int)<(l.length:Int):=by omega
 have hii:(0:Int)≤(i:Int)∧(i:Int)<(l.length:Int):=by omega
 have wi:IntKind.i64.wrap ((i:Int)+1)=((i+1:Nat):Int):=by rw[wrap_i64 (by omega)];omega
 rcases hq with ⟨h1,_,_⟩|⟨b2,rfl,hb1,hb2,_,hb3⟩
 ·rw[h1]at hil;cases hil
 have hnx:=hD4.nx
 have hb6:s6.at' b2=some (.cells (l.map (Value.int .i64)) 3 true):=(k6 b2 hb2 (by omega)).trans hb3
 obtain⟨t,ht⟩:∃ t,l[i]?=some t:=⟨l[i]'hil,List.getElem?_eq_getElem _⟩
 have gt:(l.map (Value.int .i64))[i]?=some (.int .i64 t):=by rw[List.getElem?_map,ht];rfl
 obtain⟨t0,t1⟩:=hlt i t ht
 have hbx6:=hD6.box
 have ho6:=hD6.out
 have hvl6:=hD6.len
 have gv6:(V.map (Value.int .i64))[m]?=some (.int .i64 v):=by rw[List.getElem?_map,hv6];rfl
 have hjb6:s6.at' j=some (.cells (us.flatMap actIC) 74 false):=(hD6.le.2 j hj).trans hjb
 have w1:IntKind.i64.wrap (v - x)=v - x:=wrap_i64 (by omega)
 have w2:IntKind.i64.wrap (v - x+y)=v - x+y:=wrap_i64 (by omega)
 have w3:IntKind.i64.wrap (v - x+y+1)=v - x+y+1:=wrap_i64 (by omega)
 obtain⟨d,hdd,hstep⟩:∃ d:Int,(0≤d)∧(((i:Int)=1∧23<o∧d=v - x+y+1)∨((i:Int)=1∧¬ 23<o∧d=v - x+y)∨(¬ (i:Int)=1∧d=v - x+y)):=by
  by_cases h1:(i:Int)=1
  ·by_cases h2:23<o
   ·exact⟨v - x+y+1,by omega,.inl ⟨h1,h2,rfl⟩⟩
   ·exact⟨v - x+y,by omega,.inr (.inl ⟨h1,h2,rfl⟩)⟩
  ·exact⟨v - x+y,by omega,.inr (.inr ⟨h1,rfl⟩)⟩
 have wd:IntKind.i64.wrap d=d:=wrap_i64 (by rcases hstep with ⟨_,_,h⟩|⟨_,_,h⟩|⟨_,h⟩<;>omega)
 refine hstep.elim (fun ⟨s1',s2',s3'⟩=>?gA) fun hs=>hs.elim (fun ⟨s1',s2',s3'⟩=>?gB) fun ⟨s1',s3'⟩=>?gC
 case' gA =>
  have s1:=eq_true s1'
  simp -implicitDefEqProofs only[↓Zd,(Zp),Zr,simprocAttr,qP,Value.cells,cut,qC,cld2,(BBx),vA,e1,e4,e6,e7,e8,e9,e10,e11,e12,hi',hii,hbx6,had,hmm,ho6,gv6,hb6,gt,w1,w2,w3,wd,← s3',hjb6,c3,decide_true,decide_false,Nat.mul_one,Nat.add_zero,Nat.zero_add,ord171,s1,s2']
 case' gB =>
  have s1:=eq_true s1'
  simp -implicitDefEqProofs only[↓Zd,(Zp),Zr,simprocAttr,qP,Value.cells,cut,qC,cld2,(BBx),vA,e1,e4,e6,e7,e8,e9,e10,e11,e12,hi',hii,hbx6,had,hmm,ho6,gv6,hb6,gt,w1,w2,w3,wd,← s3',hjb6,c3,decide_true,decide_false,Nat.mul_one,Nat.add_zero,Nat.zero_add,ord171,s1,s2']
 case' gC =>
  have s1:decide ((i:Int)=1)=false:=decide_eq_false s1'
  simp -implicitDefEqProofs only[↓Zd,(Zp),Zr,simprocAttr,qP,Value.cells,cut,qC,cld2,(BBx),vA,e1,e4,e6,e7,e8,e9,e10,e11,e12,hi',hii,hbx6,had,hmm,ho6,gv6,hb6,gt,w1,w2,w3,wd,← s3',hjb6,c3,decide_true,decide_false,Nat.mul_one,Nat.add_zero,Nat.zero_add,ord171,s1]
 all_goals
  by_cases q1:(c.ins.length:Int)≤t
  ·simp -implicitDefEqProofs only[↓Zd,(Zp),Zr,simprocAttr,qP,Value.cells,cut,qC,cld2,(BBx),vA,e1,e4,e6,e7,e8,e9,e10,e11,e12,hi',hii,hbx6,had,hmm,ho6,gv6,hb6,gt,hjb6,c3,decide_true,decide_false,Nat.mul_one,Nat.add_zero,Nat.zero_add,ord171,q1]
   exact hR _ _ _ _ _ hD6.le
  by_cases q2:c.d<d
  ·simp -implicitDefEqProofs only[↓Zd,(Zp),Zr,simprocAttr,qP,Value.cells,cut,qC,cld2,(BBx),vA,e1,e4,e6,e7,e8,e9,e10,e11,e12,hi',hii,hbx6,had,hmm,ho6,gv6,hb6,gt,hjb6,c3,decide_true,decide_false,Nat.mul_one,Nat.add_zero,Nat.zero_add,ord171,q1,q2]
   exact hR _ _ _ _ _ hD6.le
  obtain⟨tn,rfl⟩:∃ tn:Nat,t=(tn:Int):=⟨t.toNat,by omega⟩
  obtain⟨u,hu⟩:∃ u,V[tn]?=some u:=⟨V[tn]'(by omega),List.getElem?_eq_getElem _⟩
  have gu:(V.map (Value.int .i64))[tn]?=some (.int .i64 u):=by rw[List.getElem?_map,hu];rfl
  have htt:(0:Int)≤(tn:Int)∧(tn:Int)<(c.ins.length:Int):=by omega
  have htl:tn+1≤(V.map (Value.int .i64)).length:=by rw[List.length_map];omega
  have hne:¬ s.next=s.next+1:=by omega
  have hstp:∀ g':Bool,tn≠m∨d=v→∃ m_1,m_1<l.length - i∧∃ (V_1:List Int) (i_1:Nat) (g_1:Bool),Value.bool g' = .bool g_1∧Value.int .i64 ((i+1:Nat):Int) = .int .i64 (i_1:Int)∧i_1≤l.length∧m_1=l.length - i_1∧DAt s (s6.put (s.next+1) (.cells ((V.map (Value.int .i64)).set tn (.int .i64 d)) 3 true)) c V_1∧V_1[m]?=some v∧s5.next≤(s6.put (s.next+1) (.cells ((V.map (Value.int .i64)).set tn (.int .i64 d)) 3 true)).next∧∀ b,b<s5.next→b≠s.next+1→(s6.put (s.next+1) (.cells ((V.map (Value.int .i64)).set tn (.int .i64 d)) 3 true)).at' b=s5.at' b:=fun g' hh=>by
   refine⟨l.length - (i+1),by omega,V.set tn d,i+1,g',rfl,rfl,by omega,rfl,hD6.set (by omega),?_,n6,fun b hb hbn=>by rw[St.at_put,if_neg hbn];exact k6 b hb hbn⟩
   rw[List.getElem?_set]
   split
   ·rename_i e
    rcases hh with hh|hh
    ·exact absurd e hh
    ·rw[if_pos (by omega),hh]
   ·exact hv6
  by_cases q3:0≤u
  ·have q4:¬ u<0:=by omega
   by_cases q5:u=d
   ·have q6:¬ d<0:=by omega
    simp -implicitDefEqProofs only[↓Zd,(Zp),Zr,simprocAttr,qP,Value.cells,cut,qC,cld2,(BBx),vA,e1,e4,e6,e7,e8,e9,e10,e11,e12,hi',hii,hbx6,had,hmm,ho6,gv6,hb6,gt,hjb6,c3,decide_true,decide_false,Nat.mul_one,Nat.add_zero,Nat.zero_add,ord171,q1,q2,hdd,q6,q5,gu,htt,htl,hne,wi]
    have hh:tn≠m∨d=v:=by
     by_cases e:tn=m
     ·refine .inr ?_
      subst e
      rw[hv6]at hu
      rw[← q5]
      exact (Option.some.inj hu).symm
     ·exact .inl e
    have h9:=hstp g hh
    simp only[St.next_put,St.at_put,ne_eq]at h9
    exact h9
   ·simp -implicitDefEqProofs only[↓Zd,(Zp),Zr,simprocAttr,qP,Value.cells,cut,qC,cld2,(BBx),vA,e1,e4,e6,e7,e8,e9,e10,e11,e12,hi',hii,hbx6,had,hmm,ho6,gv6,hb6,gt,hjb6,c3,decide_true,decide_false,Nat.mul_one,Nat.add_zero,Nat.zero_add,ord171,q1,q2,q3,q4,q5,gu,htt,htl,hne,wi]
    exact hR _ _ _ _ _ hD6.le
  ·have q4:u<0:=by omega
   simp -implicitDefEqProofs only[↓Zd,(Zp),Zr,simprocAttr,qP,Value.cells,cut,qC,cld2,(BBx),vA,e1,e4,e6,e7,e8,e9,e10,e11,e12,hi',hii,hbx6,had,hmm,ho6,gv6,hb6,gt,hjb6,c3,decide_true,decide_false,Nat.mul_one,Nat.add_zero,Nat.zero_add,ord171,q1,q2,q3,q4,gu,htt,htl,hne,wi]
   have h9:=hstp true (.inl fun e=>by
    subst e
    rw[hv6]at hu
    cases hu
    omega)
   simp only[St.next_put,St.at_put,ne_eq]at h9
   exact h9
end
section
theorem shape_abs5 {P : Program} {t : TypeId} {v : Value} {ops : Array Oper} {Q : Env → St M → Prop} {rest : List Oper} {env : Env} {d : Option Tmp} (l : List Nat) (h : ∀ env' : Env, (∀ i ∈ l, env' i = env i) → Cs.shape P t v fun v => wreg P w0 ops Q rest (wput env' d v) s) : Cs.shape P t v fun v => wreg P w0 ops Q rest (wput env d v) s := h env fun _ _ => rfl
def CodeGood (g : Int) (np : Nat) (c : CodeV) : Prop := (0 ≤ c.p ∧ c.p ≤ c.l ∧ c.l ≤ 24) ∧ c.ins.length ≤ 4000 ∧ ∀ (i : Nat) (x : AID), c.ins[i]? = some x → ArgOk g np c x.a0 x.a1
theorem cright_spec {g : Int} {pl cl : Option Addr} {cpp ccp f : Nat} {pool : List ByteArray} {C : List CodeV} {c : CodeV} (hP : PAt s pl pool cl C) (hf : C[f]? = some c) (hf2 : f ≤ 100) (hg : 0 ≤ g ∧ g ≤ 24)
    (hR : ∀ s' b, s.le s' → (b = true → CodeGood g pool.length c) → R (.bool b) s') :
    QC prog w0 81 #[.agg #[.int .i64 g, .slice pl pool.length cpp, .slice cl C.length ccp], .int .i64 (f : Int)] s R := by
  refine wfun2 hmix ok81 func81 rfl ntmps81 results81 (by simp) ?_
  have hfl : f < C.length := (List.getElem?_eq_some_iff.1 hf).1
  have hmem := List.mem_of_getElem? hf
  have hc := hP.ok c hmem
  have hi := hP.ins c hmem
  rcases hP.codes with h0 | ⟨jc, n, cc, rfl, hjc, hcb, hcl, hCn, hcc⟩
  · rw [h0] at hfl; cases hfl
  obtain ⟨d1, d2⟩ := rowsN_cut hcl (n := n) (i := f) (by omega)
  rw [hcc f c hf] at d2
  have d2 : List.take 5 (List.drop (f * 5) (rowsN cc n)) = [.int .i64 c.p, .int .i64 c.l, .int .i64 c.s, .int .i64 c.d, .slice c.ad c.ins.length c.cp] := d2
  have hff : (0 : Int) ≤ (f : Int) ∧ (f : Int) < (C.length : Int) := by omega
  have hjn : ¬ jc = s.next := by omega
  have hz := ze72
  have l1 : s.le (((s.new (.cells [.int .i64 g, .slice pl pool.length cpp, .slice (some ⟨jc, 0, none⟩) C.length ccp] 60 true)).new (.cells [.int .i64 0, .int .i64 0, .int .i64 0, .int .i64 0, .slice none 0 0] 72 true)).put (s.next + 1) (.cells [.int .i64 c.p, .int .i64 c.l, .int .i64 c.s, .int .i64 c.d, .slice c.ad c.ins.length c.cp] 72 true)) := (by repeat (first | exact lR _ | assumption | refine lN ?_ | refine lP ?_ (by first | omega | (simp only [(Sn)]; omega)) | refine lT ?_ (by assumption)))
  have hno : ∀ s', s.le s' → R (.bool false) s' := fun s' h => hR s' false h (fun h => Bool.noConfusion h)
  by_cases r0 : c.p < 0
  · simp -implicitDefEqProofs only [↓Zd, (Zp), Zr, simprocAttr, qP, Value.cells, cut, qC, cld2, (BBx), vA, hcb, hjn, d1, d2, hff, Nat.add_zero, Nat.zero_add, decide_true, decide_false, hz, r0]
    exact hno _ l1
  by_cases r1 : 6 < c.p
  · simp -implicitDefEqProofs only [↓Zd, (Zp), Zr, simprocAttr, qP, Value.cells, cut, qC, cld2, (BBx), vA, hcb, hjn, d1, d2, hff, Nat.add_zero, Nat.zero_add, decide_true, decide_false, hz, r0, r1]
    exact hno _ l1
  by_cases r2 : c.l < c.p
  · simp -implicitDefEqProofs only [↓Zd, (Zp), Zr, simprocAttr, qP, Value.cells, cut, qC, cld2, (BBx), vA, hcb, hjn, d1, d2, hff, Nat.add_zero, Nat.zero_add, decide_true, decide_false, hz, r0, r1, r2]
    exact hno _ l1
  by_cases r3 : 24 < c.l
  · simp -implicitDefEqProofs only [↓Zd, (Zp), Zr, simprocAttr, qP, Value.cells, cut, qC, cld2, (BBx), vA, hcb, hjn, d1, d2, hff, Nat.add_zero, Nat.zero_add, decide_true, decide_false, hz, r0, r1, r2, r3]
    exact hno _ l1
  by_cases r4 : c.s < 0
  · simp -implicitDefEqProofs only [↓Zd, (Zp), Zr, simprocAttr, qP, Value.cells, cut, qC, cld2, (BBx), vA, hcb, hjn, d1, d2, hff, Nat.add_zero, Nat.zero_add, decide_true, decide_false, hz, r0, r1, r2, r3, r4]
    exact hno _ l1
  by_cases r5 : 4000 < c.s
  · simp -implicitDefEqProofs only [↓Zd, (Zp), Zr, simprocAttr, qP, Value.cells, cut, qC, cld2, (BBx), vA, hcb, hjn, d1, d2, hff, Nat.add_zero, Nat.zero_add, decide_true, decide_false, hz, r0, r1, r2, r3, r4, r5]
    exact hno _ l1
  by_cases r6 : c.d < 0
  · simp -implicitDefEqProofs only [↓Zd, (Zp), Zr, simprocAttr, qP, Value.cells, cut, qC, cld2, (BBx), vA, hcb, hjn, d1, d2, hff, Nat.add_zero, Nat.zero_add, decide_true, decide_false, hz, r0, r1, r2, r3, r4, r5, r6]
    exact hno _ l1
  by_cases r7 : 64 < c.d
  · simp -implicitDefEqProofs only [↓Zd, (Zp), Zr, simprocAttr, qP, Value.cells, cut, qC, cld2, (BBx), vA, hcb, hjn, d1, d2, hff, Nat.add_zero, Nat.zero_add, decide_true, decide_false, hz, r0, r1, r2, r3, r4, r5, r6, r7]
    exact hno _ l1
  by_cases r8 : (c.ins.length : Int) < 1
  · simp -implicitDefEqProofs only [↓Zd, (Zp), Zr, simprocAttr, qP, Value.cells, cut, qC, cld2, (BBx), vA, hcb, hjn, d1, d2, hff, Nat.add_zero, Nat.zero_add, decide_true, decide_false, hz, r0, r1, r2, r3, r4, r5, r6, r7, r8]
    exact hno _ l1
  by_cases r9 : 4000 < (c.ins.length : Int)
  · simp -implicitDefEqProofs only [↓Zd, (Zp), Zr, simprocAttr, qP, Value.cells, cut, qC, cld2, (BBx), vA, hcb, hjn, d1, d2, hff, Nat.add_zero, Nat.zero_add, decide_true, decide_false, hz, r0, r1, r2, r3, r4, r5, r6, r7, r8, r9]
    exact hno _ l1
  by_cases r10 : (f : Int) = 0 ∧ 0 < c.l
  · obtain ⟨r11, r12⟩ := r10
    have r11 := eq_true r11
    simp -implicitDefEqProofs only [↓Zd, (Zp), Zr, simprocAttr, qP, Value.cells, cut, qC, cld2, (BBx), vA, hcb, hjn, d1, d2, hff, Nat.add_zero, Nat.zero_add, decide_true, decide_false, hz, r0, r1, r2, r3, r4, r5, r6, r7, r8, r9, r11, r12]
    exact hno _ l1
  have k2 : (((s.new (.cells [.int .i64 g, .slice pl pool.length cpp, .slice (some ⟨jc, 0, none⟩) C.length ccp] 60 true)).new (.cells [.int .i64 0, .int .i64 0, .int .i64 0, .int .i64 0, .slice none 0 0] 72 true)).put (s.next + 1) (.cells [.int .i64 c.p, .int .i64 c.l, .int .i64 c.s, .int .i64 c.d, .slice c.ad c.ins.length c.cp] 72 true)).at' s.next = some (.cells [.int .i64 g, .slice pl pool.length cpp, .slice (some ⟨jc, 0, none⟩) C.length ccp] 60 true) := by
    rw [St.at_put, if_neg (by omega), St.at_new, if_neg (by simp only [St.next_new]; omega), St.at_new, if_pos rfl]
  have k5 : (((s.new (.cells [.int .i64 g, .slice pl pool.length cpp, .slice (some ⟨jc, 0, none⟩) C.length ccp] 60 true)).new (.cells [.int .i64 0, .int .i64 0, .int .i64 0, .int .i64 0, .slice none 0 0] 72 true)).put (s.next + 1) (.cells [.int .i64 c.p, .int .i64 c.l, .int .i64 c.s, .int .i64 c.d, .slice c.ad c.ins.length c.cp] 72 true)).at' (s.next + 1) = some (.cells [.int .i64 c.p, .int .i64 c.l, .int .i64 c.s, .int .i64 c.d, .slice c.ad c.ins.length c.cp] 72 true) := by
    rw [St.at_put, if_pos rfl]
  have n2 : (((s.new (.cells [.int .i64 g, .slice pl pool.length cpp, .slice (some ⟨jc, 0, none⟩) C.length ccp] 60 true)).new (.cells [.int .i64 0, .int .i64 0, .int .i64 0, .int .i64 0, .slice none 0 0] 72 true)).put (s.next + 1) (.cells [.int .i64 c.p, .int .i64 c.l, .int .i64 c.s, .int .i64 c.d, .slice c.ad c.ins.length c.cp] 72 true)).next = s.next + 2 := rfl
  rcases (show (¬ (f : Int) = 0) ∨ ((f : Int) = 0 ∧ ¬ 0 < c.l) by omega) with r11 | ⟨r11, r12⟩
  case' inl =>
    have r11 := eq_false r11
    simp -implicitDefEqProofs only [↓Zd, (Zp), Zr, simprocAttr, qP, Value.cells, cut, qC, cld2, (BBx), vA, hcb, hjn, d1, d2, hff, Nat.add_zero, Nat.zero_add, decide_true, decide_false, hz, r0, r1, r2, r3, r4, r5, r6, r7, r8, r9, r11]
  case' inr =>
    have r11 := eq_true r11
    simp -implicitDefEqProofs only [↓Zd, (Zp), Zr, simprocAttr, qP, Value.cells, cut, qC, cld2, (BBx), vA, hcb, hjn, d1, d2, hff, Nat.add_zero, Nat.zero_add, decide_true, decide_false, hz, r0, r1, r2, r3, r4, r5, r6, r7, r8, r9, r11, r12]
  all_goals
    generalize (((s.new (.cells [.int .i64 g, .slice pl pool.length cpp, .slice (some ⟨jc, 0, none⟩) C.length ccp] 60 true)).new (.cells [.int .i64 0, .int .i64 0, .int .i64 0, .int .i64 0, .slice none 0 0] 72 true)).put (s.next + 1) (.cells [.int .i64 c.p, .int .i64 c.l, .int .i64 c.s, .int .i64 c.d, .slice c.ad c.ins.length c.cp] 72 true)) = s2 at l1 k2 k5 n2 ⊢
    refine wloop_inv hmix (fun fuel env s' => env 2 = .pointer (some ⟨s.next, 0, none⟩) ∧ env 5 = .pointer (some ⟨s.next + 1, 0, none⟩) ∧ ∃ k : Nat, env 6 = .int .i64 (k : Int) ∧ k ≤ c.ins.length ∧ fuel = c.ins.length - k ∧ s2.le s' ∧ ∀ i, i < k → ∀ x, c.ins[i]? = some x → ArgOk g pool.length c x.a0 x.a1) (c.ins.length - 0) ⟨rfl, rfl, 0, rfl, Nat.zero_le _, rfl, lR _, fun i hi => absurd hi (Nat.not_lt_zero _)⟩ ?_
    rintro fuel env s3 ⟨e2, e5, k, e6, hk, rfl, l3, hgo⟩
    have n3 := l3.1
    have k23 := (l3.2 s.next (by omega)).trans k2
    have k53 := (l3.2 (s.next + 1) (by omega)).trans k5
    have l13 := lT l1 l3
    by_cases hk1 : k < c.ins.length
    case neg =>
      have hk' : ¬ (k : Int) < (c.ins.length : Int) := by omega
      simp -implicitDefEqProofs only [↓Zd, (Zp), Zr, simprocAttr, qP, Value.cells, cut, qC, cld2, (BBx), vA, e2, e5, e6, k23, k53, hk', Nat.add_zero, Nat.zero_add, co171]
      refine depths_spec hc (hi.le l13) (by omega) (by omega) (by omega) (fun x hx h1 h2 => ?_) fun s4 q n m b l4 => ?_
      · obtain ⟨i, hix⟩ := List.getElem?_of_mem hx
        exact (hgo i (by have := (List.getElem?_eq_some_iff.1 hix).1; omega) x hix).2.1 h1 h2
      simp -implicitDefEqProofs only [↓Zd, (Zp), Zr, simprocAttr, qP, Value.cells, cut, qC, cld2, (BBx), vA, Nat.add_zero, Nat.zero_add]
      exact hR _ _ (lT l13 l4) fun _ => ⟨⟨by omega, by omega, by omega⟩, by omega, fun i x hix => hgo i (by have := (List.getElem?_eq_some_iff.1 hix).1; omega) x hix⟩
    have hk' : (k : Int) < (c.ins.length : Int) := by omega
    have hkk : (0 : Int) ≤ (k : Int) ∧ (k : Int) < (c.ins.length : Int) := by omega
    have wk : IntKind.i64.wrap ((k : Int) + 1) = ((k + 1 : Nat) : Int) := by rw [wrap_i64 (by omega)]; omega
    rcases id hi with h0 | ⟨j, us, had, hj, hjb, hus⟩
    · rw [h0] at hk1; cases hk1
    have hx : c.ins[k]? = some c.ins[k] := List.getElem?_eq_getElem hk1
    generalize c.ins[k] = x at hx
    have hux : us[k]? = some x := by rw [hus k hk1]; exact hx
    obtain ⟨c1, c2⟩ := actsI_cut us k x hux
    obtain ⟨o, a, b⟩ := x
    have c2 : List.take 3 (List.drop (k * 3) (us.flatMap actIC)) = [.int .i64 o, .int .i64 a, .int .i64 b] := c2
    have hjb3 : s3.at' j = some (.cells (us.flatMap actIC) 74 false) := (l13.2 j hj).trans hjb
    have hjn3 : ¬ j = s3.next := by omega
    have hm1 : ¬ s.next = s3.next := by omega
    have hm2 : ¬ s.next + 1 = s3.next := by omega
    have hzi := ze74
    have l4 : s3.le ((s3.new (.cells [.int .i64 0, .int .i64 0, .int .i64 0] 74 true)).put s3.next (.cells [.int .i64 o, .int .i64 a, .int .i64 b] 74 true)) := (by repeat (first | exact lR _ | assumption | refine lN ?_ | refine lP ?_ (by first | omega | (simp only [(Sn)]; omega)) | refine lT ?_ (by assumption)))
    have k7 : ((s3.new (.cells [.int .i64 0, .int .i64 0, .int .i64 0] 74 true)).put s3.next (.cells [.int .i64 o, .int .i64 a, .int .i64 b] 74 true)).at' s3.next = some (.cells [.int .i64 o, .int .i64 a, .int .i64 b] 74 true) := by rw [St.at_put, if_pos rfl]
    have n4 : ((s3.new (.cells [.int .i64 0, .int .i64 0, .int .i64 0] 74 true)).put s3.next (.cells [.int .i64 o, .int .i64 a, .int .i64 b] 74 true)).next = s3.next + 1 := rfl
    have hnx : ∀ {s' : St M}, s2.le s' → ArgOk g pool.length c o a → ∃ m, m < c.ins.length - k ∧ ∃ k' : Nat, Value.int .i64 ((k + 1 : Nat) : Int) = .int .i64 (k' : Int) ∧ k' ≤ c.ins.length ∧ m = c.ins.length - k' ∧ s2.le s' ∧ ∀ i, i < k' → ∀ x, c.ins[i]? = some x → ArgOk g pool.length c x.a0 x.a1 := fun {s'} h1 h2 => ⟨c.ins.length - (k + 1), by omega, k + 1, rfl, by omega, rfl, h1, fun i hi x hix => by
      by_cases e : i = k
      · subst e
        rw [hx] at hix
        cases hix
        exact h2
      · exact hgo i (by omega) x hix⟩
    have hop : o = 13 ∨ o = 14 ∨ o = 15 ∨ o = 27 ∨ (¬ o = 13 ∧ ¬ o = 14 ∧ ¬ o = 15 ∧ ¬ o = 27) := by omega
    rcases hop with rfl | rfl | rfl | rfl | ⟨p1, p2, p3, p4⟩
    all_goals (first | (simp -implicitDefEqProofs only [↓Zd, (Zp), Zr, simprocAttr, qP, Value.cells, cut, qC, cld2, (BBx), vA, e2, e5, e6, k23, k53, hk', hkk, had, hjb3, hjn3, hm1, hm2, c1, c2, hzi, decide_true, decide_false, Nat.add_zero, Nat.zero_add, co169, p1, p2, p3, p4]) | (simp -implicitDefEqProofs only [↓Zd, (Zp), Zr, simprocAttr, qP, Value.cells, cut, qC, cld2, (BBx), vA, e2, e5, e6, k23, k53, hk', hkk, had, hjb3, hjn3, hm1, hm2, c1, c2, hzi, decide_true, decide_false, Nat.add_zero, Nat.zero_add, co169]))
    all_goals
      have l24 := lT l3 l4
      rw [← had]
      refine arg_spec hc hP.plen hP.clen hg fun s5 r l5 hr => ?_
      refine shape_abs5 [2, 5, 6, 7, 8] fun env7 he => ?_
      have t2 : env7 2 = .pointer (some ⟨s.next, 0, none⟩) := (he 2 (by simp)).trans e2
      have t5 : env7 5 = .pointer (some ⟨s.next + 1, 0, none⟩) := (he 5 (by simp)).trans e5
      have t6 : env7 6 = .int .i64 (k : Int) := (he 6 (by simp)).trans e6
      have t7 : env7 7 = .pointer (some ⟨s3.next, 0, none⟩) := he 7 (by simp)
      have t8 : env7 8 = .bool _ := he 8 (by simp)
      clear he
      have n5 := l5.1
      have l25 := lT l24 l5
      have k25 := (l25.2 s.next (by omega)).trans k2
      have k55 := (l25.2 (s.next + 1) (by omega)).trans k5
      have k75 := (l5.2 s3.next (by omega)).trans k7
      cases r with
      | false =>
        simp -implicitDefEqProofs only [↓Zd, (Zp), Zr, simprocAttr, qP, Value.cells, cut, qC, cld2, (BBx), vA, t2, t5, t6, t7, t8, k25, k55, k75, decide_true, decide_false, Nat.add_zero, Nat.zero_add]
        exact hno _ (lT l1 l25)
      | true =>
        have hr := hr rfl
        simp -implicitDefEqProofs only [↓Zd, (Zp), Zr, simprocAttr, qP, Value.cells, cut, qC, cld2, (BBx), vA, t2, t5, t6, t7, t8, k25, k55, k75, decide_true, decide_false, Nat.add_zero, Nat.zero_add, co170]
        repeat' (first | (refine g3_split (fun h => ?_) (fun h => ?_) <;> simp -implicitDefEqProofs only [↓Zd, (Zp), Zr, simprocAttr, qP, Value.cells, cut, qC, cld2, (BBx), vA, t2, t5, t6, t7, t8, k25, k55, k75, decide_true, decide_false, Nat.add_zero, Nat.zero_add, co170]) | (refine c2_split (fun h => ?_) (fun h => ?_) <;> simp -implicitDefEqProofs only [↓Zd, (Zp), Zr, simprocAttr, qP, Value.cells, cut, qC, cld2, (BBx), vA, t2, t5, t6, t7, t8, k25, k55, k75, decide_true, decide_false, Nat.add_zero, Nat.zero_add, co170]))
        all_goals
          first
            | exact hno _ (lT l1 l25)
            | (refine goes_spec fun gg hgg => ?_
               cases gg with
               | false =>
                 simp -implicitDefEqProofs only [↓Zd, (Zp), Zr, simprocAttr, qP, Value.cells, cut, qC, cld2, (BBx), vA, t2, t5, t6, t7, t8, k25, k55, k75, decide_true, decide_false, Nat.add_zero, Nat.zero_add, wk]
                 exact hnx l25 hr
               | true =>
                 first
                   | (exfalso; have := hgg.1 rfl; omega)
                   | (obtain ⟨ha0, hal⟩ := hr.2.1 (hgg.1 rfl).1 (hgg.1 rfl).2
                      by_cases hak : a ≤ (k : Int)
                      · obtain ⟨an, rfl⟩ : ∃ an : Nat, a = (an : Int) := ⟨a.toNat, by omega⟩
                        have hx2 : c.ins[an]? = some (c.ins[an]'(by omega)) := List.getElem?_eq_getElem _
                        generalize c.ins[an]'(by omega) = x2 at hx2
                        have hux2 : us[an]? = some x2 := by rw [hus an (by omega)]; exact hx2
                        obtain ⟨_, c22⟩ := actsI_cut us an x2 hux2
                        obtain ⟨o2, a2, b2⟩ := x2
                        have c22 : List.take 3 (List.drop (an * 3) (us.flatMap actIC)) = [.int .i64 o2, .int .i64 a2, .int .i64 b2] := c22
                        have c32 : (us.flatMap actIC)[an * 3]? = some (.int .i64 o2) := by
                          have := congrArg (·[0]?) c22
                          simpa [List.getElem?_take, List.getElem?_drop] using this
                        have haa : (0 : Int) ≤ (an : Int) ∧ (an : Int) < (c.ins.length : Int) := by omega
                        have hjb5 : s5.at' j = some (.cells (us.flatMap actIC) 74 false) := ((lT l1 l25).2 j hj).trans hjb
                        by_cases h1 : o2 = 1
                        · simp -implicitDefEqProofs only [↓Zd, (Zp), Zr, simprocAttr, qP, Value.cells, cut, qC, cld2, (BBx), vA, t2, t5, t6, t7, t8, k25, k55, k75, decide_true, decide_false, Nat.add_zero, Nat.zero_add, wk, hak, had, haa, hjb5, c32, h1]
                          exact hnx l25 hr
                        · simp -implicitDefEqProofs only [↓Zd, (Zp), Zr, simprocAttr, qP, Value.cells, cut, qC, cld2, (BBx), vA, t2, t5, t6, t7, t8, k25, k55, k75, decide_true, decide_false, Nat.add_zero, Nat.zero_add, wk, hak, had, haa, hjb5, c32, h1]
                          exact hno _ (lT l1 l25)
                      · simp -implicitDefEqProofs only [↓Zd, (Zp), Zr, simprocAttr, qP, Value.cells, cut, qC, cld2, (BBx), vA, t2, t5, t6, t7, t8, k25, k55, k75, decide_true, decide_false, Nat.add_zero, Nat.zero_add, wk, hak]
                        exact hnx l25 hr))
end
section
variable {g:Int}{pl cl:Option Addr}{cpp ccp:Nat}{pool:List ByteArray}{C:List CodeV}
theorem few_spec(hP:PAt s pl pool cl C)(hR:∀ s' b,s.le s'→R (.bool b) s') :
  QC prog w0 27 #[.agg #[.int .i64 g,.slice pl pool.length cpp,.slice cl C.length ccp],.int .i64 400] s R:=by
 refine wfun2 hmix ok27 func27 rfl ntmps27 results27 (by simp) ?_
 have l1:s.le (s.new (.cells [.int .i64 g,.slice pl pool.length cpp,.slice cl C.length ccp] 60 true)):=lN (lR _)
 have k2:(s.new (.cells [.int .i64 g,.slice pl pool.length cpp,.slice cl C.length ccp] 60 true)).at' s.next=some (.cells [.int .i64 g,.slice pl pool.length cpp,.slice cl C.length ccp] 60 true):=by rw[St.at_new,if_pos rfl]
 by_cases r1:40<(C.length:Int)
 ·simp -implicitDefEqProofs only[↓Zd,(Zp),Zr,simprocAttr,qP,Value.cells,cut,qC,cld2,(BBx),vA,r1,Nat.zero_add,Nat.add_zero,decide_true]
  exact hR _ _ l1
 by_cases r2:130<(pool.length:Int)
 ·simp -implicitDefEqProofs only[↓Zd,(Zp),Zr,simprocAttr,qP,Value.cells,cut,qC,cld2,(BBx),vA,r1,r2,Nat.zero_add,Nat.add_zero,decide_true,decide_false]
  exact hR _ _ l1
 simp -implicitDefEqProofs only[↓Zd,(Zp),Zr,simprocAttr,qP,Value.cells,cut,qC,cld2,(BBx),vA,r1,r2,Nat.zero_add,Nat.add_zero,decide_true,decide_false]
 generalize s.new (.cells [.int .i64 g,.slice pl pool.length cpp,.slice cl C.length ccp] 60 true)=s1 at l1 k2 ⊢
 refine wloop_inv hmix (fun fuel env s'=>s'=s1∧env 2 = .pointer (some ⟨s.next,0,none⟩)∧∃ (k:Nat) (m:Int),env 5 = .int .i64 (k:Int)∧env 1 = .int .i64 m∧0≤m∧m≤400∧k≤C.length∧fuel=C.length - k) (C.length - 0) ⟨rfl,rfl,0,400,rfl,rfl,by omega,by omega,Nat.zero_le _,rfl⟩ ?_
 rintro fuel env s3 ⟨rfl,e2,k,m,e5,e1,hm0,hm4,hk,rfl⟩
 by_cases hk1:k<C.length
 case neg =>
  have hk':¬ (k:Int)<(C.length:Int):=by omega
  simp -implicitDefEqProofs only[↓Zd,(Zp),Zr,simprocAttr,qP,Value.cells,cut,qC,cld2,(BBx),vA,e1,e2,e5,k2,hk',Nat.zero_add,Nat.add_zero]
  exact hR _ _ l1
 have hk':(k:Int)<(C.length:Int):=by omega
 have hkk:(0:Int)≤(k:Int)∧(k:Int)<(C.length:Int):=by omega
 have wk:IntKind.i64.wrap ((k:Int)+1)=((k+1:Nat):Int):=by rw[wrap_i64 (by omega)];omega
 have hc:C[k]?=some C[k]:=List.getElem?_eq_getElem hk1
 generalize C[k]=c at hc
 rcases hP.codes with h0|⟨jc,n,cc,rfl,hjc,hcb,hcl,hCn,hcc⟩
 ·rw[h0]at hk1;cases hk1
 have d4:(rowsN cc n)[k*5+4]?=some (.slice c.ad c.ins.length c.cp):=by
  rw[rowsN_get hcl (by omega) (by omega),hcc k c hc];rfl
 have hcb3:s3.at' jc=some (.cells (rowsN cc n) 72 false):=(l1.2 jc hjc).trans hcb
 by_cases hlm:m<(c.ins.length:Int)
 ·simp -implicitDefEqProofs only[↓Zd,(Zp),Zr,simprocAttr,qP,Value.cells,cut,qC,cld2,(BBx),vA,e1,e2,e5,k2,hk',hkk,hcb3,d4,hm0,hlm,Nat.zero_add,Nat.add_zero,decide_true]
  exact hR _ _ l1
 have wm:IntKind.i64.wrap (m - (c.ins.length:Int))=m - (c.ins.length:Int):=wrap_i64 (by omega)
 simp -implicitDefEqProofs only[↓Zd,(Zp),Zr,simprocAttr,qP,Value.cells,cut,qC,cld2,(BBx),vA,e1,e2,e5,k2,hk',hkk,hcb3,d4,hm0,hlm,wk,wm,Nat.zero_add,Nat.add_zero,decide_true,decide_false]
 exact⟨C.length - (k+1),by omega,k+1,m - (c.ins.length:Int),rfl,rfl,by omega,by omega,by omega,rfl⟩
theorem check_spec(hP:PAt s pl pool cl C)(hR:∀ s' e,s.le s'→(e=0→(0≤g∧g≤24)∧1≤C.length∧∀ c∈C,CodeGood g pool.length c)→R (.int .i64 e) s') :
  QC prog w0 28 #[.agg #[.int .i64 g,.slice pl pool.length cpp,.slice cl C.length ccp]] s R:=by
 refine wfun2 hmix ok28 func28 rfl ntmps28 results28 (by simp) ?_
 have l1:s.le (s.new (.cells [.int .i64 g,.slice pl pool.length cpp,.slice cl C.length ccp] 60 true)):=lN (lR _)
 have k1:(s.new (.cells [.int .i64 g,.slice pl pool.length cpp,.slice cl C.length ccp] 60 true)).at' s.next=some (.cells [.int .i64 g,.slice pl pool.length cpp,.slice cl C.length ccp] 60 true):=by rw[St.at_new,if_pos rfl]
 have n1:(s.new (.cells [.int .i64 g,.slice pl pool.length cpp,.slice cl C.length ccp] 60 true)).next=s.next+1:=rfl
 have hno:∀ s',s.le s'→R (.int .i64 16) s':=fun s' h=>hR s' 16 h (fun h=>absurd h (by decide))
 by_cases r1:g<0
 ·simp -implicitDefEqProofs only[↓Zd,(Zp),Zr,simprocAttr,qP,Value.cells,cut,qC,cld2,(BBx),vA,r1,Nat.zero_add,Nat.add_zero,decide_true]
  exact hno _ l1
 by_cases r2:24<g
 ·simp -implicitDefEqProofs only[↓Zd,(Zp),Zr,simprocAttr,qP,Value.cells,cut,qC,cld2,(BBx),vA,r1,r2,Nat.zero_add,Nat.add_zero,decide_true,decide_false]
  exact hno _ l1
 by_cases r3:(C.length:Int)<1
 ·simp -implicitDefEqProofs only[↓Zd,(Zp),Zr,simprocAttr,qP,Value.cells,cut,qC,cld2,(BBx),vA,r1,r2,r3,Nat.zero_add,Nat.add_zero,decide_true,decide_false]
  exact hno _ l1
 by_cases r4:32<(C.length:Int)
 ·simp -implicitDefEqProofs only[↓Zd,(Zp),Zr,simprocAttr,qP,Value.cells,cut,qC,cld2,(BBx),vA,r1,r2,r3,r4,Nat.zero_add,Nat.add_zero,decide_true,decide_false]
  exact hno _ l1
 by_cases r5:120<(pool.length:Int)
 ·simp -implicitDefEqProofs only[↓Zd,(Zp),Zr,simprocAttr,qP,Value.cells,cut,qC,cld2,(BBx),vA,r1,r2,r3,r4,r5,Nat.zero_add,Nat.add_zero,decide_true,decide_false]
  exact hno _ l1
 simp -implicitDefEqProofs only[↓Zd,(Zp),Zr,simprocAttr,qP,Value.cells,cut,qC,cld2,(BBx),vA,r1,r2,r3,r4,r5,Nat.zero_add,Nat.add_zero,decide_true,decide_false]
 generalize s.new (.cells [.int .i64 g,.slice pl pool.length cpp,.slice cl C.length ccp] 60 true)=s1 at l1 k1 n1 ⊢
 refine wloop_inv hmix (fun fuel env s'=>s'=s1∧env 1 = .pointer (some ⟨s.next,0,none⟩)∧∃ k:Nat,env 3 = .int .i64 (k:Int)∧k≤pool.length∧fuel=pool.length - k) (pool.length - 0) ⟨rfl,rfl,0,rfl,Nat.zero_le _,rfl⟩ ?_
 rintro fuel env s3 ⟨rfl,e1,k,e3,hk,rfl⟩
 by_cases hk1:k<pool.length
 case pos =>
  have hk':(k:Int)<(pool.length:Int):=by omega
  have hkk:(0:Int)≤(k:Int)∧(k:Int)<(pool.length:Int):=by omega
  have wk:IntKind.i64.wrap ((k:Int)+1)=((k+1:Nat):Int):=by rw[wrap_i64 (by omega)];omega
  have hx:pool[k]?=some pool[k]:=List.getElem?_eq_getElem hk1
  generalize pool[k]=x at hx
  rcases hP.strs with h0|⟨j,us,rfl,hj,hjb,hus⟩
  ·rw[h0]at hk1;cases hk1
  have d0:(us.flatMap strC)[k]?=some (.string x):=by
   have e:us.flatMap strC=us.map Value.string:=by
    clear hjb hus
    induction us with
    |nil=>rfl
    |cons y l ih=>rw[List.flatMap_cons,ih];rfl
   rw[e,List.getElem?_map,hus k hk1,hx];rfl
  have hjb3:s3.at' j=some (.cells (us.flatMap strC) 9 false):=(l1.2 j hj).trans hjb
  by_cases hxl:(256:Int)<(x.size:Int)
  ·simp -implicitDefEqProofs only[↓Zd,(Zp),Zr,simprocAttr,qP,Value.cells,cut,qC,cld2,(BBx),vA,e1,e3,k1,hk',hkk,hjb3,d0,hxl,Nat.mul_one,Nat.zero_add,Nat.add_zero,decide_true]
   exact hno _ l1
  ·simp -implicitDefEqProofs only[↓Zd,(Zp),Zr,simprocAttr,qP,Value.cells,cut,qC,cld2,(BBx),vA,e1,e3,k1,hk',hkk,hjb3,d0,hxl,wk,Nat.mul_one,Nat.zero_add,Nat.add_zero,decide_false]
   exact⟨pool.length - (k+1),by omega,k+1,rfl,by omega,rfl⟩
 have hk':¬ (k:Int)<(pool.length:Int):=by omega
 simp -implicitDefEqProofs only[↓Zd,(Zp),Zr,simprocAttr,qP,Value.cells,cut,qC,cld2,(BBx),vA,e1,e3,k1,hk',Nat.zero_add,Nat.add_zero]
 refine wloop_inv hmix (fun fuel env s'=>env 1 = .pointer (some ⟨s.next,0,none⟩)∧∃ k:Nat,env 4 = .int .i64 (k:Int)∧k≤C.length∧fuel=C.length - k∧s3.le s'∧∀ i,i<k→∀ c,C[i]?=some c→CodeGood g pool.length c) (C.length - 0) ⟨by simp only[upd_apply];simpa using e1,0,rfl,Nat.zero_le _,rfl,lR _,fun i hi=>absurd hi (Nat.not_lt_zero _)⟩ ?_
 clear e1 e3 hk hk1 hk' k env
 rintro fuel env s4 ⟨e1,k,e4,hk,rfl,l4,hgo⟩
 have k14:=(l4.2 s.next (by omega)).trans k1
 have l14:=lT l1 l4
 by_cases hk1:k<C.length
 case neg =>
  have hk':¬ (k:Int)<(C.length:Int):=by omega
  simp -implicitDefEqProofs only[↓Zd,(Zp),Zr,simprocAttr,qP,Value.cells,cut,qC,cld2,(BBx),vA,e1,e4,k14,hk',Nat.zero_add,Nat.add_zero]
  refine hR _ _ l14 fun _=>⟨by omega,by omega,fun c hc=>?_⟩
  obtain⟨i,hi⟩:=List.getElem?_of_mem hc
  exact hgo i (by have:=(List.getElem?_eq_some_iff.1 hi).1;omega) c hi
 have hk':(k:Int)<(C.length:Int):=by omega
 have wk:IntKind.i64.wrap ((k:Int)+1)=((k+1:Nat):Int):=by rw[wrap_i64 (by omega)];omega
 have hc:C[k]?=some C[k]:=List.getElem?_eq_getElem hk1
 generalize C[k]=c at hc
 simp -implicitDefEqProofs only[↓Zd,(Zp),Zr,simprocAttr,qP,Value.cells,cut,qC,cld2,(BBx),vA,e1,e4,k14,hk',Nat.zero_add,Nat.add_zero,co81]
 refine cright_spec (hP.le l14) hc (by omega) (by omega) fun s5 b l5 hb=>?_
 cases b with
 |false =>
  simp -implicitDefEqProofs only[↓Zd,(Zp),Zr,simprocAttr,qP,Value.cells,cut,qC,cld2,(BBx),vA,e1,e4]
  exact hno _ (lT l14 l5)
 |true =>
  simp -implicitDefEqProofs only[↓Zd,(Zp),Zr,simprocAttr,qP,Value.cells,cut,qC,cld2,(BBx),vA,e1,e4,wk]
  refine⟨C.length - (k+1),by omega,k+1,rfl,by omega,rfl,lT l4 l5,fun i hi c2 hc2=>?_⟩
  by_cases e:i=k
  ·subst e
   rw[hc]at hc2
   cases hc2
   exact hb rfl
  ·exact hgo i (by omega) c2 hc2
end
def TAx:=(And.intro (And.intro (And.intro (And.intro (And.intro (And.intro (And.intro @underlying90 @sz90) (And.intro @is90 @ce90)) (And.intro (And.intro @ag90 @ze90) (And.intro @fa90x0 @fa90x1))) (And.intro (And.intro (And.intro @fa90x2 @fa90x3) (And.intro @fa90x4 @fa90x5)) (And.intro (And.intro @fa90x6 @fa90x7) (And.intro @fa90x8 @fa90x9)))) (And.intro (And.intro (And.intro (And.intro @fa90x10 @fa90x11) (And.intro @underlying25 @sz25)) (And.intro (And.intro @is25 @ce25) (And.intro @ag25 @ze25))) (And.intro (And.intro (And.intro @nt25 @nn25) (And.intro @nf25 @ng25)) (And.intro (And.intro @underlying193 @sz193) (And.intro @is193 @ce193))))) (And.intro (And.intro (And.intro (And.intro (And.intro @ag193 @ze193) (And.intro @fa193x0 @fa193x1)) (And.intro (And.intro @fa193x2 @underlying78) (And.intro @sz78 @is78))) (And.intro (And.intro (And.intro @ce78 @ag78) (And.intro @ze78 @nt78)) (And.intro (And.intro @nn78 @nf78) (And.intro @ng78 @underlying24)))) (And.intro (And.intro (And.intro (And.intro @sz24 @is24) (And.intro @ce24 @ag24)) (And.intro (And.intro @ze24 @fa24x0) (And.intro @fa24x1 @fa24x2))) (And.intro (And.intro (And.intro @fa24x3 @underlying39) (And.intro @sz39 @is39)) (And.intro (And.intro @ce39 @ag39) (And.intro @ze39 @underlying88)))))) (And.intro (And.intro (And.intro (And.intro (And.intro (And.intro @sz88 @is88) (And.intro @ce88 @ag88)) (And.intro (And.intro @ze88 @underlying9) (And.intro @sz9 @is9))) (And.intro (And.intro (And.intro @ce9 @ag9) (And.intro @ze9 @underlying130)) (And.intro (And.intro @sz130 @is130) (And.intro @ce130 @ag130)))) (And.intro (And.intro (And.intro (And.intro @ze130 @underlying167) (And.intro @sz167 @is167)) (And.intro (And.intro @ce167 @ag167) (And.intro @underlying43 @sz43))) (And.intro (And.intro (And.intro @is43 @ce43) (And.intro @ag43 @underlying120)) (And.intro (And.intro @sz120 @is120) (And.intro @ce120 @ag120))))) (And.intro (And.intro (And.intro (And.intro (And.intro @underlying87 @sz87) (And.intro @is87 @ce87)) (And.intro (And.intro @ag87 @ze87) (And.intro @fa87x2 @underlying209))) (And.intro (And.intro (And.intro @sz209 @is209) (And.intro @ce209 @ag209)) (And.intro (And.intro @ze209 @nt209) (And.intro @nn209 @nf209)))) (And.intro (And.intro (And.intro (And.intro @ng209 @underlying2) (And.intro @sz2 @is2)) (And.intro (And.intro @ce2 @ag2) (And.intro @ze2 @underlying211))) (And.intro (And.intro (And.intro @sz211 @is211) (And.intro @ce211 @ag211)) (And.intro (And.intro @ze211 @nt211) (And.intro @nn211 (And.intro @nf211 @ng211))))))))
structure StD where
 H:Hp
 g:List (Int×Int×ByteArray)
 l0:Int
 l1:Int
 l2:Int
 l3:Int
 fuel:Int
 taken:Int
 depth:Int
 out:List ByteArray
 tch:List Int
 kind:Int
 err:Int
 vk:Int
 vn:Int
 vx:ByteArray
structure StN(D:StD)(N:Nat):Prop where
 fuel:0≤D.taken∧D.taken≤D.fuel∧D.fuel≤1048576
 depth:0≤D.depth∧D.depth≤1000000
 lim:0≤D.l1∧D.l1≤1000000∧0≤D.l3∧D.l3≤1000000
 out:D.out.length≤N
 tch:D.tch.length≤N
 glob:D.g.length≤24
 n:32≤N
def blkOf:Value→Option Nat
 |.slice (some a) _ _=>some a.block
 |_=>none
def ownS(q gb:Nat)(ov tv:Value)(O:Nat→Prop):Nat→Prop:=fun b=>b=q∨b=gb∨blkOf ov=some b∨blkOf tv=some b∨O b
def stC(D:StD)(p gb:Nat)(ov tv:Value):List Value:=[.pointer (some ⟨p,0,none⟩),.pointer none,.int .i64 D.l0,.int .i64 D.l1,.int .i64 D.l2,.int .i64 D.l3,.slice (some ⟨gb,0,none⟩) D.g.length D.g.length,.int .i64 D.fuel,.int .i64 D.taken,.int .i64 D.depth,ov,tv,.int .i64 D.kind,.int .i64 D.err,.int .i64 D.vk,.int .i64 D.vn,.string D.vx]
section
structure StIn(lo:Nat)(s:St M)(q:Nat)(D:StD)(N:Nat)(O:Nat→Prop)(p gb:Nat)(ov tv:Value):Prop where
 heap:HpAt lo s p D.H N O
 bl:s.at' q=some (.cells (stC D p gb ov tv) 90 true)
 num:StN D N
 q0:lo≤q∧q<s.next∧¬ O q
 g0:lo≤gb∧gb<s.next∧¬ O gb∧gb≠q
 gl:s.at' gb=some (.cells (D.g.flatMap val3) 31 true)
 so:SlC 9 1 s ov (D.out.map .string) D.out.length
 st:SlC 3 1 s tv (D.tch.map (.int .i64)) D.tch.length
 o0:∀ b,blkOf ov=some b→lo≤b∧b<s.next∧¬ O b∧b≠q∧b≠gb
 t0:∀ b,blkOf tv=some b→lo≤b∧b<s.next∧¬ O b∧b≠q∧b≠gb∧blkOf ov≠some b
theorem slc_to{e:TypeId}{sz:Nat}{s s':St M}{sl:Value}{cs:List Value}{n:Nat}(h:SlC e sz s sl cs n)(hs:∀ b,blkOf sl=some b→s'.at' b=s.at' b):SlC e sz s' sl cs n:=
 h.same fun a m c e=>hs a.block (by rw[e];rfl)
theorem StN.mono{D:StD}{N N':Nat}(h:StN D N)(hN:N≤N'):StN D N':=
 ⟨h.fuel,h.depth,h.lim,by have:=h.out;omega,by have:=h.tch;omega,h.glob,by have:=h.n;omega⟩
variable {lo q N p gb:Nat}{D:StD}{O:Nat→Prop}{ov tv:Value}
theorem StIn.same{s':St M}(h:StIn lo s q D N O p gb ov tv)(hn:s.next≤s'.next)(hs:∀ b,ownS q gb ov tv O b→s'.at' b=s.at' b):StIn lo s' q D N O p gb ov tv:=by
 obtain⟨a1,a2,a3,a4,a5,a6,a7,a8,a9,a10⟩:=h
 refine⟨a1.same hn fun c hc=>hs c (.inr (.inr (.inr (.inr hc)))),(hs q (.inl rfl)).trans a2,a3,⟨a4.1,by omega,a4.2.2⟩,⟨a5.1,by omega,a5.2.2⟩,(hs gb (.inr (.inl rfl))).trans a6,slc_to a7 fun b hb=>hs b (.inr (.inr (.inl hb))),slc_to a8 fun b hb=>hs b (.inr (.inr (.inr (.inl hb)))),fun b hb=>?_,fun b hb=>?_⟩
 ·have:=a9 b hb;exact⟨this.1,by omega,this.2.2⟩
 ·have:=a10 b hb;exact⟨this.1,by omega,this.2.2⟩
theorem StIn.own(h:StIn lo s q D N O p gb ov tv):∀ b,ownS q gb ov tv O b→lo≤b∧b<s.next:=by
 rintro b (rfl|rfl|hb|hb|hb)
 ·exact⟨h.q0.1,h.q0.2.1⟩
 ·exact⟨h.g0.1,h.g0.2.1⟩
 ·have:=h.o0 b hb;exact⟨this.1,this.2.1⟩
 ·have:=h.t0 b hb;exact⟨this.1,this.2.1⟩
 ·exact h.heap.own b hb
theorem StIn.le{s':St M}(h:StIn lo s q D N O p gb ov tv)(hs:s.le s'):StIn lo s' q D N O p gb ov tv:=h.same hs.1 fun b hb=>hs.2 b (h.own b hb).2
theorem StIn.mono{N':Nat}(h:StIn lo s q D N O p gb ov tv)(hN:N≤N'):StIn lo s q D N' O p gb ov tv:=by
 obtain⟨a1,a2,a3,a4,a5,a6,a7,a8,a9,a10⟩:=h
 exact⟨a1.mono hN,a2,a3.mono hN,a4,a5,a6,a7,a8,a9,a10⟩
theorem StIn.heaped{s':St M}{H':Hp}{N':Nat}{O':Nat→Prop}(h:StIn lo s q D N O p gb ov tv)(hN:N≤N')(hH:HpAt lo s' p H' N' O')(hU:Upd s s' O O'):StIn lo s' q { D with H:=H' } N' O' p gb ov tv∧Upd s s' (ownS q gb ov tv O) (ownS q gb ov tv O'):=by
 obtain⟨a1,a2,a3,a4,a5,a6,a7,a8,a9,a10⟩:=h
 have hn:=hU.next
 have hO':∀ b,b<s.next→¬ O b→¬ O' b:=fun b hb hb2 hb3=>by rcases hU.own b hb3 with h|h;exact hb2 h;omega
 have a3:=a3.mono hN
 refine⟨⟨hH,(hU.keep q a4.2.1 a4.2.2).trans a2,⟨a3.fuel,a3.depth,a3.lim,a3.out,a3.tch,a3.glob,a3.n⟩,⟨a4.1,by omega,hO' q a4.2.1 a4.2.2⟩,⟨a5.1,by omega,hO' gb a5.2.1 a5.2.2.1,a5.2.2.2⟩,(hU.keep gb a5.2.1 a5.2.2.1).trans a6,slc_to a7 fun b hb=>hU.keep b (a9 b hb).2.1 (a9 b hb).2.2.1,slc_to a8 fun b hb=>hU.keep b (a10 b hb).2.1 (a10 b hb).2.2.1,fun b hb=>?_,fun b hb=>?_⟩,hn,fun b hb ho=>hU.keep b hb fun h=>ho (.inr (.inr (.inr (.inr h)))),?_⟩
 ·have:=a9 b hb;exact⟨this.1,by omega,hO' b this.2.1 this.2.2.1,this.2.2.2⟩
 ·have:=a10 b hb;exact⟨this.1,by omega,hO' b this.2.1 this.2.2.1,this.2.2.2⟩
 ·rintro b (hb|hb|hb|hb|hb)
  ·exact .inl (.inl hb)
  ·exact .inl (.inr (.inl hb))
  ·exact .inl (.inr (.inr (.inl hb)))
  ·exact .inl (.inr (.inr (.inr (.inl hb))))
  ·rcases hU.own b hb with h|h
   ·exact .inl (.inr (.inr (.inr (.inr h))))
   ·exact .inr h
theorem StIn.puts{s':St M}{D':StD}(h:StIn lo s q D N O p gb ov tv)(hn:s.next≤s'.next)(hq:s'.at' q=some (.cells (stC D' p gb ov tv) 90 true))(hk:∀ b,b<s.next→b≠q→s'.at' b=s.at' b)(hH:D'.H=D.H)(hg:D'.g=D.g)(ho:D'.out=D.out)(ht:D'.tch=D.tch)(hN:StN D' N):StIn lo s' q D' N O p gb ov tv∧Upd s s' (ownS q gb ov tv O) (ownS q gb ov tv O):=by
 have hown:=h.own
 obtain⟨a1,a2,a3,a4,a5,a6,a7,a8,a9,a10⟩:=h
 refine⟨⟨by rw[hH];exact a1.same hn fun c hc=>hk c (a1.own c hc).2 fun e=>a4.2.2 (e▸hc),hq,hN,⟨a4.1,by omega,a4.2.2⟩,⟨a5.1,by omega,a5.2.2⟩,by rw[hg];exact (hk gb a5.2.1 a5.2.2.2).trans a6,by rw[ho];exact slc_to a7 fun b hb=>hk b (a9 b hb).2.1 (a9 b hb).2.2.2.1,by rw[ht];exact slc_to a8 fun b hb=>hk b (a10 b hb).2.1 (a10 b hb).2.2.2.1,fun b hb=>?_,fun b hb=>?_⟩,hn,fun b hb ho=>hk b hb fun e=>ho (.inl e),fun b hb => .inl hb⟩
 ·have:=a9 b hb;exact⟨this.1,by omega,this.2.2⟩
 ·have:=a10 b hb;exact⟨this.1,by omega,this.2.2⟩
theorem StIn.putG{s':St M}{g':List (Int×Int×ByteArray)}(h:StIn lo s q D N O p gb ov tv)(hn:s.next≤s'.next)(hl:g'.length=D.g.length)(hg:s'.at' gb=some (.cells (g'.flatMap val3) 31 true))(hk:∀ b,b<s.next→b≠gb→s'.at' b=s.at' b):StIn lo s' q { D with g:=g' } N O p gb ov tv∧Upd s s' (ownS q gb ov tv O) (ownS q gb ov tv O):=by
 obtain⟨a1,a2,a3,a4,a5,a6,a7,a8,a9,a10⟩:=h
 refine⟨⟨a1.same hn fun c hc=>hk c (a1.own c hc).2 fun e=>a5.2.2.1 (e▸hc),?_,⟨a3.fuel,a3.depth,a3.lim,a3.out,a3.tch,by rw[hl];exact a3.glob,a3.n⟩,⟨a4.1,by omega,a4.2.2⟩,⟨a5.1,by omega,a5.2.2⟩,hg,slc_to a7 fun b hb=>hk b (a9 b hb).2.1 (a9 b hb).2.2.2.2,slc_to a8 fun b hb=>hk b (a10 b hb).2.1 (a10 b hb).2.2.2.2.1,fun b hb=>?_,fun b hb=>?_⟩,hn,fun b hb ho=>hk b hb fun e=>ho (.inr (.inl e)),fun b hb => .inl hb⟩
 ·rw[hk q a4.2.1 (Ne.symm a5.2.2.2),a2]
  unfold stC
  simp only[hl]
 ·have:=a9 b hb;exact⟨this.1,by omega,this.2.2⟩
 ·have:=a10 b hb;exact⟨this.1,by omega,this.2.2⟩
theorem StIn.outs{s':St M}{x:ByteArray}{b:Nat}(h:StIn lo s q D N O p gb ov tv)(hn:s.next≤b∧b<s'.next)(hb:s'.at' b=some (.cells ((D.out ++ [x]).map .string) 9 true))(hq:s'.at' q=some (.cells (stC { D with out:=D.out ++ [x] } p gb (.slice (some ⟨b,0,none⟩) (D.out.length+1) UNK) tv) 90 true))(hk:∀ c,c<s.next→c≠q→blkOf ov≠some c→s'.at' c=s.at' c):StIn lo s' q { D with out:=D.out ++ [x] } (N+1) O p gb (.slice (some ⟨b,0,none⟩) (D.out.length+1) UNK) tv∧Upd s s' (ownS q gb ov tv O) (ownS q gb (.slice (some ⟨b,0,none⟩) (D.out.length+1) UNK) tv O):=by
 obtain⟨a1,a2,a3,a4,a5,a6,a7,a8,a9,a10⟩:=h
 have e0:blkOf (.slice (some ⟨b,0,none⟩) (D.out.length+1) UNK)=some b:=rfl
 refine⟨⟨(a1.same (by omega) fun c hc=>hk c (a1.own c hc).2 (fun e=>a4.2.2 (e▸hc)) fun e=>(a9 c e).2.2.1 hc).mono (by omega),hq,⟨a3.fuel,a3.depth,a3.lim,by rw[List.length_append];have:=a3.out;simp;omega,by have:=a3.tch;show D.tch.length≤_;omega,a3.glob,by have:=a3.n;omega⟩,⟨a4.1,by omega,a4.2.2⟩,⟨a5.1,by omega,a5.2.2⟩,(hk gb a5.2.1 a5.2.2.2 fun e=>(a9 gb e).2.2.2.2 rfl).trans a6,?_,slc_to a8 fun c hc=>hk c (a10 c hc).2.1 (a10 c hc).2.2.2.1 (a10 c hc).2.2.2.2.2,fun c hc=>?_,fun c hc=>?_⟩,by omega,fun c hc ho=>hk c hc (fun e=>ho (.inl e)) fun e=>ho (.inr (.inr (.inl e))),?_⟩
 ·refine .inr ⟨b,UNK,by simp,.inl rfl,hb,by simp⟩
 ·rw[e0]at hc
  cases hc
  refine⟨by omega,hn.2,fun hc=>?_,by omega,by omega⟩
  have:=(a1.own b hc).2;omega
 ·have:=a10 c hc
  rw[e0]
  exact⟨this.1,by omega,this.2.2.1,this.2.2.2.1,this.2.2.2.2.1,fun e=>by cases e;omega⟩
 ·rintro c (hc|hc|hc|hc|hc)
  ·exact .inl (.inl hc)
  ·exact .inl (.inr (.inl hc))
  ·rw[e0]at hc;cases hc;exact .inr hn.1
  ·exact .inl (.inr (.inr (.inr (.inl hc))))
  ·exact .inl (.inr (.inr (.inr (.inr hc))))
theorem StIn.tchs{s':St M}{x:Int}{b:Nat}(h:StIn lo s q D N O p gb ov tv)(hn:s.next≤b∧b<s'.next)(hb:s'.at' b=some (.cells ((D.tch ++ [x]).map (.int .i64)) 3 true))(hq:s'.at' q=some (.cells (stC { D with tch:=D.tch ++ [x] } p gb ov (.slice (some ⟨b,0,none⟩) (D.tch.length+1) UNK)) 90 true))(hk:∀ c,c<s.next→c≠q→blkOf tv≠some c→s'.at' c=s.at' c):StIn lo s' q { D with tch:=D.tch ++ [x] } (N+1) O p gb ov (.slice (some ⟨b,0,none⟩) (D.tch.length+1) UNK)∧Upd s s' (ownS q gb ov tv O) (ownS q gb ov (.slice (some ⟨b,0,none⟩) (D.tch.length+1) UNK) O):=by
 obtain⟨a1,a2,a3,a4,a5,a6,a7,a8,a9,a10⟩:=h
 have e0:blkOf (.slice (some ⟨b,0,none⟩) (D.tch.length+1) UNK)=some b:=rfl
 refine⟨⟨(a1.same (by omega) fun c hc=>hk c (a1.own c hc).2 (fun e=>a4.2.2 (e▸hc)) fun e=>(a10 c e).2.2.1 hc).mono (by omega),hq,⟨a3.fuel,a3.depth,a3.lim,by have:=a3.out;show D.out.length≤_;omega,by rw[List.length_append];have:=a3.tch;simp;omega,a3.glob,by have:=a3.n;omega⟩,⟨a4.1,by omega,a4.2.2⟩,⟨a5.1,by omega,a5.2.2⟩,(hk gb a5.2.1 a5.2.2.2 fun e=>(a10 gb e).2.2.2.2.1 rfl).trans a6,slc_to a7 fun c hc=>hk c (a9 c hc).2.1 (a9 c hc).2.2.2.1 fun e=>(a10 c e).2.2.2.2.2 hc,?_,fun c hc=>?_,fun c hc=>?_⟩,by omega,fun c hc ho=>hk c hc (fun e=>ho (.inl e)) fun e=>ho (.inr (.inr (.inr (.inl e)))),?_⟩
 ·refine .inr ⟨b,UNK,by simp,.inl rfl,hb,by simp⟩
 ·have:=a9 c hc;exact⟨this.1,by omega,this.2.2⟩
 ·rw[e0]at hc
  cases hc
  refine⟨by omega,hn.2,fun hc=>?_,by omega,by omega,fun e=>?_⟩
  ·have:=(a1.own b hc).2;omega
  ·have:=(a9 b e).2.1;omega
 ·rintro c (hc|hc|hc|hc|hc)
  ·exact .inl (.inl hc)
  ·exact .inl (.inr (.inl hc))
  ·exact .inl (.inr (.inr (.inl hc)))
  ·rw[e0]at hc;cases hc;exact .inr hn.1
  ·exact .inl (.inr (.inr (.inr (.inr hc))))
def zV:Int×Int×ByteArray:=(0,0,⟨#[]⟩)
def endS(D:StD)(kind e:Int)(v:Int×Int×ByteArray):StD:=if D.kind=0 then { D with kind:=kind,err:=e,vk:=v.1,vn:=v.2.1,vx:=v.2.2 } else D
def needS(D:StD)(e:Int):StD:=if e=0 then D else if e=40∨e=41∨e=42∨e=43 then endS D 5 e zV else endS D 3 e zV
def isS(D:StD)(so:Bool):StD:=if so then D else needS D 30
def goesB(D:StD):Bool:=decide (D.kind=0)
theorem StN.endS{D:StD}{N:Nat}{k e:Int}{v:Int×Int×ByteArray}(h:StN D N):StN (endS D k e v) N:=by
 unfold Go.Proofs.Tryz.endS
 split
 ·exact⟨h.fuel,h.depth,h.lim,h.out,h.tch,h.glob,h.n⟩
 ·exact h
theorem endS_same(D:StD)(k e:Int)(v:Int×Int×ByteArray):(endS D k e v).H=D.H∧(endS D k e v).g=D.g∧(endS D k e v).out=D.out∧(endS D k e v).tch=D.tch:=by
 unfold endS
 split<;>exact⟨rfl,rfl,rfl,rfl⟩
end
section
variable {lo q N p gb:Nat}{D:StD}{O:Nat→Prop}{ov tv:Value}
theorem sover_spec(h:StIn lo s q D N O p gb ov tv)(hR:R (.bool (!goesB D)) s):QC prog w0 26 #[.pointer (some ⟨q,0,none⟩)] s R:=by
 refine wfun2 hmix ok26 func26 rfl ntmps26 results26 (by simp) ?_
 have hb:=h.bl
 unfold stC at hb
 unfold goesB at hR
 by_cases hk:D.kind=0
 ·simp only[hk,decide_true,Bool.not_true]at hR hb
  simp -implicitDefEqProofs only[↓Zd,(Zp),Zr,simprocAttr,qP,Value.cells,cut,qC,cld2,(HEx),(TAx),vA,hb]
  exact hR
 ·simp only[hk,decide_false,Bool.not_false]at hR
  simp -implicitDefEqProofs only[↓Zd,(Zp),Zr,simprocAttr,qP,Value.cells,cut,qC,cld2,(HEx),(TAx),vA,hb,hk]
  exact hR
theorem send_spec{k e vk vn:Int}{vx:ByteArray}(h:StIn lo s q D N O p gb ov tv)(hR:∀ s',StIn lo s' q (endS D k e (vk,vn,vx)) N O p gb ov tv→Upd s s' (ownS q gb ov tv O) (ownS q gb ov tv O)→R (.tuple #[]) s') :
  QC prog w0 52 #[.pointer (some ⟨q,0,none⟩),.int .i64 k,.int .i64 e,vA vk vn vx] s R:=by
 refine wfun2 hmix ok52 func52 rfl ntmps52 results52 (by simp) ?_
 have l1:s.le (s.new (.cells [.int .i64 vk,.int .i64 vn,.string vx] 31 true)):=lN (lR _)
 have h1:=h.le l1
 have hb:=h.bl
 have hqn:=h.q0.2.1
 have hne:¬ q=s.next:=by omega
 have hne2:¬ s.next=q:=by omega
 unfold stC at hb
 simp -implicitDefEqProofs only[↓Zd,(Zp),Zr,simprocAttr,qP,Value.cells,cut,qC,cld2,(HEx),(TAx),vA,co26]
 refine sover_spec h1 ?_
 by_cases hk:D.kind=0
 ·simp only[goesB,hk,decide_true,Bool.not_true]
  simp -implicitDefEqProofs only[↓Zd,(Zp),Zr,simprocAttr,qP,Value.cells,cut,qC,cld2,(HEx),(TAx),vA,hb,hk,hne,hne2,ord52]
  have e1:endS D k e (vk,vn,vx)={ D with kind:=k,err:=e,vk:=vk,vn:=vn,vx:=vx }:=by unfold endS;rw[if_pos hk]
  rw[e1]at hR
  refine (fun (H:_∧_)=>hR _ H.1 H.2) (h.puts (D':={ D with kind:=k,err:=e,vk:=vk,vn:=vn,vx:=vx }) ?_ ?_ ?_ rfl rfl rfl rfl ⟨h.num.fuel,h.num.depth,h.num.lim,h.num.out,h.num.tch,h.num.glob,h.num.n⟩)
  ·simp only[(Sn)];omega
  ·simp only[St.at_put,if_true];rfl
  ·intro b hb2 hb3
   simp only[St.at_put,hb3,if_false,St.at_new,(show ¬ b=s.next by omega)]
 ·simp only[goesB,hk,decide_false,Bool.not_false]
  simp -implicitDefEqProofs only[↓Zd,(Zp),Zr,simprocAttr,qP,Value.cells,cut,qC,cld2,(HEx),(TAx),vA,hb,hk]
  have e1:endS D k e (vk,vn,vx)=D:=by unfold endS;rw[if_neg hk]
  rw[e1]at hR
  exact hR _ h1 (.of_le l1)
theorem sneed_spec{e:Int}(h:StIn lo s q D N O p gb ov tv)(hR:∀ s',StIn lo s' q (needS D e) N O p gb ov tv→Upd s s' (ownS q gb ov tv O) (ownS q gb ov tv O)→R (.bool (goesB (needS D e))) s') :
  QC prog w0 80 #[.pointer (some ⟨q,0,none⟩),.int .i64 e] s R:=by
 refine wfun2 hmix ok80 func80 rfl ntmps80 results80 (by simp) ?_
 have hend:∀ {s':St M},StIn lo s' q (needS D e) N O p gb ov tv→Upd s s' (ownS q gb ov tv O) (ownS q gb ov tv O)→R (.bool (!!goesB (needS D e))) s':=fun h1 h2=>by rw[Bool.not_not];exact hR _ h1 h2
 by_cases h0:e=0
 ·rw[show needS D e=D by unfold needS;rw[if_pos h0]]at hend
  subst h0
  simp -implicitDefEqProofs only[↓Zd,(Zp),Zr,simprocAttr,qP,Value.cells,cut,qC,cld2,(HEx),(TAx),vA,co26]
  refine sover_spec h ?_
  simp -implicitDefEqProofs only[↓Zd,(Zp),Zr,simprocAttr,qP,Value.cells,cut,qC,cld2,(HEx),(TAx),vA]
  exact hend h .refl
 rcases (show e=40∨e=41∨e=42∨e=43∨(¬ e=40∧¬ e=41∧¬ e=42∧¬ e=43) by omega) with rfl|rfl|rfl|rfl|⟨h1,h2,h3,h4⟩
 case inr.inr.inr.inr =>
  rw[show needS D e=endS D 3 e zV by unfold needS;rw[if_neg h0,if_neg (by omega)]]at hend
  simp -implicitDefEqProofs only[↓Zd,(Zp),Zr,simprocAttr,qP,Value.cells,cut,qC,cld2,(HEx),(TAx),vA,h0,h1,h2,h3,h4,co52]
  refine send_spec h fun s1 hs1 hu1=>?_
  simp -implicitDefEqProofs only[↓Zd,(Zp),Zr,simprocAttr,qP,Value.cells,cut,qC,cld2,(HEx),(TAx),vA,co26]
  refine sover_spec hs1 ?_
  simp -implicitDefEqProofs only[↓Zd,(Zp),Zr,simprocAttr,qP,Value.cells,cut,qC,cld2,(HEx),(TAx),vA]
  exact hend hs1 hu1
 all_goals
  rw[show needS D _=endS D 5 _ zV by unfold needS;rw[if_neg (by omega),if_pos (by omega)]]at hend
  simp -implicitDefEqProofs only[↓Zd,(Zp),Zr,simprocAttr,qP,Value.cells,cut,qC,cld2,(HEx),(TAx),vA,co52]
  refine send_spec h fun s1 hs1 hu1=>?_
  simp -implicitDefEqProofs only[↓Zd,(Zp),Zr,simprocAttr,qP,Value.cells,cut,qC,cld2,(HEx),(TAx),vA,co26]
  refine sover_spec hs1 ?_
  simp -implicitDefEqProofs only[↓Zd,(Zp),Zr,simprocAttr,qP,Value.cells,cut,qC,cld2,(HEx),(TAx),vA]
  exact hend hs1 hu1
theorem sis_spec{so:Bool}(h:StIn lo s q D N O p gb ov tv)(hR:∀ s',StIn lo s' q (isS D so) N O p gb ov tv→Upd s s' (ownS q gb ov tv O) (ownS q gb ov tv O)→R (.bool (goesB (isS D so))) s') :
  QC prog w0 64 #[.pointer (some ⟨q,0,none⟩),.bool so] s R:=by
 refine wfun2 hmix ok64 func64 rfl ntmps64 results64 (by simp) ?_
 cases so with
 |true =>
  have e1:isS D true=D:=rfl
  rw[e1]at hR
  have hR:=hR s h .refl
  rw[← Bool.not_not (goesB D)]at hR
  simp -implicitDefEqProofs only[↓Zd,(Zp),Zr,simprocAttr,qP,Value.cells,cut,qC,cld2,(HEx),(TAx),vA,co26]
  refine sover_spec h ?_
  simp -implicitDefEqProofs only[↓Zd,(Zp),Zr,simprocAttr,qP,Value.cells,cut,qC,cld2,(HEx),(TAx),vA]
  exact hR
 |false =>
  have e1:isS D false=needS D 30:=rfl
  rw[e1]at hR
  simp -implicitDefEqProofs only[↓Zd,(Zp),Zr,simprocAttr,qP,Value.cells,cut,qC,cld2,(HEx),(TAx),vA,co80]
  refine sneed_spec h fun s1 hs1 hu1=>?_
  simp -implicitDefEqProofs only[↓Zd,(Zp),Zr,simprocAttr,qP,Value.cells,cut,qC,cld2,(HEx),(TAx),vA]
  exact hR _ hs1 hu1
def madeV(D:StD)(e:Int)(v:Int×Int×ByteArray):Value:=if goesB (needS D e)=true then .tuple #[vA v.1 v.2.1 v.2.2,.bool true] else .tuple #[vA 0 0 ⟨#[]⟩,.bool false]
theorem goes_need{D:StD}{e:Int}(h:goesB D=false):needS D e=D:=by
 unfold goesB at h
 have h:¬ D.kind=0:=by simpa using h
 unfold needS
 split
 ·rfl
 ·split<;>(unfold endS;rw[if_neg h])
theorem smade_spec{e vk vn:Int}{vx:ByteArray}(h:StIn lo s q D N O p gb ov tv)(hR:∀ s',StIn lo s' q (needS D e) N O p gb ov tv→Upd s s' (ownS q gb ov tv O) (ownS q gb ov tv O)→R (madeV D e (vk,vn,vx)) s') :
  QC prog w0 63 #[.pointer (some ⟨q,0,none⟩),vA vk vn vx,.int .i64 e] s R:=by
 refine wfun2 hmix ok63 func63 rfl ntmps63 results63 (by simp) ?_
 have l1:s.le ((s.new (.cells [.int .i64 vk,.int .i64 vn,.string vx] 31 true)).new (.cells [.int .i64 0,.int .i64 0,.string ⟨#[]⟩] 31 true)):=(by repeat (first|exact lR _|assumption|refine lN ?_|refine lP ?_ (by first|omega|(simp only[(Sn)];omega))|refine lT ?_ (by assumption)))
 have h1:=h.le l1
 have u1:Upd s ((s.new (.cells [.int .i64 vk,.int .i64 vn,.string vx] 31 true)).new (.cells [.int .i64 0,.int .i64 0,.string ⟨#[]⟩] 31 true)) (ownS q gb ov tv O) (ownS q gb ov tv O) := .of_le l1
 have hno:∀ b,ownS q gb ov tv O b→b<s.next:=fun b hb=>(h.own b hb).2
 have k1:((s.new (.cells [.int .i64 vk,.int .i64 vn,.string vx] 31 true)).new (.cells [.int .i64 0,.int .i64 0,.string ⟨#[]⟩] 31 true)).at' s.next=some (.cells [.int .i64 vk,.int .i64 vn,.string vx] 31 true):=by rw[St.at_new,if_neg (by simp only[St.next_new];omega),St.at_new,if_pos rfl]
 have k2:((s.new (.cells [.int .i64 vk,.int .i64 vn,.string vx] 31 true)).new (.cells [.int .i64 0,.int .i64 0,.string ⟨#[]⟩] 31 true)).at' (s.next+1)=some (.cells [.int .i64 0,.int .i64 0,.string ⟨#[]⟩] 31 true):=by rw[St.at_new,if_pos (by simp only[St.next_new])]
 simp -implicitDefEqProofs only[↓Zd,(Zp),Zr,simprocAttr,qP,Value.cells,cut,qC,cld2,(HEx),(TAx),vA,co26]
 refine sover_spec h1 ?_
 have hput:∀ {s2:St M}{B:Blk},StIn lo s2 q (needS D e) N O p gb ov tv→Upd s s2 (ownS q gb ov tv O) (ownS q gb ov tv O)→s.next+2≤s2.next→StIn lo (s2.put (s.next+1) B) q (needS D e) N O p gb ov tv∧Upd s (s2.put (s.next+1) B) (ownS q gb ov tv O) (ownS q gb ov tv O):=fun {s2 B} g1 g2 g3=>by
  have hne:∀ b,b<s.next→¬ b=s.next+1:=fun b hb=>by omega
  refine⟨g1.same (Nat.le_refl _) fun b hb=>by rw[St.at_put,if_neg (hne b (hno b hb))],g2.next,fun b hb ho=>by rw[St.at_put,if_neg (hne b hb)];exact g2.keep b hb ho,g2.own⟩
 cases hg:goesB D with
 |false =>
  have hd:=goes_need (e:=e) hg
  rw[hd]at hput
  have e2:madeV D e (vk,vn,vx) = .tuple #[vA 0 0 ⟨#[]⟩,.bool false]:=by unfold madeV;rw[hd,hg];rfl
  rw[e2,hd]at hR
  unfold vA at hR
  simp -implicitDefEqProofs only[↓Zd,(Zp),Zr,simprocAttr,qP,Value.cells,cut,qC,cld2,(HEx),(TAx),vA,k2,bVal0]
  obtain⟨a,b⟩:=hput h1 u1 (Nat.le_refl _)
  exact hR _ a b
 |true =>
  simp -implicitDefEqProofs only[↓Zd,(Zp),Zr,simprocAttr,qP,Value.cells,cut,qC,cld2,(HEx),(TAx),vA,co80]
  refine sneed_spec h1 fun s2 hs2 hu2=>?_
  have hu:=u1.trans hu2
  have n2:=hu2.next
  simp only[St.next_new]at n2
  have hnO:∀ b,s.next≤b→¬ ownS q gb ov tv O b:=fun b hb ho=>by have:=hno b ho;omega
  have k12:=(hu2.keep s.next (by simp only[St.next_new];omega) (hnO _ (Nat.le_refl _))).trans k1
  have k22:=(hu2.keep (s.next+1) (by simp only[St.next_new];omega) (hnO _ (by omega))).trans k2
  unfold madeV at hR
  cases hg2:goesB (needS D e) with
  |false =>
   rw[hg2]at hR
   unfold vA at hR
   simp -implicitDefEqProofs only[↓Zd,(Zp),Zr,simprocAttr,qP,Value.cells,cut,qC,cld2,(HEx),(TAx),vA,k12,k22,bVal0]
   obtain⟨a,b⟩:=hput hs2 hu n2
   exact hR _ a b
  |true =>
   rw[hg2]at hR
   unfold vA at hR
   simp -implicitDefEqProofs only[↓Zd,(Zp),Zr,simprocAttr,qP,Value.cells,cut,qC,cld2,(HEx),(TAx),vA,k12,k22,bVal0]
   obtain⟨a,b⟩:=hput hs2 hu n2
   exact hR _ a b
end
def tickS(D:StD)(n:Int):StD:=if goesB D=false then D else if D.fuel - D.taken<n then endS { D with taken:=D.fuel } 4 44 zV else if 0<n then { D with taken:=D.taken+n } else D
def setgS(D:StD)(i:Int)(v:Int×Int×ByteArray):StD:={ D with g:=D.g.set i.toNat v }
theorem StN.tick{D:StD}{N:Nat}{n:Int}(h:StN D N):StN (tickS D n) N:=by
 have hf:=h.fuel
 unfold tickS
 split
 ·exact h
 split
 ·exact StN.endS ⟨⟨by show 0≤D.fuel;omega,by show D.fuel≤D.fuel;omega,hf.2.2⟩,h.depth,h.lim,h.out,h.tch,h.glob,h.n⟩
 split
 ·exact⟨⟨by show 0≤D.taken+n;omega,by show D.taken+n≤D.fuel;omega,hf.2.2⟩,h.depth,h.lim,h.out,h.tch,h.glob,h.n⟩
 ·exact h
section
variable {lo q N p gb:Nat}{D:StD}{O:Nat→Prop}{ov tv:Value}
theorem atL(a:Addr)(s:St M):catom prog 178 #[.pointer (some a)] s=(cnumAt a s).map fun n=>(.int .i64 n,s):=by kernel_rfl
theorem atS(a:Addr)(n:Int)(s:St M):catom prog 154 #[.pointer (some a),.int .i64 n] s=(cstoreCells a [.int .i64 n] s).map fun s'=>(undef,s'):=by kernel_rfl
theorem atA(a:Addr)(n:Int)(s:St M):catom prog 155 #[.pointer (some a),.int .i64 n] s=match cnumAt a s with
 |some m=>(cstoreCells a [.int .i64 (IntKind.i64.wrap (m+n))] s).map fun s'=>(.int .i64 (IntKind.i64.wrap (m+n)),s')
 |none=>none:=by kernel_rfl
theorem exL(a:Addr):cextern prog 178 #[.pointer (some a)]=none:=by kernel_rfl
theorem exS(a:Addr)(n:Int):cextern prog 154 #[.pointer (some a),.int .i64 n]=none:=by kernel_rfl
theorem exA(a:Addr)(n:Int):cextern prog 155 #[.pointer (some a),.int .i64 n]=none:=by kernel_rfl
theorem aload_spec{a:Addr}{n:Int}(h:cnumAt a s=some n)(hR:R (.int .i64 n) s):QC prog w0 100 #[.pointer (some a)] s R:=by
 refine wfun2 hmix ok100 func100 rfl ntmps100 results100 (by simp) ?_
 simp -implicitDefEqProofs only[↓Zd,(Zp),Zr,simprocAttr,qP,Value.cells,cut,qC,cld2,(HEx),(TAx),vA,no178,exL,atL,h,Option.map_some,Nat.add_zero,addr_add_zero]
 exact hR
theorem astore_spec{a:Addr}{n:Int}{s':St M}(h:cstoreCells a [.int .i64 n] s=some s')(hR:R (.tuple #[]) s'):QC prog w0 71 #[.pointer (some a),.int .i64 n] s R:=by
 refine wfun2 hmix ok71 func71 rfl ntmps71 results71 (by simp) ?_
 rw[cstoreCells_eq]at h
 simp -implicitDefEqProofs only[↓Zd,(Zp),Zr,simprocAttr,qP,Value.cells,cut,qC,cld2,(HEx),(TAx),vA,no154,exS,atS,h,Option.map_some,Nat.add_zero,addr_add_zero]
 exact hR
theorem aadd_spec{a:Addr}{n m:Int}{s':St M}(h0:cnumAt a s=some m)(h:cstoreCells a [.int .i64 (IntKind.i64.wrap (m+n))] s=some s')(hR:R (.int .i64 (IntKind.i64.wrap (m+n))) s'):QC prog w0 72 #[.pointer (some a),.int .i64 n] s R:=by
 refine wfun2 hmix ok72 func72 rfl ntmps72 results72 (by simp) ?_
 rw[cstoreCells_eq]at h
 simp -implicitDefEqProofs only[↓Zd,(Zp),Zr,simprocAttr,qP,Value.cells,cut,qC,cld2,(HEx),(TAx),vA,no155,exA,atA,h0,h,Option.map_some,Nat.add_zero,addr_add_zero]
 exact hR
theorem taken_at(h:StIn lo s q D N O p gb ov tv):cnumAt ⟨q,8,none⟩ s=some D.taken:=by
 have hb:=h.bl
 unfold stC at hb
 unfold cnumAt
 simp only[hb]
 rfl
theorem taken_put{n:Int}(h:StIn lo s q D N O p gb ov tv):cstoreCells ⟨q,8,none⟩ [.int .i64 n] s=some (s.put q (.cells (stC { D with taken:=n } p gb ov tv) 90 true)):=by
 have hb:=h.bl
 unfold cstoreCells
 simp only[hb]
 rfl
theorem ssteps_spec(h:StIn lo s q D N O p gb ov tv)(hR:R (.int .i64 D.taken) s):QC prog w0 40 #[.pointer (some ⟨q,0,none⟩)] s R:=by
 refine wfun2 hmix ok40 func40 rfl ntmps40 results40 (by simp) ?_
 have hf:=h.num.fuel
 have w1:IntKind.i64.wrap D.taken=D.taken:=wrap_i64 (by omega)
 simp -implicitDefEqProofs only[↓Zd,(Zp),Zr,simprocAttr,qP,Value.cells,cut,qC,cld2,(HEx),(TAx),vA,co100,Nat.zero_add]
 refine aload_spec (taken_at h) ?_
 simp -implicitDefEqProofs only[↓Zd,(Zp),Zr,simprocAttr,qP,Value.cells,cut,qC,cld2,(HEx),(TAx),vA,w1]
 exact hR
theorem stick_spec{n:Int}(h:StIn lo s q D N O p gb ov tv)(hn : -9223372036854775808≤n∧n≤9223372036854775807)(hR:∀ s',StIn lo s' q (tickS D n) N O p gb ov tv→Upd s s' (ownS q gb ov tv O) (ownS q gb ov tv O)→R (.bool (goesB (tickS D n))) s') :
  QC prog w0 18 #[.pointer (some ⟨q,0,none⟩),.int .i64 n] s R:=by
 refine wfun2 hmix ok18 func18 rfl ntmps18 results18 (by simp) ?_
 have hf:=h.num.fuel
 have hnum:=h.num.tick (n:=n)
 have hqn:=h.q0.2.1
 simp -implicitDefEqProofs only[↓Zd,(Zp),Zr,simprocAttr,qP,Value.cells,cut,qC,cld2,(HEx),(TAx),vA,co26]
 refine sover_spec h ?_
 cases hg:goesB D with
 |false =>
  have e1:tickS D n=D:=by unfold tickS;rw[if_pos hg]
  rw[e1]at hR
  rw[hg]at hR
  simp -implicitDefEqProofs only[↓Zd,(Zp),Zr,simprocAttr,qP,Value.cells,cut,qC,cld2,(HEx),(TAx),vA]
  exact hR _ h .refl
 |true =>
  have hb:=h.bl
  unfold stC at hb
  have w1:IntKind.i64.wrap (D.fuel - D.taken)=D.fuel - D.taken:=wrap_i64 (by omega)
  simp -implicitDefEqProofs only[↓Zd,(Zp),Zr,simprocAttr,qP,Value.cells,cut,qC,cld2,(HEx),(TAx),vA,hb,co40,ord18]
  refine ssteps_spec h ?_
  by_cases h1:D.fuel - D.taken<n
  ·have e1:tickS D n=endS { D with taken:=D.fuel } 4 44 zV:=by unfold tickS;rw[if_neg (by rw[hg];decide),if_pos h1]
   rw[e1]at hR
   simp -implicitDefEqProofs only[↓Zd,(Zp),Zr,simprocAttr,qP,Value.cells,cut,qC,cld2,(HEx),(TAx),vA,hb,w1,h1,co71,ord18,Nat.zero_add]
   refine astore_spec (taken_put h) ?_
   obtain⟨g1,g2⟩:=h.puts (s':=s.put q (.cells (stC { D with taken:=D.fuel } p gb ov tv) 90 true)) (D':={ D with taken:=D.fuel }) (Nat.le_refl _) (by rw[St.at_put,if_pos rfl]) (fun b _ hb3=>by rw[St.at_put,if_neg hb3]) rfl rfl rfl rfl ⟨⟨by show 0≤D.fuel;omega,by show D.fuel≤D.fuel;omega,hf.2.2⟩,h.num.depth,h.num.lim,h.num.out,h.num.tch,h.num.glob,h.num.n⟩
   simp -implicitDefEqProofs only[↓Zd,(Zp),Zr,simprocAttr,qP,Value.cells,cut,qC,cld2,(HEx),(TAx),vA,co52,bVal0]
   refine send_spec g1 fun s2 hs2 hu2=>?_
   have e2:goesB (endS { D with taken:=D.fuel } 4 44 zV)=false:=by
    unfold goesB endS
    split
    ·rfl
    ·rename_i h0;simpa using h0
   rw[e2]at hR
   simp -implicitDefEqProofs only[↓Zd,(Zp),Zr,simprocAttr,qP,Value.cells,cut,qC,cld2,(HEx),(TAx),vA]
   exact hR _ hs2 (g2.trans hu2)
  ·by_cases h2:0<n
   ·have e1:tickS D n={ D with taken:=D.taken+n }:=by unfold tickS;rw[if_neg (by rw[hg];decide),if_neg h1,if_pos h2]
    rw[e1]at hR hnum
    have w2:IntKind.i64.wrap (D.taken+n)=D.taken+n:=wrap_i64 (by omega)
    have ht:=taken_put (n:=D.taken+n) h
    rw[← w2]at ht
    simp -implicitDefEqProofs only[↓Zd,(Zp),Zr,simprocAttr,qP,Value.cells,cut,qC,cld2,(HEx),(TAx),vA,hb,w1,h1,h2,co72,Nat.zero_add]
    refine aadd_spec (taken_at h) ht ?_
    rw[w2]
    obtain⟨g1,g2⟩:=h.puts (s':=s.put q (.cells (stC { D with taken:=D.taken+n } p gb ov tv) 90 true)) (D':={ D with taken:=D.taken+n }) (Nat.le_refl _) (by rw[St.at_put,if_pos rfl]) (fun b _ hb3=>by rw[St.at_put,if_neg hb3]) rfl rfl rfl rfl hnum
    have e2:goesB { D with taken:=D.taken+n }=true:=hg
    rw[e2]at hR
    simp -implicitDefEqProofs only[↓Zd,(Zp),Zr,simprocAttr,qP,Value.cells,cut,qC,cld2,(HEx),(TAx),vA]
    exact hR _ g1 g2
   ·have e1:tickS D n=D:=by unfold tickS;rw[if_neg (by rw[hg];decide),if_neg h1,if_neg h2]
    rw[e1,hg]at hR
    simp -implicitDefEqProofs only[↓Zd,(Zp),Zr,simprocAttr,qP,Value.cells,cut,qC,cld2,(HEx),(TAx),vA,hb,w1,h1,h2]
    exact hR _ h .refl
end
end Go.Proofs.Tryz
