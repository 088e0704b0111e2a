/- Lemmas, laid one behind the other by squeeze2.py. -/
import Derived.Test.YtnkichmojbanlaaGreatyD
set_option linter.unusedSimpArgs false
set_option linter.unusedVariables false
set_option linter.unusedSectionVars false
set_option linter.defProp false
namespace Go.Proofs.Tryz
open Go.Cs
open Go.RowKit (Below)
set_option maxRecDepth 100000
attribute [local irreducible] QC WLoop WScope CRound WRange
set_option maxHeartbeats 32000000
variable {M:Type}[Mem M]{w0:World}{s:St M}{R:Value→St M→Prop}
section
variable {lo p N:Nat}{H:Hp}{O P:Nat→Prop}{tg:Nat→Nat}{pf pn:Nat}{sl0:Value}{bs:List Nat}
theorem gotV_z(o:Option V3):gotV o = .tuple #[.agg #[.int .i64 (o.getD z3).1,.int .i64 (o.getD z3).2.1,.string (o.getD z3).2.2],.bool o.isSome]:=by
 cases o<;>rfl
theorem sval_spec(h:HpIn lo s p H N P tg pf pn sl0 bs){c:Nat→List Value}{n eb i:Nat}{junk:List Value}{e:Ent}{dl:Value}{o:Int}(hc:∀ i,(c i).length=5)(hb:s.at' eb=some (.cells (rows c n++junk) 51 true))(hbn:eb<s.next)(hi:i<n)(hci:c i=entC e dl)
  (ho : -9223372036854775808≤o∧o≤9223372036854775807)(hh : -9223372036854775808≤e.holder∧e.holder≤9223372036854775807)(hsl : -9223372036854775808≤e.slot∧e.slot≤9223372036854775807)(hR:∀ s',s.le s'→R (vOf (valE H e o)) s') :
  QC prog w0 55 #[.pointer (some ⟨p,0,none⟩),.pointer (some ⟨eb,i*5,none⟩),.int .i64 o] s R:=by
 refine wfun2 hmix ok55 func55 rfl ntmps55 results55 (by simp) ?_
 have g1:=rows_get hc junk hi (j:=1) (by omega)
 have g2:=rows_get hc junk hi (j:=2) (by omega)
 rw[hci]at g1 g2
 simp only[entC,List.getElem?_cons_zero,List.getElem?_cons_succ]at g1 g2
 have hne:¬ eb=s.next:=by omega
 have l1:s.le (s.new (.cells [.int .i64 0,.int .i64 0,.string ⟨#[]⟩] 36 true)):=lN (lR _)
 unfold valE vOf vA at hR
 by_cases h1:0<e.holder
 ·simp only[if_pos h1]at hR
  have h2:¬ e.holder<0:=by omega
  simp -implicitDefEqProofs only[↓Zd,(Zp),simprocAttr,Value.cells,cld2,(HEx),(STx),hb,hne,g1,g2,h1,h2,co47]
  refine hslot_spec (h.le l1) hh hsl fun s2 hs2=>?_
  have hn2:=hs2.1
  have c1:s2.at' s.next=some (.cells [.int .i64 0,.int .i64 0,.string ⟨#[]⟩] 36 true):=by rw[hs2.2 _ (by simp only[St.next_new];omega),St.at_new,if_pos rfl]
  simp only[St.next_new]at hn2
  have hne2:¬ s.next=s2.next:=by omega
  rw[gotV_z]
  simp -implicitDefEqProofs only[↓Zd,(Zp),simprocAttr,qP,Value.cells,cut,qC,cld2,(HEx),c1,hne2]
  exact hR _ (lP (lP (lN (lT l1 hs2)) (by omega)) (by omega))
 ·by_cases h2:e.holder<0
  ·simp only[if_neg h1,if_pos h2,z3]at hR
   simp -implicitDefEqProofs only[↓Zd,(Zp),simprocAttr,qP,Value.cells,cut,qC,cld2,(HEx),(STx),hb,hne,g1,h1,h2]
   exact hR _ (by repeat (first|exact lR _|assumption|refine lN ?_|refine lP ?_ (by first|omega|(simp only[(Sn)];omega))|refine lT ?_ (by assumption)))
  ·simp only[if_neg h1,if_neg h2]at hR
   simp -implicitDefEqProofs only[↓Zd,(Zp),simprocAttr,Value.cells,cld2,(HEx),(STx),hb,hne,g1,g2,h1,h2,co47]
   refine hslot_spec (h.le l1) ho hsl fun s2 hs2=>?_
   have hn2:=hs2.1
   have c1:s2.at' s.next=some (.cells [.int .i64 0,.int .i64 0,.string ⟨#[]⟩] 36 true):=by rw[hs2.2 _ (by simp only[St.next_new];omega),St.at_new,if_pos rfl]
   simp only[St.next_new]at hn2
   have hne2:¬ s.next=s2.next:=by omega
   rw[gotV_z]
   simp -implicitDefEqProofs only[↓Zd,(Zp),simprocAttr,qP,Value.cells,cut,qC,cld2,(HEx),c1,hne2]
   exact hR _ (lP (lP (lN (lT l1 hs2)) (by omega)) (by omega))
theorem getD_at{α:Type}{l:List α}{k:Nat}{d:α}(h:k<l.length):l.getD k d=l[k]:=by
 rw[List.getD_eq_getElem?_getD,List.getElem?_eq_getElem h];rfl
theorem hitI_of{es:List Ent}{sh:Int}{j:Nat}(hj:j<es.length)(h1:decide (((es.getD j e0).shape:Int)=sh)=true)(h2:∀ k,k<j→decide (((es.getD k e0).shape:Int)=sh)=false):hitI es sh=some j:=by
 unfold hitI
 rw[List.findIdx?_eq_some_iff_getElem]
 rw[getD_at hj]at h1
 exact⟨hj,h1,fun k hk=>by have:=h2 k hk;rw[getD_at (by omega)]at this;rw[this];decide⟩
theorem hitI_no{es:List Ent}{sh:Int}(h:∀ k,k<es.length→decide (((es.getD k e0).shape:Int)=sh)=false):hitI es sh=none:=by
 unfold hitI
 rw[List.findIdx?_eq_none_iff]
 intro e he
 obtain⟨k,hk,rfl⟩:=List.getElem_of_mem he
 have:=h k hk
 rwa [getD_at hk]at this
theorem hitc_spec{e:Ent}{dl:Value}{sh:Int}{ib:Nat}(hb:s.at' ib=some (.cells [.int .i64 sh] 3 true))(hbn:ib<s.next)(hR:∀ s',s.le s'→R (.bool (decide ((e.shape:Int)=sh))) s') :
  QC prog w0 104 #[.agg (entC e dl).toArray,.pointer (some ⟨ib,0,none⟩)] s R:=by
 refine wfun2 hmix ok104 func104 rfl ntmps104 results104 (by simp) ?_
 have hne:¬ ib=s.next:=by omega
 simp only[entC]
 by_cases h1:(e.shape:Int)=sh
 ·rw[decide_eq_true h1]at hR
  simp -implicitDefEqProofs only[↓Zd,(Zp),simprocAttr,qP,Value.cells,cld2,(HEx),(STx),hb,hne,h1]
  exact hR _ (by repeat (first|exact lR _|assumption|refine lN ?_|refine lP ?_ (by first|omega|(simp only[(Sn)];omega))|refine lT ?_ (by assumption)))
 ·rw[decide_eq_false h1]at hR
  simp -implicitDefEqProofs only[↓Zd,(Zp),simprocAttr,qP,Value.cells,cld2,(HEx),(STx),hb,hne,h1]
  exact hR _ (by repeat (first|exact lR _|assumption|refine lN ?_|refine lP ?_ (by first|omega|(simp only[(Sn)];omega))|refine lT ?_ (by assumption)))
theorem keepc_spec{e u:Ent}{dl ul:Value}{ib:Nat}(hb:s.at' ib=some (.cells (entC u ul) 51 true))(hbn:ib<s.next)(hR:∀ s',s.le s'→R (.bool (decide ((e.shape:Int)=(u.shape:Int)))) s') :
  QC prog w0 107 #[.agg (entC e dl).toArray,.pointer (some ⟨ib,0,none⟩)] s R:=by
 refine wfun2 hmix ok107 func107 rfl ntmps107 results107 (by simp) ?_
 have hne:¬ ib=s.next:=by omega
 simp only[entC]at hb ⊢
 by_cases h1:(e.shape:Int)=(u.shape:Int)
 ·rw[decide_eq_true h1]at hR
  simp -implicitDefEqProofs only[↓Zd,(Zp),simprocAttr,qP,Value.cells,cld2,(HEx),(STx),hb,hne,h1]
  exact hR _ (by repeat (first|exact lR _|assumption|refine lN ?_|refine lP ?_ (by first|omega|(simp only[(Sn)];omega))|refine lT ?_ (by assumption)))
 ·rw[decide_eq_false h1]at hR
  simp -implicitDefEqProofs only[↓Zd,(Zp),simprocAttr,qP,Value.cells,cld2,(HEx),(STx),hb,hne,h1]
  exact hR _ (by repeat (first|exact lR _|assumption|refine lN ?_|refine lP ?_ (by first|omega|(simp only[(Sn)];omega))|refine lT ?_ (by assumption)))
theorem shit_spec{b n j:Nat}{c:Nat→List Value}{z:Sit}{v:Value}{sh:Int}(hb:s.at' b=some (.cells (rows c n) 96 true))(hbn:b<s.next)(hc:∀ i,(c i).length=5)(hj:j<n)(hcj:c j=sitC z v)(hE:EntsAt PY s O v z.es)(hO:∀ a,O a→a<s.next)(hl:z.es.length≤1000)
  (hno:hitI z.es sh=none→∀ s',s.le s'→R (.pointer none) s')(hyes:∀ (i eb:Nat),hitI z.es sh=some i→i<z.es.length→v = .slice (some ⟨eb,0,none⟩) z.es.length UNK→∀ s',s.le s'→R (.pointer (some ⟨eb,i*5,none⟩)) s') :
  QC prog w0 53 #[.pointer (some ⟨b,j*5,none⟩),.int .i64 sh] s R:=by
 refine wfun2 hmix ok53 func53 rfl ntmps53 results53 (by simp) ?_
 have g4:=rows_get0 hc hj (j:=4) (by omega)
 rw[hcj]at g4
 simp only[sitC,List.getElem?_cons_zero,List.getElem?_cons_succ]at g4
 have hne:¬ b=s.next:=by omega
 have l1:s.le (s.new (.cells [.int .i64 sh] 3 true)):=lN (lR _)
 obtain⟨dl,h1,h2,h3,h4⟩:=hE
 rcases h1 with ⟨g1,_,rfl⟩|⟨eb,junk,rfl,g2,g3⟩
 ·simp -implicitDefEqProofs only[↓Zd,(Zp),simprocAttr,qP,Value.cells,cld2,(HEx),(STx),hb,hne,g4,co103]
  refine ixe0_spec ?_
  simp -implicitDefEqProofs only[↓Zd,(Zp),simprocAttr,(HEx)]
  exact hno (hitI_no fun k hk=>by omega) _ l1
 ·have hebn:eb<s.next:=hO _ (h2 _ _ _ rfl)
  have hebne:¬ eb=s.next:=by omega
  simp -implicitDefEqProofs only[↓Zd,(Zp),simprocAttr,qP,Value.cells,cld2,(HEx),(STx),hb,hne,g4,co103]
  refine ixe_spec (c:=fun j=>entC (z.es.getD j e0) (dl j)) (junk:=junk) (q:=fun j=>decide (((z.es.getD j e0).shape:Int)=sh)) co104 (fun _=>rfl) (by rw[St.at_new,if_neg hebne];exact g2) (by simp only[St.next_new];omega) (by omega) (fun s' i R' hs' hi hR'=>?_) (fun s2 i hs2 hi hq hq2=>?_) (fun s2 hs2 hq=>?_)
  ·refine hitc_spec (ib:=s.next) ?_ ?_ hR'
   ·rw[hs'.2 _ (by simp only[St.next_new];omega),St.at_new,if_pos rfl]
   ·have:=hs'.1;simp only[St.next_new]at this;omega
  ·have hlt:¬ (i:Int)<0:=by omega
   have hii:(0:Int)≤(i:Int)∧(i:Int)<(z.es.length:Int):=by omega
   have hb2:s2.at' b=some (.cells (rows c n) 96 true):=by rw[hs2.2 _ (by simp only[St.next_new];omega),St.at_new,if_neg hne];exact hb
   simp -implicitDefEqProofs only[↓Zd,(Zp),simprocAttr,cld2,(HEx),(STx),hb2,g4,hlt,hii]
   exact hyes i eb (hitI_of hi hq hq2) hi rfl _ (lT l1 hs2)
  ·simp -implicitDefEqProofs only[↓Zd,(Zp),simprocAttr,(HEx)]
   exact hno (hitI_no hq) _ (lT l1 hs2)
theorem holdc_spec(h:HpIn lo s p H N P tg pf pn sl0 bs){d:Nat×Nat}{ib:Nat}(hb:s.at' ib=some (.cells [.pointer (some ⟨p,0,none⟩)] 23 true))(hbn:ib<s.next)(hd:d.1≤9223372036854775807)(hR:∀ s',s.le s'→R (.bool (decide (epochV H d.1≠(d.2:Int)))) s') :
  QC prog w0 106 #[.agg (depC d).toArray,.pointer (some ⟨ib,0,none⟩)] s R:=by
 refine wfun2 hmix ok106 func106 rfl ntmps106 results106 (by simp) ?_
 have hne:¬ ib=s.next:=by omega
 simp only[depC]
 have l1:s.le (s.new (.cells [.int .i64 (d.1:Int),.int .i64 (d.2:Int)] 99 true)):=lN (lR _)
 simp -implicitDefEqProofs only[↓Zd,(Zp),simprocAttr,qP,Value.cells,cld2,(HEx),(STx),hb,hne,ord106,co45]
 refine hepoch_spec (i:=(d.1:Int)) (h.le l1) (by omega) ?_
 by_cases h1:epochV H d.1=(d.2:Int)
 ·rw[decide_eq_false (fun hc=>hc h1)]at hR
  simp -implicitDefEqProofs only[↓Zd,(Zp),simprocAttr,cld2,(HEx),h1]
  exact hR _ (by repeat (first|exact lR _|assumption|refine lN ?_|refine lP ?_ (by first|omega|(simp only[(Sn)];omega))|refine lT ?_ (by assumption)))
 ·rw[decide_eq_true h1]at hR
  simp -implicitDefEqProofs only[↓Zd,(Zp),simprocAttr,cld2,(HEx),h1]
  exact hR _ (by repeat (first|exact lR _|assumption|refine lN ?_|refine lP ?_ (by first|omega|(simp only[(Sn)];omega))|refine lT ?_ (by assumption)))
theorem holds_all{H:Hp}{e:Ent}(h:∀ k,k<e.deps.length→decide (epochV H (e.deps.getD k (0,0)).1≠((e.deps.getD k (0,0)).2:Int))=false):holdsE H e=true:=by
 unfold holdsE
 rw[List.all_eq_true]
 intro d hd
 obtain⟨k,hk,rfl⟩:=List.getElem_of_mem hd
 have:=h k hk
 rw[getD_at hk]at this
 simpa using this
theorem holds_not{H:Hp}{e:Ent}{k:Nat}(hk:k<e.deps.length)(h:decide (epochV H (e.deps.getD k (0,0)).1≠((e.deps.getD k (0,0)).2:Int))=true):holdsE H e=false:=by
 cases hh:holdsE H e with
 |false=>rfl
 |true =>
  unfold holdsE at hh
  rw[List.all_eq_true]at hh
  rw[getD_at hk]at h
  have:=hh _ (List.getElem_mem hk)
  simp only[decide_eq_true_eq]at this h
  exact absurd this h
theorem sholds_spec(h:HpIn lo s p H N P tg pf pn sl0 bs){c:Nat→List Value}{n eb i:Nat}{junk:List Value}{e:Ent}{dl:Value}(hc:∀ i,(c i).length=5)(hb:s.at' eb=some (.cells (rows c n++junk) 51 true))(hbn:eb<s.next)(hi:i<n)(hci:c i=entC e dl)
  (hD:DepsAt PY s O dl e.deps)(hO:∀ a,O a→a<s.next)(hl:e.deps.length≤1000)(hd:∀ d∈e.deps,d.1≤9223372036854775807)(hR:∀ s',s.le s'→R (.bool (holdsE H e)) s') :
  QC prog w0 54 #[.pointer (some ⟨p,0,none⟩),.pointer (some ⟨eb,i*5,none⟩)] s R:=by
 refine wfun2 hmix ok54 func54 rfl ntmps54 results54 (by simp) ?_
 have g4:=rows_get hc junk hi (j:=4) (by omega)
 rw[hci]at g4
 simp only[entC,List.getElem?_cons_zero,List.getElem?_cons_succ]at g4
 have hne:¬ eb=s.next:=by omega
 have l1:s.le (s.new (.cells [.pointer (some ⟨p,0,none⟩)] 23 true)):=lN (lR _)
 obtain⟨h1,h2,_⟩:=hD
 simp -implicitDefEqProofs only[↓Zd,(Zp),simprocAttr,qP,Value.cells,cld2,(HEx),(STx),hb,hne,g4,co105]
 refine wfun2 hmix ok105 func105 rfl ntmps105 results105 (by simp) ?_
 rcases h1 with ⟨g1,_,rfl⟩|⟨db,junk2,rfl,g2,g3⟩
 ·rw[holds_all fun k hk=>by omega]at hR
  simp -implicitDefEqProofs only[↓Zd,(Zp),simprocAttr,co139]
  refine ixd0_spec ?_
  simp -implicitDefEqProofs only[↓Zd,(Zp),simprocAttr,(HEx)]
  exact hR _ l1
 ·have hdbn:db<s.next:=hO _ (h2 _ _ _ rfl)
  have hdbne:¬ db=s.next:=by omega
  simp -implicitDefEqProofs only[↓Zd,(Zp),simprocAttr,co139]
  refine ixd_spec (c:=fun j=>depC (e.deps.getD j (0,0))) (junk:=junk2) (q:=fun j=>decide (epochV H (e.deps.getD j (0,0)).1≠((e.deps.getD j (0,0)).2:Int))) co106 (fun _=>rfl) (by rw[St.at_new,if_neg hdbne];exact g2) (by simp only[St.next_new];omega) (by omega) (fun s' i R' hs' hi hR'=>?_) (fun s2 i hs2 hi hq hq2=>?_) (fun s2 hs2 hq=>?_)
  ·refine holdc_spec (h.le (lT l1 hs')) (ib:=s.next) ?_ ?_ ?_ hR'
   ·rw[hs'.2 _ (by simp only[St.next_new];omega),St.at_new,if_pos rfl]
   ·have:=hs'.1;simp only[St.next_new]at this;omega
   ·rw[getD_at hi];exact hd _ (List.getElem_mem hi)
  ·rw[holds_not hi hq]at hR
   have hlt:(0:Int)≤(i:Int):=by omega
   simp -implicitDefEqProofs only[↓Zd,(Zp),simprocAttr,(HEx),hlt]
   exact hR _ (lT l1 hs2)
  ·rw[holds_all hq]at hR
   simp -implicitDefEqProofs only[↓Zd,(Zp),simprocAttr,(HEx)]
   exact hR _ (lT l1 hs2)
end
theorem bEnt0:cbuild prog 51 #[]=some (.agg #[.int .i64 0,.int .i64 0,.int .i64 0,.int .i64 0,.slice none 0 0]):=by kernel_rfl
theorem bEnt1(a:Int):cbuild prog 51 #[(0,.int .i64 a)]=some (.agg #[.int .i64 a,.int .i64 0,.int .i64 0,.int .i64 0,.slice none 0 0]):=by kernel_rfl
theorem bEnt2(a b:Int):cbuild prog 51 #[(0,.int .i64 a),(2,.int .i64 b)]=some (.agg #[.int .i64 a,.int .i64 0,.int .i64 b,.int .i64 0,.slice none 0 0]):=by kernel_rfl
theorem bDep2(a b:Int):cbuild prog 99 #[(0,.int .i64 a),(1,.int .i64 b)]=some (.agg #[.int .i64 a,.int .i64 b]):=by kernel_rfl
theorem rowDep(a b:Int):crow prog 49 1 #[(0,.agg #[.int .i64 a,.int .i64 b])]=some (.cells [.int .i64 a,.int .i64 b] 99 true):=by kernel_rfl
section
variable {lo p N:Nat}{H:Hp}{O P:Nat→Prop}{tg:Nat→Nat}{pf pn:Nat}{sl0:Value}{bs:List Nat}
theorem deps_more{s':St M}{acc:List (Nat×Nat)}{d:Nat×Nat}{b:Nat}(hb:s'.at' b=some (.cells (rows (fun j=>depC (acc.getD j (0,0))) acc.length ++ [.int .i64 (d.1:Int),.int .i64 (d.2:Int)]) 99 true))(hO:O b):DepsAt PY s' O (.slice (some ⟨b,0,none⟩) (acc.length+1) UNK) (acc ++ [d]):=by
 refine⟨.inr ⟨b,[],by simp,?_,?_⟩,fun q n c e=>by cases e;exact hO,fun h=>by simp at h⟩
 ·rw[hb,List.append_nil,List.length_append]
  show some (Blk.cells _ _ true)=some (.cells (rows _ (acc.length+1)) _ true)
  rw[rows_succ,rows_congr (c:=fun j=>depC ((acc ++ [d]).getD j (0,0))) (d:=fun j=>depC (acc.getD j (0,0))) fun j hj=>by rw[List.getD_eq_getElem?_getD,List.getD_eq_getElem?_getD,List.getElem?_append_left hj]]
  simp[depC]
  rfl
 ·exact rows_len (k:=2) (fun _=>rfl) _
theorem slook_spec(h:HpIn lo s p H N P tg pf pn sl0 bs)(hpro:HPro H){o:Int}{x:ByteArray}(ho : -9223372036854775808≤o∧o≤9223372036854775807)
  (hno:∀ s',s.le s'→LookE H x o none→R (.tuple #[.agg #[.int .i64 0,.int .i64 0,.int .i64 0,.int .i64 0,.slice none 0 0],.bool false]) s')
  (hyes:∀ s' e dl,s.le s'→LookE H x o (some e)→DepsAt PY s' (fun b=>s.next≤b∧b<s'.next) dl e.deps→R (.tuple #[.agg (entC e dl).toArray,.bool true]) s') :
  QC prog w0 56 #[.pointer (some ⟨p,0,none⟩),.int .i64 o,.string x] s R:=by
 refine wfun2 hmix ok56 func56 rfl ntmps56 results56 (by simp) ?_
 have l1:s.le (s.new (.cells [.int .i64 0,.int .i64 0,.int .i64 0,.int .i64 0,.slice none 0 0] 51 true)):=lN (lR _)
 have hsh0:0≤shapeV H o:=by unfold shapeV;split<;>omega
 have hlim:=h.ok.lim
 have hshb:∀ i,0≤shapeV H i∧shapeV H i≤9223372036854775807:=fun i=>by
  unfold shapeV
  split
  ·rename_i o' ho'
   refine⟨by omega,?_⟩
   by_cases hs:0<o'.shape
   ·obtain⟨l,hl⟩:=fits_at h.ok hpro ho' hs
    have:=(List.getElem?_eq_some_iff.1 hl).1
    have:=h.fo.le
    omega
   ·omega
  ·omega
 simp -implicitDefEqProofs only[↓Zd,(Zp),simprocAttr,Value.cells,(STx),co12]
 refine hshape_spec (h.le l1) ho ?_
 have hBA:¬ s.next+1=s.next:=by omega
 have hAB:¬ s.next=s.next+1:=by omega
 have l2:s.le (((s.new (.cells [.int .i64 0,.int .i64 0,.int .i64 0,.int .i64 0,.slice none 0 0] 51 true)).new (.cells [.int .i64 0,.int .i64 0,.int .i64 0,.int .i64 0,.slice none 0 0] 51 true)).put (s.next+1) (.cells [.int .i64 (shapeV H o),.int .i64 0,.int .i64 0,.int .i64 0,.slice none 0 0] 51 true)):=lP (lN l1) (by omega)
 have cA1:(((s.new (.cells [.int .i64 0,.int .i64 0,.int .i64 0,.int .i64 0,.slice none 0 0] 51 true)).new (.cells [.int .i64 0,.int .i64 0,.int .i64 0,.int .i64 0,.slice none 0 0] 51 true)).put (s.next+1) (.cells [.int .i64 (shapeV H o),.int .i64 0,.int .i64 0,.int .i64 0,.slice none 0 0] 51 true)).at' s.next=some (.cells [.int .i64 0,.int .i64 0,.int .i64 0,.int .i64 0,.slice none 0 0] 51 true):=by rw[St.at_put,if_neg hAB,St.at_new,if_neg (by simp only[St.next_new];omega),St.at_new,if_pos rfl]
 have cB1:(((s.new (.cells [.int .i64 0,.int .i64 0,.int .i64 0,.int .i64 0,.slice none 0 0] 51 true)).new (.cells [.int .i64 0,.int .i64 0,.int .i64 0,.int .i64 0,.slice none 0 0] 51 true)).put (s.next+1) (.cells [.int .i64 (shapeV H o),.int .i64 0,.int .i64 0,.int .i64 0,.slice none 0 0] 51 true)).at' (s.next+1)=some (.cells [.int .i64 (shapeV H o),.int .i64 0,.int .i64 0,.int .i64 0,.slice none 0 0] 51 true):=by rw[St.at_put,if_pos rfl]
 have n1:(((s.new (.cells [.int .i64 0,.int .i64 0,.int .i64 0,.int .i64 0,.slice none 0 0] 51 true)).new (.cells [.int .i64 0,.int .i64 0,.int .i64 0,.int .i64 0,.slice none 0 0] 51 true)).put (s.next+1) (.cells [.int .i64 (shapeV H o),.int .i64 0,.int .i64 0,.int .i64 0,.slice none 0 0] 51 true)).next=s.next+2:=rfl
 simp -implicitDefEqProofs only[↓Zd,(Zp),simprocAttr,qP,Value.cells,qC,cld2,(HEx),(STx),bEnt1,co62]
 generalize ((s.new (.cells [.int .i64 0,.int .i64 0,.int .i64 0,.int .i64 0,.slice none 0 0] 51 true)).new (.cells [.int .i64 0,.int .i64 0,.int .i64 0,.int .i64 0,.slice none 0 0] 51 true)).put (s.next+1) (.cells [.int .i64 (shapeV H o),.int .i64 0,.int .i64 0,.int .i64 0,.slice none 0 0] 51 true)=s1 at l2 cA1 cB1 n1 ⊢
 refine hslotof_spec (i:=shapeV H o) (h.le l2) (by have:=hshb o;omega) fun s2 hs2=>?_
 have hn2:=hs2.1
 have cA2:=(hs2.2 s.next (by omega)).trans cA1
 have cB2:=(hs2.2 (s.next+1) (by omega)).trans cB1
 have hs2':=lT l2 hs2
 have hyes2:∀ s' (e:Ent) (dl:Value) {a b c d:Int},(e.shape:Int)=a→e.holder=b→e.slot=c→(e.to:Int)=d→s.le s'→LookE H x o (some e)→DepsAt PY s' (fun b=>s.next≤b∧b<s'.next) dl e.deps→R (.tuple #[.agg #[.int .i64 a,.int .i64 b,.int .i64 c,.int .i64 d,dl],.bool true]) s':=by
  rintro s' e dl _ _ _ _ rfl rfl rfl rfl h1 h2 h3
  exact hyes s' e dl h1 h2 h3
 clear hyes
 have hsn:=Int.toNat_of_nonneg hsh0
 by_cases hk:0≤slotOf H (shapeV H o) x
 ·simp -implicitDefEqProofs only[↓Zd,(Zp),simprocAttr,qP,Value.cells,cut,qC,cld2,(HEx),(STx),cA2,cB2,hAB,hk]
  exact hyes2 _ ⟨(shapeV H o).toNat,0,slotOf H (shapeV H o) x,0,[]⟩ _ hsn rfl rfl rfl (lP (lP hs2' (by omega)) (by omega)) (by unfold LookE;rw[if_pos hk]) ⟨.inl ⟨rfl,rfl,rfl⟩,fun q n c e=>(by cases e),fun _=>rfl⟩
 have hle:∀ {q},LookR H x (protoV H o) q→LookE H x o (q.map fun q=>⟨(shapeV H o).toNat,q.2.1,q.2.2,0,q.1⟩):=fun hq=>by
  unfold LookE
  rw[if_neg hk]
  exact⟨_,hq,rfl⟩
 obtain⟨d,hd,hdl⟩:=deep_few h.ok
 have hpv:∀ i,protoV H i=0∨∃ j:Nat,j<H.obs.length∧protoV H i=((j+1:Nat):Int):=fun i=>by
  unfold protoV
  split
  ·rename_i o' ho'
   obtain⟨j,rfl,hj,hoj⟩:=obAt_some ho'
   by_cases h0:o'.proto=0
   ·exact .inl (by rw[h0];rfl)
   ·rcases hd j o' hoj with h1|⟨h1,_⟩
    ·exact absurd h1 h0
    ·exact .inr ⟨o'.proto - 1,by omega,by omega⟩
  ·exact .inl rfl
 simp -implicitDefEqProofs only[↓Zd,(Zp),simprocAttr,qP,Value.cells,qC,cld2,(HEx),(STx),cB2,hk,co73]
 refine hproto_spec (h.le (lP hs2' (by omega))) ho ?_
 simp -implicitDefEqProofs only[↓Zd,(Zp),simprocAttr,(HEx)]
 have hstep:∀ j:Nat,j<H.obs.length→(if protoV H ((j+1:Nat):Int)=0 then 0 else d (protoV H ((j+1:Nat):Int)).toNat+1)<d (j+1)+1:=fun j hj=>by
  have ho':H.obs[j]?=some H.obs[j]:=List.getElem?_eq_getElem hj
  have hpr:protoV H ((j+1:Nat):Int)=(H.obs[j].proto:Int):=by unfold protoV;rw[obAt_get,ho']
  rw[hpr]
  split
  ·omega
  ·rw[Int.toNat_natCast]
   rcases hd j _ ho' with h1|⟨_,h1⟩<;>omega
 refine wloop_inv hmix (fun fuel env s'=>env 0 = .pointer (some ⟨p,0,none⟩)∧env 2 = .string x∧env 6 = .pointer (some ⟨s.next,0,none⟩)∧env 8 = .pointer (some ⟨s.next+1,0,none⟩) ∧
  ∃ (p1:Int) (acc:List (Nat×Nat)) (dl:Value),env 9 = .int .i64 p1∧(p1=0∨∃ j:Nat,j<H.obs.length∧p1=((j+1:Nat):Int))∧fuel=(if p1=0 then 0 else d p1.toNat+1)∧acc.length+fuel≤201∧s.le s'∧s.next+2≤s'.next ∧
   s'.at' s.next=some (.cells [.int .i64 0,.int .i64 0,.int .i64 0,.int .i64 0,.slice none 0 0] 51 true)∧s'.at' (s.next+1)=some (.cells [.int .i64 (shapeV H o),.int .i64 0,.int .i64 (slotOf H (shapeV H o) x),.int .i64 0,dl] 51 true) ∧
   DepsAt PY s' (fun b=>s.next+2≤b∧b<s'.next) dl acc∧(∀ q,LookR H x p1 q→LookR H x (protoV H o) (q.map fun q=>(acc++q.1,q.2.1,q.2.2)))) (if protoV H o=0 then 0 else d (protoV H o).toNat+1) ?_ ?_
 ·refine⟨rfl,rfl,rfl,rfl,protoV H o,[],.slice none 0 0,rfl,hpv o,rfl,?_,lP hs2' (by omega),?_,?_,?_,⟨.inl ⟨rfl,rfl,rfl⟩,fun q n c e=>(by cases e),fun _=>rfl⟩,fun q hq=>?_⟩
  ·rcases hpv o with h0|⟨j,hj,h0⟩
   ·rw[if_pos h0];simp
   ·rw[if_neg (by omega),h0,Int.toNat_natCast]
    have:=hdl j hj
    simp;omega
  ·simp only[St.next_put];omega
  ·rw[St.at_put,if_neg hAB];exact cA2
  ·rw[St.at_put,if_pos rfl]
  ·cases q with
   |none=>exact hq
   |some q=>exact hq
 rintro fuel env s3 ⟨e0,e2,e6,e8,p1,acc,dl,e9,hp1,rfl,hfl,hs3,hn3,cA3,cB3,hD3,him⟩
 obtain⟨qa,qn,qc,rfl⟩:∃ a n c,dl=Value.slice a n c:=by rcases hD3.1 with ⟨_,_,e⟩|⟨b,_,e,_⟩<;>exact⟨_,_,_,e⟩
 by_cases h0:p1=0
 ·subst h0
  simp -implicitDefEqProofs only[↓Zd,(Zp),simprocAttr,qP,Value.cells,cut,qC,cld2,(HEx),(STx),e6,e8,e9,cA3,cB3,hAB]
  have hk0:=hle (him _ .stop)
  simp only[Option.map_some,List.append_nil]at hk0
  refine hyes2 _ ⟨(shapeV H o).toNat,-1,0,0,acc⟩ _ hsn rfl rfl rfl ?_ hk0 ⟨hD3.1.same fun q n c e=>?_,fun q n c e=>?_,hD3.2.2⟩
  ·exact (by repeat (first|exact lR _|assumption|refine lN ?_|refine lP ?_ (by first|omega|(simp only[(Sn)];omega))|refine lT ?_ (by assumption)))
  ·have:=hD3.2.1 q n c e
   rw[St.at_put,if_neg (by omega),St.at_put,if_neg (by omega),St.at_put,if_neg (by omega)]
  ·have:=hD3.2.1 q n c e
   exact⟨by omega,this.2⟩
 rcases hp1 with hp1|⟨j1,hj1,rfl⟩
 ·exact absurd hp1 h0
 have hb1 : -9223372036854775808≤((j1+1:Nat):Int)∧((j1+1:Nat):Int)≤9223372036854775807:=by omega
 rw[if_neg h0,Int.toNat_natCast]at hfl ⊢
 have h3:=h.le hs3
 simp -implicitDefEqProofs only[↓Zd,(Zp),simprocAttr,e0,e9,h0,co12]
 refine hshape_spec h3 hb1 ?_
 by_cases hs0:shapeV H ((j1+1:Nat):Int)=0
 ·rw[hs0]
  simp -implicitDefEqProofs only[↓Zd,(Zp),simprocAttr,qP,Value.cells,cut,qC,cld2,(HEx),(STx),e6,cA3,bEnt0]
  exact hno _ (lP hs3 (by omega)) (hle (him _ (.loose h0 hs0)))
 simp -implicitDefEqProofs only[↓Zd,(Zp),simprocAttr,cld2,(HEx),(STx),e0,e8,e9,cB3,hs0,ord56,co45]
 refine hepoch_spec h3 hb1 ?_
 simp -implicitDefEqProofs only[↓Zd,(Zp),simprocAttr,cld2,(HEx),(STx),cB3,bDep2,rowDep]
 have hep:0≤epochV H ((j1+1:Nat):Int):=by unfold epochV;split<;>omega
 have hepn:=Int.toNat_of_nonneg hep
 refine wch_appDep rfl rfl (by omega) hD3.1 (fun q m c e=>(hD3.2.1 q m c e).2) fun s5 hn5 hb5 hk5=>?_
 have hl5:s.le s5:=⟨by have:=hs3.1;omega,fun c hc=>by rw[hk5 c (by have:=hs3.1;omega) (fun q n c' e=>by have:=(hD3.2.1 q n c' e).1;omega)];exact hs3.2 c hc⟩
 have cA5:=(hk5 s.next (by omega) (fun q n c' e=>by have:=(hD3.2.1 q n c' e).1;omega)).trans cA3
 have cB5:=(hk5 (s.next+1) (by omega) (fun q n c' e=>by have:=(hD3.2.1 q n c' e).1;omega)).trans cB3
 simp -implicitDefEqProofs only[↓Zd,(Zp),simprocAttr,qP,Value.cells,qC,(STx),e0,e8,e9,cB5,co12]
 have l6:s.le (s5.put (s.next+1) (.cells [.int .i64 (shapeV H o),.int .i64 0,.int .i64 (slotOf H (shapeV H o) x),.int .i64 0,.slice (some ⟨s3.next+1,0,none⟩) (acc.length+1) UNK] 51 true)):=lP hl5 (by omega)
 have cA6:(s5.put (s.next+1) (.cells [.int .i64 (shapeV H o),.int .i64 0,.int .i64 (slotOf H (shapeV H o) x),.int .i64 0,.slice (some ⟨s3.next+1,0,none⟩) (acc.length+1) UNK] 51 true)).at' s.next=some (.cells [.int .i64 0,.int .i64 0,.int .i64 0,.int .i64 0,.slice none 0 0] 51 true):=by rw[St.at_put,if_neg hAB];exact cA5
 have cB6:(s5.put (s.next+1) (.cells [.int .i64 (shapeV H o),.int .i64 0,.int .i64 (slotOf H (shapeV H o) x),.int .i64 0,.slice (some ⟨s3.next+1,0,none⟩) (acc.length+1) UNK] 51 true)).at' (s.next+1)=some (.cells [.int .i64 (shapeV H o),.int .i64 0,.int .i64 (slotOf H (shapeV H o) x),.int .i64 0,.slice (some ⟨s3.next+1,0,none⟩) (acc.length+1) UNK] 51 true):=by rw[St.at_put,if_pos rfl]
 have cD6:=deps_more (s':=s5.put (s.next+1) (.cells [.int .i64 (shapeV H o),.int .i64 0,.int .i64 (slotOf H (shapeV H o) x),.int .i64 0,.slice (some ⟨s3.next+1,0,none⟩) (acc.length+1) UNK] 51 true)) (O:=fun b=>s.next+2≤b∧b<s3.next+2) (acc:=acc) (d:=(j1+1,(epochV H ((j1+1:Nat):Int)).toNat)) (b:=s3.next+1) (by rw[St.at_put,if_neg (by omega),hb5];simp only[hepn]) ⟨by omega,by omega⟩
 have n6:(s5.put (s.next+1) (.cells [.int .i64 (shapeV H o),.int .i64 0,.int .i64 (slotOf H (shapeV H o) x),.int .i64 0,.slice (some ⟨s3.next+1,0,none⟩) (acc.length+1) UNK] 51 true)).next=s3.next+2:=hn5
 generalize s5.put (s.next+1) (.cells [.int .i64 (shapeV H o),.int .i64 0,.int .i64 (slotOf H (shapeV H o) x),.int .i64 0,.slice (some ⟨s3.next+1,0,none⟩) (acc.length+1) UNK] 51 true)=s6 at l6 cA6 cB6 cD6 n6 ⊢
 refine hshape_spec (h.le l6) hb1 ?_
 simp -implicitDefEqProofs only[↓Zd,(Zp),simprocAttr,(HEx),e2,co62]
 refine hslotof_spec (i:=shapeV H ((j1+1:Nat):Int)) (h.le l6) (by have:=hshb ((j1+1:Nat):Int);omega) fun s7 hs7=>?_
 have hn7:=hs7.1
 have l7:=lT l6 hs7
 have cA7:=(hs7.2 s.next (by omega)).trans cA6
 have cB7:=(hs7.2 (s.next+1) (by omega)).trans cB6
 have cD7:=cD6.same (s':=s7) (O':=fun b=>s.next+2≤b∧b<s3.next+2) fun b hb=>⟨hb,hs7.2 b (by omega)⟩
 have hnat:(((j1+1:Nat):Int)).toNat=j1+1:=Int.toNat_natCast _
 by_cases hk7:0≤slotOf H (shapeV H ((j1+1:Nat):Int)) x
 ·simp -implicitDefEqProofs only[↓Zd,(Zp),simprocAttr,qP,Value.cells,cut,qC,cld2,(HEx),(STx),e6,e8,e9,cA7,cB7,hAB,hk7]
  have hlk:=hle (him _ (.hit h0 hs0 hk7))
  simp only[Option.map_some,hnat]at hlk
  refine hyes2 _ ⟨(shapeV H o).toNat,((j1+1:Nat):Int),_,0,acc ++ [(j1+1,(epochV H ((j1+1:Nat):Int)).toNat)]⟩ _ hsn rfl rfl rfl ?_ hlk ⟨cD7.1.same fun q n c e=>?_,fun q n c e=>?_,cD7.2.2⟩
  ·exact (by repeat (first|exact lR _|assumption|refine lN ?_|refine lP ?_ (by first|omega|(simp only[(Sn)];omega))|refine lT ?_ (by assumption)))
  ·have:=cD7.2.1 q n c e
   rw[St.at_put,if_neg (by omega),St.at_put,if_neg (by omega),St.at_put,if_neg (by omega)]
  ·have:=cD7.2.1 q n c e
   simp only[St.next_put]
   exact⟨by omega,by omega⟩
 ·simp -implicitDefEqProofs only[↓Zd,(Zp),simprocAttr,(HEx),e0,e9,hk7,co73]
  refine hproto_spec (h.le l7) hb1 ?_
  have hst:=hstep j1 hj1
  simp -implicitDefEqProofs only[↓Zd,(Zp),simprocAttr,(HEx),e0,e2,e6,e8]
  refine⟨_,hst,_,_,_,rfl,hpv _,rfl,?_,l7,by omega,cA7,cB7,cD7.same fun b hb=>⟨⟨hb.1,by omega⟩,rfl⟩,fun q hq=>?_⟩
  ·rw[List.length_append];simp only[List.length_cons,List.length_nil];omega
  ·have:=him _ (.up h0 hs0 (by omega) hq)
   cases q with
   |none=>exact this
   |some q=>simpa [hnat] using this
end
theorem rowE0:crow prog 42 0 #[]=some (.cells [] 51 true):=by kernel_rfl
theorem rowD0:crow prog 49 0 #[]=some (.cells [] 99 true):=by kernel_rfl
theorem rowEnt(a b c d:Int)(q:Option Addr)(n m:Nat):crow prog 42 1 #[(0,.agg #[.int .i64 a,.int .i64 b,.int .i64 c,.int .i64 d,.slice q n m])]=some (.cells [.int .i64 a,.int .i64 b,.int .i64 c,.int .i64 d,.slice q n m] 51 true):=by cases q<;>kernel_rfl
theorem rows_set5{c:Nat→List Value}{n i:Nat}{v0 v1 v2 v3 v4:Value}(hc:∀ i,(c i).length=5)(junk:List Value)(hi:i<n) :
  ((((((rows c n++junk).set (i*5) v0).set (i*5+1) v1).set (i*5+2) v2).set (i*5+3) v3).set (i*5+4) v4)=rows (fun m=>if m=i then [v0,v1,v2,v3,v4] else c m) n++junk:=by
 obtain⟨l⟩:∃ l,c i=l:=⟨_,rfl⟩
 have h5:=hc i
 obtain⟨w0,w1,w2,w3,w4,hl⟩:∃ w0 w1 w2 w3 w4,c i=[w0,w1,w2,w3,w4]:=by
  match hcl:c i,h5 with
  | [w0,w1,w2,w3,w4],_=>exact⟨_,_,_,_,_,rfl⟩
 have step:∀ (d d':List Value) (k:Nat) (v:Value),d.length=5→k<5→d'=d.set k v→(rows (fun m=>if m=i then d else c m) n++junk).set (i*5+k) v=rows (fun m=>if m=i then d' else c m) n++junk:=fun d d' k v hd hk he =>
  rows_set (k:=5) (fun m=>by (try dsimp only);split;exact hd;exact hc m) (fun m=>by (try dsimp only);split;rw[he,List.length_set];exact hd;exact hc m) junk hi hk (fun m hm=>by (try dsimp only);rw[if_neg hm,if_neg hm]) (by (try dsimp only);rw[if_pos rfl,if_pos rfl];exact he)
 have h0:rows c n=rows (fun m=>if m=i then [w0,w1,w2,w3,w4] else c m) n:=rows_congr fun m hm=>by
  split
  ·rename_i e;rw[e,hl]
  ·rfl
 have s0:=step [w0,w1,w2,w3,w4] [v0,w1,w2,w3,w4] 0 v0 rfl (by omega) rfl
 rw[Nat.add_zero]at s0
 rw[h0,s0,step [v0,w1,w2,w3,w4] [v0,v1,w2,w3,w4] 1 v1 rfl (by omega) rfl,step [v0,v1,w2,w3,w4] [v0,v1,v2,w3,w4] 2 v2 rfl (by omega) rfl,step [v0,v1,v2,w3,w4] [v0,v1,v2,v3,w4] 3 v3 rfl (by omega) rfl,step [v0,v1,v2,v3,w4] [v0,v1,v2,v3,v4] 4 v4 rfl (by omega) rfl]
theorem okc_slice(a:Option Addr)(n c:Nat):qC (.slice a n c)=true:=by cases a<;>rfl
theorem rows_ok{c:Nat→List Value}{n:Nat}(h:∀ i,i<n→(c i).all qC=true):(rows c n).all qC=true:=by
 induction n with
 |zero=>rfl
 |succ n ih =>
  rw[rows_succ,List.all_append,ih (fun i hi=>h i (by omega)),h n (by omega)]
  rfl
section
variable {lo t N:Nat}{T:Tab}{O:Nat→Prop}{al:Value}{rb cp:Nat→Nat}{sl:Nat→Nat→Value}
theorem DepsAt.form{Y:STy}{dl:Value}{ds:List (Nat×Nat)}(h:DepsAt Y s O dl ds):∃ a n c,dl = .slice a n c:=by
 rcases h.1 with ⟨_,_,e⟩|⟨b,_,e,_⟩<;>exact⟨_,_,_,e⟩
theorem cloneEnt0(hR:R (.slice none 0 0) s):QC prog w0 140 #[.slice none 0 0] s R:=by
 refine wfun2 hmix ok140 func140 rfl ntmps140 results140 (by simp) ?_
 simp -implicitDefEqProofs only[↓Zd,(Zp),simprocAttr,(STx)]
 exact hR
theorem cloneEnt1{b n:Nat}{cs junk:List Value}(hn:n≠0)(hlen:n≤1000000)(hok:cs.all qC=true)(hb:s.at' b=some (.cells (cs++junk) 51 true))(hbn:b<s.next)(hcs:cs.length=n*5)
  (hR:∀ s' cb,cb=s.next+1→s'.next=s.next+2→s.le s'→s'.at' cb=some (.cells cs 51 true)→R (.slice (some ⟨cb,0,none⟩) n UNK) s'):QC prog w0 140 #[.slice (some ⟨b,0,none⟩) n UNK] s R:=by
 refine wfun2 hmix ok140 func140 rfl ntmps140 results140 (by simp) ?_
 simp -implicitDefEqProofs only[↓Zd,(Zp),simprocAttr,(STx),rowE0]
 refine clEnt hn hlen hok hb hbn hcs fun s' h1 h2 h3=>?_
 simp -implicitDefEqProofs only[↓Zd,(Zp),simprocAttr]
 exact hR s' _ rfl h1 ⟨by omega,h3⟩ h2
theorem cloneDep0(hR:R (.slice none 0 0) s):QC prog w0 37 #[.slice none 0 0] s R:=by
 refine wfun2 hmix ok37 func37 rfl ntmps37 results37 (by simp) ?_
 simp -implicitDefEqProofs only[↓Zd,(Zp),simprocAttr,(STx)]
 exact hR
theorem cloneDep1{b n:Nat}{cs junk:List Value}(hn:n≠0)(hlen:n≤1000000)(hok:cs.all qC=true)(hb:s.at' b=some (.cells (cs++junk) 99 true))(hbn:b<s.next)(hcs:cs.length=n*2)
  (hR:∀ s' cb,cb=s.next+1→s'.next=s.next+2→s.le s'→s'.at' cb=some (.cells cs 99 true)→R (.slice (some ⟨cb,0,none⟩) n UNK) s'):QC prog w0 37 #[.slice (some ⟨b,0,none⟩) n UNK] s R:=by
 refine wfun2 hmix ok37 func37 rfl ntmps37 results37 (by simp) ?_
 simp -implicitDefEqProofs only[↓Zd,(Zp),simprocAttr,(STx),rowD0]
 refine clDep hn hlen hok hb hbn hcs fun s' h1 h2 h3=>?_
 simp -implicitDefEqProofs only[↓Zd,(Zp),simprocAttr]
 exact hR s' _ rfl h1 ⟨by omega,h3⟩ h2
theorem wch_appEntV{v:Value}{cs new:List Value}{k vb:Nat}{K:Value→St M→Prop}(hvb:s.at' vb=some (.cells new 51 true))(hnew:new.length=5)(hok:new.all qC=true)(hlen:k≤1000000)(hsl:SlU 51 5 s v cs k)
  (h:∀ s',s'.next=s.next+1→s'.at' s.next=some (.cells (cs++new) 51 true)→(∀ b,b≠s.next→(∀ q n c,v = .slice (some q) n c→b≠q.block)→s'.at' b=s.at' b)→K (.slice (some ⟨s.next,0,none⟩) (k+1) UNK) s') :
  wch (capp prog #[42,42] #[v,.slice (some ⟨vb,0,none⟩) 1 1] s) K:=by
 obtain⟨ie,hie,h1,h2,h3⟩:=infoEnt
 have hv:cmore ie.size (.slice (some ⟨vb,0,none⟩) 1 1) s=some (1,new):=by
  simp only[more_at,hvb,more2,h1]
  rw[cut_all (by omega)];rfl
 obtain⟨s',g3,g4,g5,g6⟩:=app_rowU (n:=k) (k:=1) hie ze51 (by rw[h1];rfl) h2 (app_eq underlying42 underlying42 hie) (by omega) (by
  have:(k+1)*ie.bytes≤1000001*100:=Nat.mul_le_mul (by omega) h3
  omega) hok hv (by rw[h1];exact hsl)
 exact⟨_,s',g3,h s' g4 g5 g6⟩
theorem bounded0{e:Ent}{dl:Value}(hdl:∃ a n c,dl = .slice a n c)(hR:∀ s' b',s.le s'→s.next≤b'→b' < s'.next→s'.at' b'=some (.cells (entC e dl) 51 true)→R (.tuple #[.slice (some ⟨b',0,none⟩) 1 UNK,.bool true]) s') :
  QC prog w0 108 #[.slice none 0 0,.agg (entC e dl).toArray,.int .i64 4] s R:=by
 refine wfun2 hmix ok108 func108 rfl ntmps108 results108 (by simp) ?_
 obtain⟨a,n,c,rfl⟩:=hdl
 simp only[entC]at hR ⊢
 simp -implicitDefEqProofs only[↓Zd,(Zp),simprocAttr,qP,Value.cells,cut,cld2,(STx),ord108,rowEnt,co140]
 refine cloneEnt0 ?_
 simp -implicitDefEqProofs only[↓Zd,(Zp),simprocAttr,cut,cld2,(STx)]
 refine wch_appEntV (k:=0) (cs:=[]) (vb:=s.next+1) (by rw[St.at_new,if_pos (by simp only[St.next_new])]) rfl (by simp[qC]) (by omega) (.inl ⟨rfl,rfl,rfl⟩) fun s' h1 h2 h3=>?_
 simp -implicitDefEqProofs only[↓Zd,(Zp),simprocAttr]
 refine hR s' _ ⟨?_,fun c hc=>?_⟩ ?_ ?_ h2
 ·simp only[St.next_new]at h1;omega
 ·rw[h3 c (by simp only[St.next_new];omega) (fun q n c e=>by cases e),St.at_new,if_neg (by simp only[St.next_new];omega),St.at_new,if_neg (by omega)]
 ·(try simp only[St.next_new]);omega
 ·(try simp only[St.next_new]at h1 ⊢);omega
theorem bounded1{e:Ent}{dl:Value}{n b:Nat}{cs junk:List Value}(hdl:∃ a n c,dl = .slice a n c)(hn:n≠0)(hn4:n<4)(hok:cs.all qC=true)(hb:s.at' b=some (.cells (cs++junk) 51 true))(hbn:b<s.next)(hcs:cs.length=n*5)
  (hR:∀ s' b',s.le s'→s.next≤b'→b' < s'.next→s'.at' b'=some (.cells (cs++entC e dl) 51 true)→R (.tuple #[.slice (some ⟨b',0,none⟩) (n+1) UNK,.bool true]) s') :
  QC prog w0 108 #[.slice (some ⟨b,0,none⟩) n UNK,.agg (entC e dl).toArray,.int .i64 4] s R:=by
 refine wfun2 hmix ok108 func108 rfl ntmps108 results108 (by simp) ?_
 obtain⟨a,m,c,rfl⟩:=hdl
 simp only[entC]at hR ⊢
 have h4:¬ (4:Int)≤(n:Int):=by omega
 simp -implicitDefEqProofs only[↓Zd,(Zp),simprocAttr,qP,Value.cells,cut,cld2,(STx),h4,ord108,rowEnt,co140]
 refine cloneEnt1 hn (by omega) hok (by rw[St.at_new,if_neg (by simp only[St.next_new];omega),St.at_new,if_neg (by omega)];exact hb) (by simp only[St.next_new];omega) hcs fun s2 cb hcb h1 h2 h3=>?_
 have hv2:=h2.2 (s.next+1) (by simp only[St.next_new];omega)
 rw[St.at_new,if_pos (by simp only[St.next_new])]at hv2
 have hv1:=h2.2 s.next (by simp only[St.next_new];omega)
 rw[St.at_new,if_neg (by simp only[St.next_new];omega),St.at_new,if_pos rfl]at hv1
 simp only[St.next_new]at h1 hcb
 simp -implicitDefEqProofs only[↓Zd,(Zp),simprocAttr,cut,cld2,(STx),hv1]
 refine wch_appEntV (k:=n) (cs:=cs) (vb:=s.next+1) hv2 rfl (by simp[qC]) (by omega) (.inr ⟨_,[],rfl,by rw[List.append_nil];exact h3,hcs⟩) fun s' g1 g2 g3=>?_
 have hv3:=(g3 s.next (by omega) (fun q n c e=>by cases e;show s.next≠cb;omega)).trans hv1
 simp -implicitDefEqProofs only[↓Zd,(Zp),simprocAttr]
 refine hR s' _ ⟨?_,fun c hc=>?_⟩ ?_ ?_ g2
 ·omega
 ·rw[g3 c (by omega) (fun q n c e=>by cases e;show c≠cb;omega),h2.2 c (by simp only[St.next_new];omega),St.at_new,if_neg (by simp only[St.next_new];omega),St.at_new,if_neg (by omega)]
 ·omega
 ·omega
theorem bounded2{e:Ent}{dl:Value}{n b:Nat}(hn4:4≤n)(hR:∀ s',s.le s'→R (.tuple #[.slice none 0 0,.bool false]) s') :
  QC prog w0 108 #[.slice (some ⟨b,0,none⟩) n UNK,.agg (entC e dl).toArray,.int .i64 4] s R:=by
 refine wfun2 hmix ok108 func108 rfl ntmps108 results108 (by simp) ?_
 simp only[entC]
 have h4:(4:Int)≤(n:Int):=by omega
 simp -implicitDefEqProofs only[↓Zd,(Zp),simprocAttr,qP,Value.cells,(STx),h4]
 exact hR _ (by repeat (first|exact lR _|assumption|refine lN ?_|refine lP ?_ (by first|omega|(simp only[(Sn)];omega))|refine lT ?_ (by assumption)))
end
section
variable {lo t N:Nat}{T:Tab}{O:Nat→Prop}{al:Value}{rb cp:Nat→Nat}{sl:Nat→Nat→Value}
theorem DepsAt.keep{Y:STy}{s':St M}{O':Nat→Prop}{dl:Value}{ds:List (Nat×Nat)}(h:DepsAt Y s O dl ds)(hO:∀ b,O b→O' b)(hs:∀ b cs,O b→s.at' b=some (.cells cs Y.tD true)→s'.at' b=s.at' b):DepsAt Y s' O' dl ds:=by
 obtain⟨h1,h2,h3⟩:=h
 refine⟨?_,fun q n c e=>hO _ (h2 q n c e),h3⟩
 rcases h1 with h1|⟨b,junk,g1,g2,g3⟩
 ·exact .inl h1
 ·exact .inr ⟨b,junk,g1,(hs b _ (h2 _ _ _ g1) g2).trans g2,g3⟩
theorem keep_stores{i j:Nat}{v:Value}{m:Bool}(hj:j<T.n i) :
  (rows (fun k=>sitC (T.st i k) (sl i k)) (T.n i)).set (j*5+4) v=rows (fun k=>if k=j then sitC (T.st i j) v else sitC (T.st i k) (sl i k)) (T.n i) ∧
  (rows (fun k=>if k=j then sitC (T.st i j) v else sitC (T.st i k) (sl i k)) (T.n i)).set (j*5+2) (.bool m)=rows (fun k=>if k=j then sitC { T.st i j with mega:=m } v else sitC (T.st i k) (sl i k)) (T.n i) ∧
  (rows (fun k=>sitC (T.st i k) (sl i k)) (T.n i)).length=T.n i*5∧(rows (fun k=>if k=j then sitC (T.st i j) v else sitC (T.st i k) (sl i k)) (T.n i)).length=T.n i*5∧j*5+5≤T.n i*5∧j*5+3≤T.n i*5:=by
 have hl:∀ (k:Nat) (z:Sit) (v:Value),(if k=j then sitC z v else sitC (T.st i k) (sl i k)).length=5:=fun k z v=>by split<;>rfl
 refine⟨rows_set0 (k:=5) (fun _=>rfl) (fun k=>hl k _ _) hj (by omega) (fun k hk=>if_neg hk) (by rw[if_pos rfl];rfl),rows_set0 (k:=5) (fun k=>hl k _ _) (fun k=>hl k _ _) hj (by omega) (fun k hk=>by rw[if_neg hk,if_neg hk]) (by rw[if_pos rfl,if_pos rfl];rfl),rows_len (k:=5) (fun _=>rfl) _,rows_len (k:=5) (fun k=>hl k _ _) _,by omega,by omega⟩
theorem keep_end(h:SAt PY lo s t T N O al rb cp sl){i j:Nat}(hi:i<T.fs)(hj:j<T.n i)(hlo:lo≤s.next){s2 s3:St M}{z':Sit}{v':Value}{O':Nat→Prop}(hs:s.le s2)(hO:∀ b,O b→O' b)(hO':∀ b,O' b→O b∨s.next≤b∧b<s2.next)
  (hn:s3.next=s2.next)(hrow:s3.at' (rb i)=some (.cells (rows (fun k=>if k=j then sitC z' v' else sitC (T.st i k) (sl i k)) (T.n i)) 96 true))(hk:∀ b,b≠rb i→s3.at' b=s2.at' b)(hes:EntsAt PY s2 O' v' z'.es)
  (hap:∀ q n c,v' = .slice (some q) n c→s.next≤q.block):SAt PY lo s3 t (putT T i j z') N O' al rb cp (fun a b=>if a=i∧b=j then v' else sl a b)∧Upd s s3 O O':=by
 have hrbn:=(h.own _ (h.pinR i hi)).2
 have hsn:=hs.1
 have hr:=h.row i hi
 refine⟨h.set hi hj (by omega) hO (fun b hb=>?_) hrow (fun b hb hne hq=>?_) (hes.keep (fun _ h=>h) fun b cs ty h1 h2 h3=>hk b fun e=>?_) (fun q n c e => .inr (hap q n c e)),?_,fun c hc hO2=>?_,fun b hb=>?_⟩
 ·rcases hO' b hb with h1|h1
  ·have:=h.own b h1;exact⟨this.1,by omega⟩
  ·exact⟨by omega,by omega⟩
 ·rw[hk b hne];exact hs.2 b (h.own b hb).2
 ·subst e
  rw[hs.2 _ hrbn,hr]at h2
  injection h2 with h2
  injection h2 with _ h5 _
  rcases h3 with rfl|⟨rfl,_⟩<;>exact absurd h5 (by decide)
 ·omega
 ·rw[hk c fun e=>hO2 (e▸h.pinR i hi)];exact hs.2 c hc
 ·rcases hO' b hb with h1|h1
  ·exact .inl h1
  ·exact .inr h1.1
theorem skeep_spec(h:SAt PY lo s t T N O al rb cp sl){i j:Nat}(hi:i<T.fs)(hj:j<T.n i)(hlo:lo≤s.next){e:Ent}{dl:Value}(hz:(T.st i j).es.length≤4)(hm:(T.st i j).mega=false)(hD:DepsAt PY s O dl e.deps)
  (hR:∀ s' O' sl',SAt PY lo s' t (putT T i j (keepS (T.st i j) e)) N O' al rb cp sl'→Upd s s' O O'→R (.tuple #[]) s') :
  QC prog w0 57 #[.pointer (some ⟨rb i,j*5,none⟩),.agg (entC e dl).toArray] s R:=by
 refine wfun2 hmix ok57 func57 rfl ntmps57 results57 (by simp) ?_
 have hform:=hD.form
 have hb:s.at' (rb i)=some (.cells (rows (fun k=>sitC (T.st i k) (sl i k)) (T.n i)) 96 true):=h.row i hi
 have hrbO:=h.pinR i hi
 have hrbn:=(h.own _ hrbO).2
 have hne:¬ rb i=s.next:=by omega
 have g4:(rows (fun k=>sitC (T.st i k) (sl i k)) (T.n i))[j*5+4]?=some (sl i j):=rows_get0 (c:=fun k=>sitC (T.st i k) (sl i k)) (k:=5) (fun _=>rfl) hj (j:=4) (by omega)
 have l1:s.le (s.new (.cells (entC e dl) 51 true)):=lN (lR _)
 have hall:(entC e dl).toArray=#[.int .i64 (e.shape:Int),.int .i64 e.holder,.int .i64 e.slot,.int .i64 (e.to:Int),dl]:=rfl
 have hallc:entC e dl=[.int .i64 (e.shape:Int),.int .i64 e.holder,.int .i64 e.slot,.int .i64 (e.to:Int),dl]:=rfl
 obtain⟨dlf,h1,h2,h3,h4⟩:=h.es i j hi hj
 obtain⟨qa,qn,qc,rfl⟩:=hform
 rcases h1 with ⟨g1,_,hv⟩|⟨eb,junk,hv,g2,g3⟩
 ·rw[hv]at g4
  simp -implicitDefEqProofs only[↓Zd,(Zp),simprocAttr,qP,Value.cells,cld2,(STx),hall,hb,hne,g4,co103]
  refine ixe0_spec (M:=M) ?_
  simp -implicitDefEqProofs only[↓Zd,(Zp),simprocAttr,cut,cld2,(HEx),(STx),hall,hb,hne,g4,ord57,co108]
  refine bounded0 (e:=e) (dl := .slice qa qn qc) ⟨_,_,_,rfl⟩ fun s2 b' hs2 hb1 hb2 hcell=>?_
  simp only[St.next_new]at hb1
  have hs12:s.le s2:=lT (lN (lR _)) hs2
  have hv1:s2.at' s.next=some (.cells (entC e (.slice qa qn qc)) 51 true):=by rw[hs2.2 _ (by simp only[St.next_new];omega),St.at_new,if_pos rfl];rfl
  rw[hallc]at hv1
  have hb2r:=(hs12.2 _ hrbn).trans hb
  obtain⟨f1,f2,f3,f4,f5,f6⟩:=keep_stores (T:=T) (sl:=sl) (i:=i) (j:=j) (v := .slice (some ⟨b',0,none⟩) 1 UNK) (m:=false) hj
  simp -implicitDefEqProofs only[↓Zd,(Zp),simprocAttr,qP,Value.cells,qC,(HEx),(STx),hb2r,f1,f2,f3,f4,f5,f6]
  have hes0:(T.st i j).es=[]:=List.length_eq_zero_iff.1 g1
  have hks:keepS (T.st i j) e={ T.st i j with es:=[e],mega:=false }:=by
   unfold keepS
   rw[hes0]
   show (if 4≤0 then _ else _)=_
   rw[if_neg (by omega),← hm]
   rfl
  rw[hks]at hR
  obtain⟨r1,r2⟩:=keep_end h hi hj hlo (s2:=s2) (s3:=(s2.put (rb i) (.cells (rows (fun k=>if k=j then sitC (T.st i j) (.slice (some ⟨b',0,none⟩) 1 UNK) else sitC (T.st i k) (sl i k)) (T.n i)) 96 true)).put (rb i) (.cells (rows (fun k=>if k=j then sitC { T.st i j with mega:=false } (.slice (some ⟨b',0,none⟩) 1 UNK) else sitC (T.st i k) (sl i k)) (T.n i)) 96 true))
   (z':={ T.st i j with es:=[e],mega:=false }) (v' := .slice (some ⟨b',0,none⟩) 1 UNK) (O':=fun b=>O b∨b=b') hs12 (fun b hb => .inl hb) (fun b hb=>by rcases hb with hb|rfl;exact .inl hb;exact .inr ⟨by omega,hb2⟩) rfl
   (by rw[St.at_put,if_pos rfl];rfl) (fun b hb=>by rw[St.at_put,if_neg hb,St.at_put,if_neg hb])
   ⟨fun _ => .slice qa qn qc,.inr ⟨b',[],rfl,by rw[hcell];rfl,rfl⟩,fun q n c e=>by cases e;exact .inr rfl,fun k hk=>by
    have hk:k<1:=hk
    have:k=0:=by omega
    subst this
    exact hD.same fun b hb=>⟨.inl hb,hs12.2 b (h.own b hb).2⟩,fun h=>by cases h⟩ (fun q n c e=>by cases e;show s.next≤b';omega)
  exact hR _ _ _ r1 r2
 ·rw[hv]at g4
  have hebO:O eb:=h2 _ _ _ hv
  have hebn:=(h.own _ hebO).2
  have hebne:¬ eb=s.next:=by omega
  have hcell0:∀ b',s.le b'→b'.at' eb=some (.cells (rows (fun k=>entC ((T.st i j).es.getD k e0) (dlf k)) (T.st i j).es.length++junk) 51 true):=fun b' hs=>by rw[hs.2 _ hebn];exact g2
  simp -implicitDefEqProofs only[↓Zd,(Zp),simprocAttr,qP,Value.cells,cld2,(STx),hall,hb,hne,g4,co103]
  refine ixe_spec (c:=fun k=>entC ((T.st i j).es.getD k e0) (dlf k)) (junk:=junk) (q:=fun k=>decide ((((T.st i j).es.getD k e0).shape:Int)=(e.shape:Int))) co107 (fun _=>rfl) (by rw[St.at_new,if_neg hebne];exact g2) (by simp only[St.next_new];omega) (by omega) (fun s' k R' hs' hk hR'=>?_) (fun s2 k hs2 hk hq hq2=>?_) (fun s2 hs2 hq=>?_)
  ·refine keepc_spec (u:=e) (ul := .slice qa qn qc) (ib:=s.next) ?_ ?_ hR'
   ·rw[hs'.2 _ (by simp only[St.next_new];omega),St.at_new,if_pos rfl];rfl
   ·have:=hs'.1;simp only[St.next_new]at this;omega
  ·have hs12:s.le s2:=lT (lN (lR _)) hs2
   have hn2:=hs2.1
   simp only[St.next_new]at hn2
   have hv1:s2.at' s.next=some (.cells (entC e (.slice qa qn qc)) 51 true):=by rw[hs2.2 _ (by simp only[St.next_new];omega),St.at_new,if_pos rfl];rfl
   rw[hallc]at hv1
   have hb2r:=(hs12.2 _ hrbn).trans hb
   have hc2:=hcell0 s2 hs12
   have hkk:(0:Int)≤(k:Int)∧(k:Int)<((T.st i j).es.length:Int):=by omega
   have hset:=rows_set5 (c:=fun k=>entC ((T.st i j).es.getD k e0) (dlf k)) (v0 := .int .i64 (e.shape:Int)) (v1 := .int .i64 e.holder) (v2 := .int .i64 e.slot) (v3 := .int .i64 (e.to:Int)) (v4 := .slice qa qn qc) (fun _=>rfl) junk hk
   have hlen:k*5+5≤(rows (fun k=>entC ((T.st i j).es.getD k e0) (dlf k)) (T.st i j).es.length++junk).length:=by rw[List.length_append,rows_len (k:=5) (fun _=>rfl)];omega
   simp -implicitDefEqProofs only[↓Zd,(Zp),simprocAttr,qP,Value.cells,cut,qC,cld2,(HEx),(STx),hv1,hb2r,g4,hc2,hkk,hset,hlen,ord57]
   have hhit:hitI (T.st i j).es e.shape=some k:=hitI_of hk hq hq2
   have hks:keepS (T.st i j) e={ T.st i j with es:=(T.st i j).es.set k e }:=by unfold keepS;rw[hhit]
   rw[hks]at hR
   have hrbeb:rb i≠eb:=at_apart hb g2 (by decide)
   have hat:∀ b,b≠eb→∀ B,(s2.put eb B).at' b=s2.at' b:=fun b hb B=>by rw[St.at_put,if_neg hb]
   refine hR _ O _ (h.set hi hj (v':=sl i j) (z':={ T.st i j with es:=(T.st i j).es.set k e }) ?_ (fun _ h=>h) (fun b hb=>?_) ?_ (fun b hb hne2 hq3=>?_) ⟨fun m=>if m=k then .slice qa qn qc else dlf m,?_,fun q n c e=>?_,fun m hm=>?_,fun hnil=>?_⟩ (fun q n c e => .inl ⟨q,n,c,e,rfl⟩)) ⟨?_,fun c hc hO2=>?_,fun b hb => .inl hb⟩
   ·simp only[St.next_put];omega
   ·have:=h.own b hb;simp only[St.next_put];exact⟨this.1,by omega⟩
   ·rw[hat _ hrbeb,hb2r]
    congr 2
    refine rows_congr fun m hm=>?_
    by_cases em:m=j
    ·subst em;rw[if_pos rfl];rfl
    ·rw[if_neg em];rfl
   ·rw[hat _ (fun e=>hq3 _ _ _ hv e)];exact hs12.2 _ (h.own b hb).2
   ·rw[List.length_set]
    refine .inr ⟨eb,junk,hv,?_,rows_len (k:=5) (fun _=>rfl) _⟩
    rw[St.at_put,if_pos rfl]
    congr 3
    refine rows_congr fun m hm=>?_
    show _=entC (((T.st i j).es.set k e).getD m e0) (if m=k then .slice qa qn qc else dlf m)
    by_cases em:m=k
    ·subst em
     rw[if_pos rfl,if_pos rfl,List.getD_eq_getElem?_getD,List.getElem?_set_self hk]
     rfl
    ·rw[if_neg em,if_neg em,List.getD_eq_getElem?_getD,List.getD_eq_getElem?_getD,List.getElem?_set_ne (fun e=>em e.symm)]
   ·exact h2 _ _ _ e
   ·have hm:m<(T.st i j).es.length:=by simpa using hm
    have hkd:∀ b cs,O b→s.at' b=some (.cells cs 99 true)→(s2.put eb (.cells (rows (fun m=>if m=k then [.int .i64 (e.shape:Int),.int .i64 e.holder,.int .i64 e.slot,.int .i64 (e.to:Int),.slice qa qn qc] else entC ((T.st i j).es.getD m e0) (dlf m)) (T.st i j).es.length++junk) 51 true)).at' b=s.at' b:=fun b cs hb h5=>by
     rw[hat _ (at_apart h5 g2 (by decide))];exact hs12.2 _ (h.own b hb).2
    show DepsAt PY _ O (if m=k then .slice qa qn qc else dlf m) (((T.st i j).es.set k e).getD m e0).deps
    by_cases em:m=k
    ·subst em
     rw[if_pos rfl,List.getD_eq_getElem?_getD,List.getElem?_set_self hk]
     exact hD.keep (fun _ h=>h) hkd
    ·rw[if_neg em,List.getD_eq_getElem?_getD,List.getElem?_set_ne (fun e=>em e.symm),← List.getD_eq_getElem?_getD]
     exact (h3 m hm).keep (fun _ h=>h) hkd
   ·have:(T.st i j).es.set k e=[]:=hnil
    have h0:=congrArg List.length this
    simp at h0
    rw[h0]at hk
    simp at hk
   ·simp only[St.next_put];omega
   ·rw[hat _ (fun e=>hO2 (by rw[e];exact hebO))];exact hs12.2 _ hc
  ·have hs12:s.le s2:=lT (lN (lR _)) hs2
   have hn2:=hs2.1
   simp only[St.next_new]at hn2
   have hv1:s2.at' s.next=some (.cells (entC e (.slice qa qn qc)) 51 true):=by rw[hs2.2 _ (by simp only[St.next_new];omega),St.at_new,if_pos rfl];rfl
   rw[hallc]at hv1
   have hb2r:=(hs12.2 _ hrbn).trans hb
   have hc2:=hcell0 s2 hs12
   have hnone:hitI (T.st i j).es e.shape=none:=hitI_no hq
   have hn0:(T.st i j).es.length≠0:=fun h0=>by
    have:=h4 (List.length_eq_zero_iff.1 h0)
    rw[hv]at this
    cases this
   by_cases hl4:(T.st i j).es.length<4
   ·simp -implicitDefEqProofs only[↓Zd,(Zp),simprocAttr,cut,cld2,(HEx),(STx),hv1,hb2r,g4,ord57,co108]
    refine bounded1 (e:=e) (dl := .slice qa qn qc) (cs:=rows (fun k=>entC ((T.st i j).es.getD k e0) (dlf k)) (T.st i j).es.length) ⟨_,_,_,rfl⟩ hn0 hl4 (rows_ok fun k hk=>?_) hc2 (by omega) (rows_len (k:=5) (fun _=>rfl) _) fun s3 b' hs3 hb1 hb2 hcell=>?_
    ·obtain⟨a,n,c,ha⟩:=(h3 k hk).form
     show List.all [_,_,_,_,_] qC=true
     simp[ha,qC]
    have hs13:s.le s3:=lT hs12 hs3
    have hv3:=(hs3.2 s.next (by omega)).trans hv1
    have hb3r:=(hs3.2 _ (by omega)).trans hb2r
    obtain⟨f1,f2,f3,f4,f5,f6⟩:=keep_stores (T:=T) (sl:=sl) (i:=i) (j:=j) (v := .slice (some ⟨b',0,none⟩) ((T.st i j).es.length+1) UNK) (m:=false) hj
    simp -implicitDefEqProofs only[↓Zd,(Zp),simprocAttr,qP,Value.cells,qC,(HEx),(STx),hb3r,f1,f2,f3,f4,f5,f6]
    have hks:keepS (T.st i j) e={ T.st i j with es:=(T.st i j).es ++ [e],mega:=false }:=by
     unfold keepS
     rw[hnone]
     show (if 4≤(T.st i j).es.length then _ else _)=_
     rw[if_neg (by omega),← hm]
    rw[hks]at hR
    have hEnt:EntsAt PY s3 (fun b=>O b∨b=b') (.slice (some ⟨b',0,none⟩) ((T.st i j).es.length+1) UNK) ((T.st i j).es ++ [e]):=by
     refine⟨fun m=>if m<(T.st i j).es.length then dlf m else .slice qa qn qc,.inr ⟨b',[],by simp,?_,?_⟩,fun q n c e=>(by cases e;exact .inr rfl),fun m hm=>?_,fun h=>by simp at h⟩
     ·rw[hcell,List.append_nil]
      show _=some (Blk.cells (rows _ ((T.st i j).es ++ [e]).length) _ true)
      rw[List.length_append,List.length_cons,List.length_nil,Nat.zero_add,rows_succ]
      congr 3
      ·refine rows_congr fun m hm=>?_
       show _=entC (((T.st i j).es ++ [e]).getD m e0) (if m<(T.st i j).es.length then dlf m else .slice qa qn qc)
       rw[if_pos hm,List.getD_eq_getElem?_getD,List.getD_eq_getElem?_getD,List.getElem?_append_left hm]
      ·show _=entC (((T.st i j).es ++ [e]).getD (T.st i j).es.length e0) (if (T.st i j).es.length<(T.st i j).es.length then dlf _ else .slice qa qn qc)
       rw[if_neg (Nat.lt_irrefl _),List.getD_eq_getElem?_getD,List.getElem?_append_right (Nat.le_refl _),Nat.sub_self]
       rfl
     ·exact rows_len (k:=5) (fun _=>rfl) _
     ·show DepsAt PY _ _ (if m<(T.st i j).es.length then dlf m else .slice qa qn qc) (((T.st i j).es ++ [e]).getD m e0).deps
      have hm:m<((T.st i j).es ++ [e]).length:=hm
      rw[List.length_append,List.length_cons,List.length_nil]at hm
      by_cases em:m<(T.st i j).es.length
      ·rw[if_pos em,List.getD_eq_getElem?_getD,List.getElem?_append_left em,← List.getD_eq_getElem?_getD]
       exact (h3 m em).same fun b hb=>⟨.inl hb,hs13.2 b (h.own b hb).2⟩
      ·have:m=(T.st i j).es.length:=by omega
       subst this
       rw[if_neg em,List.getD_eq_getElem?_getD,List.getElem?_append_right (Nat.le_refl _),Nat.sub_self]
       exact hD.same fun b hb=>⟨.inl hb,hs13.2 b (h.own b hb).2⟩
    obtain⟨r1,r2⟩:=keep_end h hi hj hlo (s2:=s3) (s3:=(s3.put (rb i) (.cells (rows (fun k=>if k=j then sitC (T.st i j) (.slice (some ⟨b',0,none⟩) ((T.st i j).es.length+1) UNK) else sitC (T.st i k) (sl i k)) (T.n i)) 96 true)).put (rb i) (.cells (rows (fun k=>if k=j then sitC { T.st i j with mega:=false } (.slice (some ⟨b',0,none⟩) ((T.st i j).es.length+1) UNK) else sitC (T.st i k) (sl i k)) (T.n i)) 96 true))
     (z':={ T.st i j with es:=(T.st i j).es ++ [e],mega:=false }) (v' := .slice (some ⟨b',0,none⟩) ((T.st i j).es.length+1) UNK) (O':=fun b=>O b∨b=b') hs13 (fun b hb => .inl hb) (fun b hb=>by rcases hb with hb|rfl;exact .inl hb;exact .inr ⟨by omega,hb2⟩) rfl
     (by rw[St.at_put,if_pos rfl];rfl) (fun b hb=>by rw[St.at_put,if_neg hb,St.at_put,if_neg hb])
     hEnt (fun q n c e=>by cases e;show s.next≤b';omega)
    exact hR _ _ _ r1 r2
   ·simp -implicitDefEqProofs only[↓Zd,(Zp),simprocAttr,cut,cld2,(HEx),(STx),hv1,hb2r,g4,ord57,co108]
    refine bounded2 (e:=e) (dl := .slice qa qn qc) (by omega) fun s3 hs3=>?_
    have hs13:s.le s3:=lT hs12 hs3
    have hv3:=(hs3.2 s.next (by omega)).trans hv1
    have hb3r:=(hs3.2 _ (by omega)).trans hb2r
    obtain⟨f1,f2,f3,f4,f5,f6⟩:=keep_stores (T:=T) (sl:=sl) (i:=i) (j:=j) (v := .slice none 0 0) (m:=true) hj
    simp -implicitDefEqProofs only[↓Zd,(Zp),simprocAttr,qP,Value.cells,qC,(HEx),(STx),hb3r,f1,f2,f3,f4,f5,f6]
    have hks:keepS (T.st i j) e={ T.st i j with es:=[],mega:=true }:=by
     unfold keepS
     rw[hnone]
     show (if 4≤(T.st i j).es.length then _ else _)=_
     rw[if_pos (by omega)]
    rw[hks]at hR
    obtain⟨r1,r2⟩:=keep_end h hi hj hlo (s2:=s3) (s3:=(s3.put (rb i) (.cells (rows (fun k=>if k=j then sitC (T.st i j) (.slice none 0 0) else sitC (T.st i k) (sl i k)) (T.n i)) 96 true)).put (rb i) (.cells (rows (fun k=>if k=j then sitC { T.st i j with mega:=true } (.slice none 0 0) else sitC (T.st i k) (sl i k)) (T.n i)) 96 true))
     (z':={ T.st i j with es:=[],mega:=true }) (v' := .slice none 0 0) (O':=O) hs13 (fun b hb=>hb) (fun b hb => .inl hb) rfl
     (by rw[St.at_put,if_pos rfl];rfl) (fun b hb=>by rw[St.at_put,if_neg hb,St.at_put,if_neg hb])
     ⟨fun _ => .slice none 0 0,.inl ⟨rfl,rfl,rfl⟩,fun q n c e=>(by cases e),fun m hm=>absurd hm (Nat.not_lt_zero _),fun _=>rfl⟩ (fun q n c e=>by cases e)
    exact hR _ _ _ r1 r2
end
section
variable {lo lo1 t p N NN:Nat}{H:Hp}{T:Tab}{O P:Nat→Prop}{al:Value}{rb cp:Nat→Nat}{sl:Nat→Nat→Value}
theorem SAt.more{O':Nat→Prop}(h:SAt PY lo s t T N O al rb cp sl)(hO:∀ b,O b→O' b)(hO':∀ b,O' b→lo≤b∧b<s.next):SAt PY lo s t T N O' al rb cp sl:=
 ⟨hO',hO _ h.pin,h.bl,h.cnt,h.all,fun q n c e=>hO _ (h.allO q n c e),fun i hi=>hO _ (h.pinR i hi),h.row,h.inj,fun i j hi hj=>(h.es i j hi hj).keep hO fun _ _ _ _ _ _=>rfl,h.apart,h.small⟩
theorem miss_at{s':St M}(h:SAt PY lo s t T N O al rb cp sl)(hn:s'.next=s.next)(hb:s'.at' t=some (.cells [al,.int .i64 (T.hits:Int),.int .i64 ((T.misses+1:Nat):Int)] 84 true))(hk:∀ b,b≠t→s'.at' b=s.at' b):SAt PY lo s' t (missT T) (N+1) O al rb cp sl:=
 h.count ⟨rfl,rfl,rfl⟩ ⟨by have:=h.cnt.1;show T.hits≤N+1;omega,by have:=h.cnt.2;show T.misses+1≤N+1;omega⟩ hn hb hk
theorem hit_at{s':St M}(h:SAt PY lo s t T N O al rb cp sl)(hn:s'.next=s.next)(hb:s'.at' t=some (.cells [al,.int .i64 ((T.hits+1:Nat):Int),.int .i64 (T.misses:Int)] 84 true))(hk:∀ b,b≠t→s'.at' b=s.at' b):SAt PY lo s' t (hitT T) (N+1) O al rb cp sl:=
 h.count ⟨rfl,rfl,rfl⟩ ⟨by have:=h.cnt.1;show T.hits+1≤N+1;omega,by have:=h.cnt.2;show T.misses≤N+1;omega⟩ hn hb hk
theorem plays_at{s':St M}{i j:Nat}{w:Bool}{x:ByteArray}(h:SAt PY lo s t T N O al rb cp sl)(hi:i<T.fs)(hj:j<T.n i)(hn:s'.next=s.next)
  (hb:s'.at' (rb i)=some (.cells (rows (fun m=>if m=j then sitC (if (T.st i j).mega then T.st i j else playsS (T.st i j) w x) (sl i j) else sitC (T.st i m) (sl i m)) (T.n i)) 96 true))(hk:∀ a,a≠rb i→s'.at' a=s.at' a) :
  SAt PY lo s' t (putT T i j (if (T.st i j).mega then T.st i j else playsS (T.st i j) w x)) N O al rb cp sl:=by
 have hes:(if (T.st i j).mega then T.st i j else playsS (T.st i j) w x).es=(T.st i j).es:=by
  split
  ·rfl
  ·unfold playsS;split<;>rfl
 have hr:=h.row i hi
 have:=h.set (s':=s') (O':=O) hi hj (z':=if (T.st i j).mega then T.st i j else playsS (T.st i j) w x) (v':=sl i j) (by omega) (fun _ h=>h) (fun b hb=>by have:=h.own b hb;rw[hn];exact this) hb (fun b hb hne _=>hk b hne)
  (by rw[hes];exact (h.es i j hi hj).keep (fun _ h=>h) fun b cs ty h1 h2 h3=>hk b (at_apart h2 hr (by rcases h3 with rfl|⟨rfl,_⟩<;>decide))) (fun q n c e => .inl ⟨q,n,c,e,rfl⟩)
 have e2:(fun a b=>if a=i∧b=j then sl i j else sl a b)=sl:=by
  funext a b
  split
  ·rename_i e;rw[e.1,e.2]
  ·rfl
 rw[e2]at this
 exact this
theorem plays_no{z:Sit}{w:Bool}{x:ByteArray}(h:playsB z w x=false):(if z.mega then z else playsS z w x)=z:=by
 unfold playsB at h
 unfold playsS
 cases hm:z.mega with
 |true=>simp
 |false =>
  rw[hm]at h
  simp only[Bool.false_eq_true,if_false]at h ⊢
  cases hu:z.used with
  |true=>simp
  |false=>rw[hu]at h;simp at h
theorem plays_yes{z:Sit}{w:Bool}{x:ByteArray}(h:playsB z w x=true):(if z.mega then z else playsS z w x)=playsS z w x:=by
 rw[(plays_is h).1];rfl
theorem putT_same(T:Tab)(i j:Nat):putT T (i:Int) (j:Int) (T.st i j)=T:=by
 obtain⟨fs,n,st,hits,misses⟩:=T
 unfold putT
 congr 1
 funext a b
 rw[Int.toNat_natCast,Int.toNat_natCast]
 split
 ·rename_i e;rw[e.1,e.2]
 ·rfl
theorem putT_two(T:Tab)(i j:Int)(z z':Sit):putT (missT (putT T i j z)) i j z'=missT (putT T i j z'):=by
 unfold putT missT
 congr 1
 funext a b
 simp only
 split<;>rfl
theorem putT_st(T:Tab)(i j:Nat)(z:Sit):(putT T (i:Int) (j:Int) z).st i j=z:=by
 show (if i=(i:Int).toNat∧j=(j:Int).toNat then z else T.st i j)=z
 rw[Int.toNat_natCast,Int.toNat_natCast,if_pos ⟨rfl,rfl⟩]
theorem siteAt_nat(T:Tab)(i j:Nat):siteAt T (i:Int) (j:Int)=T.st i j:=by
 unfold siteAt
 rw[Int.toNat_natCast,Int.toNat_natCast]
theorem hp_put{s:St M}{tg:Nat→Nat}{pf pn:Nat}{sl0:Value}{bs:List Nat}(h:HpIn lo1 s p H NN P tg pf pn sl0 bs){b:Nat}{B:Blk}(hb:¬ P b):HpIn lo1 (s.put b B) p H NN P tg pf pn sl0 bs:=
 h.same (Nat.le_refl _) fun c hc=>by rw[St.at_put,if_neg (fun e=>hb (by rw[← e];exact hc))]
theorem tget_spec(hP:HpAt lo1 s p H NN P)(hS:STab PY lo s t T N O)(hfs:0<T.fs)(hd:∀ b,P b→¬ O b)(hT:TabOk H T)(hlo:lo≤s.next)(hN:N+1≤1000000){f k o:Int}(ho : -9223372036854775808≤o∧o≤9223372036854775807){x:ByteArray}{r:Option Ent}(hr:LookE H x o r)
  (hR:∀ s' O' v,STab PY lo s' t (getT H T f k o x r) (N+1) O'→Upd s s' O O'→GetR H x o v→R (vOf v) s') :
  QC prog w0 18 #[.pointer (some ⟨t,0,none⟩),.pointer (some ⟨p,0,none⟩),.int .i64 f,.int .i64 k,.int .i64 o,.string x] s R:=by
 refine wfun2 hmix ok18 func18 rfl ntmps18 results18 (by simp) ?_
 obtain⟨hpro,tg,pf,pn,sl0,bs,h⟩:=hP
 obtain⟨al,rb,cp,sl,hs⟩:=hS
 have l1:s.le (s.new (.cells [.int .i64 0,.int .i64 0,.string ⟨#[]⟩] 36 true)):=lN (lR _)
 have c1:(s.new (.cells [.int .i64 0,.int .i64 0,.string ⟨#[]⟩] 36 true)).at' s.next=some (.cells [.int .i64 0,.int .i64 0,.string ⟨#[]⟩] 36 true):=by rw[St.at_new,if_pos rfl]
 have n1:(s.new (.cells [.int .i64 0,.int .i64 0,.string ⟨#[]⟩] 36 true)).next=s.next+1:=rfl
 have htn:=(hs.own _ hs.pin).2
 have htP:¬ P t:=fun hc=>hd t hc hs.pin
 have hPn:∀ c,P c→c<s.next:=fun c hc=>(h.own c hc).2
 have wm:IntKind.i64.wrap ((T.misses:Int)+1)=((T.misses+1:Nat):Int):=by rw[wrap_i64 (by have:=hs.cnt.2;omega)];omega
 have wh:IntKind.i64.wrap ((T.hits:Int)+1)=((T.hits+1:Nat):Int):=by rw[wrap_i64 (by have:=hs.cnt.1;omega)];omega
 have fin:∀ {s8 s9:St M}{O8:Nat→Prop}{v:V3},STab PY lo s8 t (getT H T f k o x r) (N+1) O8→(∀ b,b<s.next→¬ O b→s8.at' b=s.at' b)→s.next+1≤s8.next→(∀ b,O8 b→O b∨s.next+1≤b)→s8.le s9→GetR H x o v→R (.agg #[.int .i64 v.1,.int .i64 v.2.1,.string v.2.2]) (s9.put s.next (.cells [.int .i64 v.1,.int .i64 v.2.1,.string v.2.2] 36 true)):=fun {s8 s9 O8 v} a8 k8 n8 o8 l9 hv=>by
  refine hR _ O8 v ((a8.le l9).same (Nat.le_refl _) fun b hb=>?_) ⟨?_,fun b hb hO=>?_,fun b hb=>?_⟩ hv
  ·rw[St.at_put,if_neg (fun e=>by rcases o8 b hb with h1|h1;have:=(hs.own b h1).2;omega;omega)]
  ·have:=l9.1;simp only[St.next_put];omega
  ·rw[St.at_put,if_neg (by omega),l9.2 b (by omega)];exact k8 b hb hO
  ·rcases o8 b hb with h1|h1
   ·exact .inl h1
   ·exact .inr (by omega)
 simp -implicitDefEqProofs only[↓Zd,(Zp),simprocAttr,Value.cells,(HEx),co51]
 generalize s.new (.cells [.int .i64 0,.int .i64 0,.string ⟨#[]⟩] 36 true)=s1 at l1 c1 n1 ⊢
 have h1:=h.le l1
 have hs1:=hs.le l1
 have hb1:s1.at' t=some (.cells [al,.int .i64 (T.hits:Int),.int .i64 (T.misses:Int)] 84 true):=hs1.bl
 have htne:¬ s.next=t:=by omega
 refine sdead_spec hs1 hfs ?_
 simp -implicitDefEqProofs only[↓Zd,(Zp),simprocAttr,(HEx),co36]
 refine sfind_spec hs1 hfs (fun hnot=>?_) (fun i j hfi hkj hi hj hhas=>?_)
 ·simp -implicitDefEqProofs only[↓Zd,(Zp),simprocAttr,(STx),co12]
  refine hshape_spec h1 ho ?_
  have hgt:getT H T f k o x r=missT T:=by unfold getT;split<;>first|rfl|(rw[if_pos hnot])
  rw[hgt]at fin
  by_cases h0:shapeV H o=0
  ·simp -implicitDefEqProofs only[↓Zd,(Zp),simprocAttr,qP,Value.cells,qC,cld2,(HEx),(STx),h0,hb1,wm,co19]
   refine hget_spec (hp_put h1 htP) ho fun s9 v l9 hv=>?_
   have a8:=miss_at (s':=s1.put t (.cells [al,.int .i64 (T.hits:Int),.int .i64 ((T.misses+1:Nat):Int)] 84 true)) hs1 rfl (by rw[St.at_put,if_pos rfl]) (fun b hb=>by rw[St.at_put,if_neg hb])
   have n9:=l9.1
   simp only[St.next_put]at n9
   have c9:s9.at' s.next=some (.cells [.int .i64 0,.int .i64 0,.string ⟨#[]⟩] 36 true):=by rw[l9.2 _ (by simp only[St.next_put];omega),St.at_put,if_neg htne];assumption
   unfold vOf vA
   simp -implicitDefEqProofs only[↓Zd,(Zp),simprocAttr,qP,Value.cells,cut,qC,cld2,(HEx),c9]
   exact fin ⟨_,_,_,_,a8⟩ (fun b hb hO=>by rw[St.at_put,if_neg (fun e=>hO (by rw[e];exact hs.pin))];exact l1.2 b (by omega)) (by simp only[St.next_put];omega) (fun b hb => .inl hb) l9 hv
  ·simp -implicitDefEqProofs only[↓Zd,(Zp),simprocAttr,(HEx),h0,co52]
   refine splays0_spec ?_
   simp -implicitDefEqProofs only[↓Zd,(Zp),simprocAttr,qP,Value.cells,qC,cld2,(HEx),(STx),hb1,wm,co19]
   refine hget_spec (hp_put h1 htP) ho fun s9 v l9 hv=>?_
   have a8:=miss_at (s':=s1.put t (.cells [al,.int .i64 (T.hits:Int),.int .i64 ((T.misses+1:Nat):Int)] 84 true)) hs1 rfl (by rw[St.at_put,if_pos rfl]) (fun b hb=>by rw[St.at_put,if_neg hb])
   have n9:=l9.1
   simp only[St.next_put]at n9
   have c9:s9.at' s.next=some (.cells [.int .i64 0,.int .i64 0,.string ⟨#[]⟩] 36 true):=by rw[l9.2 _ (by simp only[St.next_put];omega),St.at_put,if_neg htne];assumption
   unfold vOf vA
   simp -implicitDefEqProofs only[↓Zd,(Zp),simprocAttr,qP,Value.cells,cut,qC,cld2,(HEx),c9]
   exact fin ⟨_,_,_,_,a8⟩ (fun b hb hO=>by rw[St.at_put,if_neg (fun e=>hO (by rw[e];exact hs.pin))];exact l1.2 b (by omega)) (by simp only[St.next_put];omega) (fun b hb => .inl hb) l9 hv
 ·subst hfi hkj
  rw[getT,if_neg (not_not_intro hhas),siteAt_nat]at fin
  simp -implicitDefEqProofs only[↓Zd,(Zp),simprocAttr,(STx),co12]
  refine hshape_spec h1 ho ?_
  by_cases h0:shapeV H o=0
  ·rw[if_pos h0]at fin
   simp -implicitDefEqProofs only[↓Zd,(Zp),simprocAttr,qP,Value.cells,qC,cld2,(HEx),(STx),h0,hb1,wm,co19]
   refine hget_spec (hp_put h1 htP) ho fun s9 v l9 hv=>?_
   have a8:=miss_at (s':=s1.put t (.cells [al,.int .i64 (T.hits:Int),.int .i64 ((T.misses+1:Nat):Int)] 84 true)) hs1 rfl (by rw[St.at_put,if_pos rfl]) (fun b hb=>by rw[St.at_put,if_neg hb])
   have n9:=l9.1
   simp only[St.next_put]at n9
   have c9:s9.at' s.next=some (.cells [.int .i64 0,.int .i64 0,.string ⟨#[]⟩] 36 true):=by rw[l9.2 _ (by simp only[St.next_put];omega),St.at_put,if_neg htne];assumption
   unfold vOf vA
   simp -implicitDefEqProofs only[↓Zd,(Zp),simprocAttr,qP,Value.cells,cut,qC,cld2,(HEx),c9]
   exact fin ⟨_,_,_,_,a8⟩ (fun b hb hO=>by rw[St.at_put,if_neg (fun e=>hO (by rw[e];exact hs.pin))];exact l1.2 b (by omega)) (by simp only[St.next_put];omega) (fun b hb => .inl hb) l9 hv
  rw[if_neg h0]at fin
  simp -implicitDefEqProofs only[↓Zd,(Zp),simprocAttr,(HEx),h0,co52]
  refine splays_spec (c:=fun m=>sitC (T.st i m) (sl i m)) (hs1.row i hi) (fun _=>rfl) hj rfl fun s2 n2 b2 k2=>?_
  have hrP:¬ P (rb i):=fun hc=>hd _ hc (hs.pinR i hi)
  have a2:=plays_at hs1 hi hj n2 b2 k2
  have h2:=h1.same (s':=s2) (by omega) fun c hc=>k2 c (fun e=>hrP (by rw[← e];exact hc))
  have hrn:=(hs.own _ (hs.pinR i hi)).2
  have c2:=(k2 s.next (by omega)).trans c1
  have hbt2:s2.at' t=some (.cells [al,.int .i64 (T.hits:Int),.int .i64 (T.misses:Int)] 84 true):=a2.bl
  have kk2:∀ b,b<s.next→¬ O b→s2.at' b=s.at' b:=fun b hb hO=>by rw[k2 b (fun e=>hO (by rw[e];exact hs.pinR i hi))];exact l1.2 b hb
  cases hpl:playsB (T.st i j) false x with
  |false =>
   rw[plays_no hpl,putT_same]at a2
   rw[if_pos hpl]at fin
   simp -implicitDefEqProofs only[↓Zd,(Zp),simprocAttr,qP,Value.cells,qC,cld2,(HEx),(STx),hbt2,wm,co19]
   refine hget_spec (hp_put h2 htP) ho fun s9 v l9 hv=>?_
   have a8:=miss_at (s':=s2.put t (.cells [al,.int .i64 (T.hits:Int),.int .i64 ((T.misses+1:Nat):Int)] 84 true)) a2 rfl (by rw[St.at_put,if_pos rfl]) (fun b hb=>by rw[St.at_put,if_neg hb])
   have n9:=l9.1
   simp only[St.next_put]at n9
   have c9:s9.at' s.next=some (.cells [.int .i64 0,.int .i64 0,.string ⟨#[]⟩] 36 true):=by rw[l9.2 _ (by simp only[St.next_put];omega),St.at_put,if_neg htne];assumption
   unfold vOf vA
   simp -implicitDefEqProofs only[↓Zd,(Zp),simprocAttr,qP,Value.cells,cut,qC,cld2,(HEx),c9]
   exact fin ⟨_,_,_,_,a8⟩ (fun b hb hO=>by rw[St.at_put,if_neg (fun e=>hO (by rw[e];exact hs.pin))];exact kk2 b hb hO) (by simp only[St.next_put];omega) (fun b hb => .inl hb) l9 hv
  |true =>
   rw[plays_yes hpl]at a2 b2
   rw[if_neg (by rw[hpl];decide)]at fin
   have hz0:SitOk H (T.st i j):=hT i j hi hj
   have hz:=plays_ok hz0 false x
   have hpi:=plays_is hpl
   have hE2:=a2.es i j hi hj
   rw[putT_st]at hE2
   simp -implicitDefEqProofs only[↓Zd,(Zp),simprocAttr,(HEx),co53]
   refine shit_spec (c:=fun m=>if m=j then sitC (playsS (T.st i j) false x) (sl i j) else sitC (T.st i m) (sl i m)) (z:=playsS (T.st i j) false x) (v:=sl i j) b2 (by omega) (fun m=>by (try dsimp only);split<;>rfl) hj (if_pos rfl) hE2 (fun b hb=>by have:=(hs.own b hb).2;omega) (by have:=hz.few;omega) (fun hno s3 hs3=>?_) (fun i1 eb hyes hi1 hsl s3 hs3=>?_)
   ·rw[hno]at fin
    have hbt3:=(hs3.2 t (by omega)).trans hbt2
    have c3:=(hs3.2 s.next (by omega)).trans c2
    have n3:=hs3.1
    have kk3:∀ b,b<s.next→¬ O b→s3.at' b=s.at' b:=fun b hb hO=>(hs3.2 b (by omega)).trans (kk2 b hb hO)
    have a3:=a2.le hs3
    have h3:=h2.le hs3
    simp -implicitDefEqProofs only[↓Zd,(Zp),simprocAttr,qP,Value.cells,qC,cld2,(HEx),(STx),hbt3,wm,co56]
    have a5:=miss_at (s':=s3.put t (.cells [al,.int .i64 (T.hits:Int),.int .i64 ((T.misses+1:Nat):Int)] 84 true)) a3 rfl (by rw[St.at_put,if_pos rfl];rfl) (fun b hb=>by rw[St.at_put,if_neg hb])
    have h5:=hp_put (B := .cells [al,.int .i64 (T.hits:Int),.int .i64 ((T.misses+1:Nat):Int)] 84 true) h3 htP
    have k5:∀ b,b<s.next→¬ O b→(s3.put t (.cells [al,.int .i64 (T.hits:Int),.int .i64 ((T.misses+1:Nat):Int)] 84 true)).at' b=s.at' b:=fun b hb hO=>by rw[St.at_put,if_neg (fun e=>hO (by rw[e];exact hs.pin))];exact kk3 b hb hO
    have c5:(s3.put t (.cells [al,.int .i64 (T.hits:Int),.int .i64 ((T.misses+1:Nat):Int)] 84 true)).at' s.next=some (.cells [.int .i64 0,.int .i64 0,.string ⟨#[]⟩] 36 true):=by rw[St.at_put,if_neg htne];exact c3
    have n5:s.next+1≤(s3.put t (.cells [al,.int .i64 (T.hits:Int),.int .i64 ((T.misses+1:Nat):Int)] 84 true)).next:=by simp only[St.next_put];omega
    generalize s3.put t (.cells [al,.int .i64 (T.hits:Int),.int .i64 ((T.misses+1:Nat):Int)] 84 true)=s5 at a5 h5 k5 c5 n5 ⊢
    refine slook_spec h5 hpro ho (fun s6 l6 hlk=>?_) (fun s6 e dl l6 hlk hD=>?_)
    ·have hr0:=hr.one hlk
     subst hr0
     simp -implicitDefEqProofs only[↓Zd,(Zp),simprocAttr,qP,Value.cells,qC,(STx),co19]
     have n6:=l6.1
     refine hget_spec (h5.le (lT l6 (by repeat (first|exact lR _|assumption|refine lN ?_|refine lP ?_ (by first|omega|(simp only[(Sn)];omega))|refine lT ?_ (by assumption))))) ho fun s9 v l9 hv=>?_
     have n9:=l9.1
     simp only[(Sn)]at n9
     have l59:s5.le s9:=lT (lT l6 (by repeat (first|exact lR _|assumption|refine lN ?_|refine lP ?_ (by first|omega|(simp only[(Sn)];omega))|refine lT ?_ (by assumption)))) l9
     have c9:=(l59.2 s.next (by omega)).trans c5
     unfold vOf vA
     simp -implicitDefEqProofs only[↓Zd,(Zp),simprocAttr,qP,Value.cells,cut,qC,cld2,(HEx),c9]
     exact fin ⟨_,_,_,_,a5⟩ k5 n5 (fun b hb => .inl hb) l59 hv
    ·have hr0:=hr.one hlk
     subst hr0
     obtain⟨qa,qn,qc,rfl⟩:=hD.form
     have n6:=l6.1
     simp -implicitDefEqProofs only[↓Zd,(Zp),simprocAttr,qP,Value.cells,cut,qC,cld2,(STx),entC,co57]
     have l7:s6.le ((s6.new (.cells [.int .i64 0,.int .i64 0,.int .i64 0,.int .i64 0,.slice none 0 0] 51 true)).put s6.next (.cells [.int .i64 (e.shape:Int),.int .i64 e.holder,.int .i64 e.slot,.int .i64 (e.to:Int),.slice qa qn qc] 51 true)):=(by repeat (first|exact lR _|assumption|refine lN ?_|refine lP ?_ (by first|omega|(simp only[(Sn)];omega))|refine lT ?_ (by assumption)))
     have n7:((s6.new (.cells [.int .i64 0,.int .i64 0,.int .i64 0,.int .i64 0,.slice none 0 0] 51 true)).put s6.next (.cells [.int .i64 (e.shape:Int),.int .i64 e.holder,.int .i64 e.slot,.int .i64 (e.to:Int),.slice qa qn qc] 51 true)).next=s6.next+1:=rfl
     generalize (s6.new (.cells [.int .i64 0,.int .i64 0,.int .i64 0,.int .i64 0,.slice none 0 0] 51 true)).put s6.next (.cells [.int .i64 (e.shape:Int),.int .i64 e.holder,.int .i64 e.slot,.int .i64 (e.to:Int),.slice qa qn qc] 51 true)=s7 at l7 n7 ⊢
     have l57:=lT l6 l7
     have a7:=(a5.le l57).more (O':=fun b=>O b∨s.next+1≤b∧b<s7.next) (fun b hb => .inl hb) (fun b hb=>by rcases hb with hb|hb;have:=hs.own b hb;exact⟨this.1,by omega⟩;exact⟨by omega,hb.2⟩)
     have hD7:=hD.same (s':=s7) (O':=fun b=>O b∨s.next+1≤b∧b<s7.next) fun b hb=>⟨.inr ⟨by omega,by omega⟩,l7.2 b hb.2⟩
     have hst:(missT (putT T (i:Int) (j:Int) (playsS (T.st i j) false x))).st i j=playsS (T.st i j) false x:=putT_st T i j _
     refine skeep_spec (M:=M) a7 (i:=i) (j:=j) (e:=e) (dl := .slice qa qn qc) hi hj (by omega) (by rw[hst];exact hz.few) (by rw[hst];exact hpi.2.2.2.2.1) hD7 fun s8 O8 sl8 a8 u8=>?_
     rw[hst,putT_two]at a8
     have n8:=u8.next
     have hP8:∀ c,P c→s8.at' c=s7.at' c:=fun c hc=>u8.keep c (by have:=hPn c hc;omega) fun hO=>by
      rcases hO with hO|hO
      ·exact hd c hc hO
      ·have:=hPn c hc;omega
     have h8:=(h5.le l57).same n8 hP8
     have hns:¬ (O s.next∨s.next+1≤s.next∧s.next<s7.next):=fun hO=>by
      rcases hO with hO|hO
      ·have:=(hs.own _ hO).2;omega
      ·omega
     have c8:=(u8.keep s.next (by omega) hns).trans ((l57.2 s.next (by omega)).trans c5)
     simp -implicitDefEqProofs only[↓Zd,(Zp),simprocAttr,(HEx),co19]
     refine hget_spec h8 ho fun s9 v l9 hv=>?_
     have n9:=l9.1
     have c9:=(l9.2 s.next (by omega)).trans c8
     unfold vOf vA
     simp -implicitDefEqProofs only[↓Zd,(Zp),simprocAttr,qP,Value.cells,cut,qC,cld2,(HEx),c9]
     exact fin ⟨_,_,_,_,a8⟩ (fun b hb hO=>by rw[u8.keep b (by omega) (fun hc=>by rcases hc with hc|hc;exact hO hc;omega),l57.2 b (by omega)];exact k5 b hb hO) (by omega) (fun b hb=>by
      rcases u8.own b hb with hb|hb
      ·rcases hb with hb|hb
       ·exact .inl hb
       ·exact .inr hb.1
      ·exact .inr (by omega)) l9 hv
   ·rw[hyes]at fin
    have hbt3:=(hs3.2 t (by omega)).trans hbt2
    have c3:=(hs3.2 s.next (by omega)).trans c2
    have n3:=hs3.1
    have kk3:∀ b,b<s.next→¬ O b→s3.at' b=s.at' b:=fun b hb hO=>(hs3.2 b (by omega)).trans (kk2 b hb hO)
    have a3:=a2.le hs3
    have h3:=h2.le hs3
    have hgo:=hz.gets hpi.2.1 _ (List.getElem_mem hi1)
    rw[hpi.2.2.1]at hgo
    obtain⟨q1,q2,q3,q4,q5,q6⟩:=hgo.small h.ok h.fo.ok
    have hgd:(playsS (T.st i j) false x).es.getD i1 e0=(playsS (T.st i j) false x).es[i1]:=getD_at hi1
    rw[← hgd]at q1 q2 q3 q4 q5 q6
    obtain⟨dlf,g1,g2,g3,g4⟩:=hE2
    rw[hsl]at g1 g2
    rcases g1 with ⟨g1,_,_⟩|⟨eb2,junk,ge,g1,_⟩
    ·omega
    cases ge
    have hebn:=(hs.own _ (g2 _ _ _ rfl)).2
    have ge3:s3.at' eb=_:=(hs3.2 eb (by simp only at hebn;omega)).trans g1
    simp -implicitDefEqProofs only[↓Zd,(Zp),simprocAttr,(STx),co54]
    refine sholds_spec h3 (c:=fun m=>entC ((playsS (T.st i j) false x).es.getD m e0) (dlf m)) (e:=(playsS (T.st i j) false x).es.getD i1 e0) (dl:=dlf i1) (O:=O) (fun _=>rfl) ge3 (by simp only at hebn;omega) hi1 rfl ((g3 i1 hi1).same fun b hb=>⟨hb,hs3.2 b (by have:=(hs.own b hb).2;omega)⟩) (fun b hb=>by have:=(hs.own b hb).2;omega) (by omega) (fun d hd=>by have:=q6 d hd;omega) fun s4 hs4=>?_
    have n4:=hs4.1
    have hbt4:=(hs4.2 t (by omega)).trans hbt3
    have c4:=(hs4.2 s.next (by omega)).trans c3
    have kk4:∀ b,b<s.next→¬ O b→s4.at' b=s.at' b:=fun b hb hO=>(hs4.2 b (by omega)).trans (kk3 b hb hO)
    have a4:=a3.le hs4
    have h4:=h3.le hs4
    have ge4:s4.at' eb=_:=(hs4.2 eb (by simp only at hebn;omega)).trans ge3
    cases hh:holdsE H ((playsS (T.st i j) false x).es.getD i1 e0) with
    |true =>
     simp only[hh,if_true]at fin
     simp -implicitDefEqProofs only[↓Zd,(Zp),simprocAttr,qP,Value.cells,qC,cld2,(HEx),(STx),hbt4,wh,co55]
     have a5:=hit_at (s':=s4.put t (.cells [al,.int .i64 ((T.hits+1:Nat):Int),.int .i64 (T.misses:Int)] 84 true)) a4 rfl (by rw[St.at_put,if_pos rfl];rfl) (fun b hb=>by rw[St.at_put,if_neg hb])
     have hebt:¬ eb=t:=at_apart ge4 hbt4 (by decide)
     refine sval_spec (hp_put h4 htP) (c:=fun m=>entC ((playsS (T.st i j) false x).es.getD m e0) (dlf m)) (e:=(playsS (T.st i j) false x).es.getD i1 e0) (dl:=dlf i1) (junk:=junk) (fun _=>rfl) (by rw[St.at_put,if_neg hebt];exact ge4) (by simp only[St.next_put]at hebn ⊢;omega) hi1 rfl ho (by omega) (by omega) fun s9 l9=>?_
     have hv:=get_hit h.ok hpro hz0 hpl hyes hh
     have n9:=l9.1
     simp only[St.next_put]at n9
     have c9:s9.at' s.next=some (.cells [.int .i64 0,.int .i64 0,.string ⟨#[]⟩] 36 true):=by rw[l9.2 _ (by simp only[St.next_put];omega),St.at_put,if_neg htne];exact c4
     unfold vOf vA
     simp -implicitDefEqProofs only[↓Zd,(Zp),simprocAttr,qP,Value.cells,cut,qC,cld2,(HEx),c9]
     exact fin ⟨_,_,_,_,a5⟩ (fun b hb hO=>by rw[St.at_put,if_neg (fun e=>hO (by rw[e];exact hs.pin))];exact kk4 b hb hO) (by simp only[St.next_put];omega) (fun b hb => .inl hb) l9 hv
    |false =>
     simp only[hh,Bool.false_eq_true,if_false]at fin
     simp -implicitDefEqProofs only[↓Zd,(Zp),simprocAttr,qP,Value.cells,qC,cld2,(HEx),(STx),hbt4,wm,co56]
     have a5:=miss_at (s':=s4.put t (.cells [al,.int .i64 (T.hits:Int),.int .i64 ((T.misses+1:Nat):Int)] 84 true)) a4 rfl (by rw[St.at_put,if_pos rfl];rfl) (fun b hb=>by rw[St.at_put,if_neg hb])
     have h5:=hp_put (B := .cells [al,.int .i64 (T.hits:Int),.int .i64 ((T.misses+1:Nat):Int)] 84 true) h4 htP
     have k5:∀ b,b<s.next→¬ O b→(s4.put t (.cells [al,.int .i64 (T.hits:Int),.int .i64 ((T.misses+1:Nat):Int)] 84 true)).at' b=s.at' b:=fun b hb hO=>by rw[St.at_put,if_neg (fun e=>hO (by rw[e];exact hs.pin))];exact kk4 b hb hO
     have c5:(s4.put t (.cells [al,.int .i64 (T.hits:Int),.int .i64 ((T.misses+1:Nat):Int)] 84 true)).at' s.next=some (.cells [.int .i64 0,.int .i64 0,.string ⟨#[]⟩] 36 true):=by rw[St.at_put,if_neg htne];exact c4
     have n5:s.next+1≤(s4.put t (.cells [al,.int .i64 (T.hits:Int),.int .i64 ((T.misses+1:Nat):Int)] 84 true)).next:=by simp only[St.next_put];omega
     generalize s4.put t (.cells [al,.int .i64 (T.hits:Int),.int .i64 ((T.misses+1:Nat):Int)] 84 true)=s5 at a5 h5 k5 c5 n5 ⊢
     refine slook_spec h5 hpro ho (fun s6 l6 hlk=>?_) (fun s6 e dl l6 hlk hD=>?_)
     ·have hr0:=hr.one hlk
      subst hr0
      simp -implicitDefEqProofs only[↓Zd,(Zp),simprocAttr,qP,Value.cells,qC,(STx),co19]
      have n6:=l6.1
      refine hget_spec (h5.le (lT l6 (by repeat (first|exact lR _|assumption|refine lN ?_|refine lP ?_ (by first|omega|(simp only[(Sn)];omega))|refine lT ?_ (by assumption))))) ho fun s9 v l9 hv=>?_
      have n9:=l9.1
      simp only[(Sn)]at n9
      have l59:s5.le s9:=lT (lT l6 (by repeat (first|exact lR _|assumption|refine lN ?_|refine lP ?_ (by first|omega|(simp only[(Sn)];omega))|refine lT ?_ (by assumption)))) l9
      have c9:=(l59.2 s.next (by omega)).trans c5
      unfold vOf vA
      simp -implicitDefEqProofs only[↓Zd,(Zp),simprocAttr,qP,Value.cells,cut,qC,cld2,(HEx),c9]
      exact fin ⟨_,_,_,_,a5⟩ k5 n5 (fun b hb => .inl hb) l59 hv
     ·have hr0:=hr.one hlk
      subst hr0
      obtain⟨qa,qn,qc,rfl⟩:=hD.form
      have n6:=l6.1
      simp -implicitDefEqProofs only[↓Zd,(Zp),simprocAttr,qP,Value.cells,cut,qC,cld2,(STx),entC,co57]
      have l7:s6.le ((s6.new (.cells [.int .i64 0,.int .i64 0,.int .i64 0,.int .i64 0,.slice none 0 0] 51 true)).put s6.next (.cells [.int .i64 (e.shape:Int),.int .i64 e.holder,.int .i64 e.slot,.int .i64 (e.to:Int),.slice qa qn qc] 51 true)):=(by repeat (first|exact lR _|assumption|refine lN ?_|refine lP ?_ (by first|omega|(simp only[(Sn)];omega))|refine lT ?_ (by assumption)))
      have n7:((s6.new (.cells [.int .i64 0,.int .i64 0,.int .i64 0,.int .i64 0,.slice none 0 0] 51 true)).put s6.next (.cells [.int .i64 (e.shape:Int),.int .i64 e.holder,.int .i64 e.slot,.int .i64 (e.to:Int),.slice qa qn qc] 51 true)).next=s6.next+1:=rfl
      generalize (s6.new (.cells [.int .i64 0,.int .i64 0,.int .i64 0,.int .i64 0,.slice none 0 0] 51 true)).put s6.next (.cells [.int .i64 (e.shape:Int),.int .i64 e.holder,.int .i64 e.slot,.int .i64 (e.to:Int),.slice qa qn qc] 51 true)=s7 at l7 n7 ⊢
      have l57:=lT l6 l7
      have a7:=(a5.le l57).more (O':=fun b=>O b∨s.next+1≤b∧b<s7.next) (fun b hb => .inl hb) (fun b hb=>by rcases hb with hb|hb;have:=hs.own b hb;exact⟨this.1,by omega⟩;exact⟨by omega,hb.2⟩)
      have hD7:=hD.same (s':=s7) (O':=fun b=>O b∨s.next+1≤b∧b<s7.next) fun b hb=>⟨.inr ⟨by omega,by omega⟩,l7.2 b hb.2⟩
      have hst:(missT (putT T (i:Int) (j:Int) (playsS (T.st i j) false x))).st i j=playsS (T.st i j) false x:=putT_st T i j _
      refine skeep_spec (M:=M) a7 (i:=i) (j:=j) (e:=e) (dl := .slice qa qn qc) hi hj (by omega) (by rw[hst];exact hz.few) (by rw[hst];exact hpi.2.2.2.2.1) hD7 fun s8 O8 sl8 a8 u8=>?_
      rw[hst,putT_two]at a8
      have n8:=u8.next
      have hP8:∀ c,P c→s8.at' c=s7.at' c:=fun c hc=>u8.keep c (by have:=hPn c hc;omega) fun hO=>by
       rcases hO with hO|hO
       ·exact hd c hc hO
       ·have:=hPn c hc;omega
      have h8:=(h5.le l57).same n8 hP8
      have hns:¬ (O s.next∨s.next+1≤s.next∧s.next<s7.next):=fun hO=>by
       rcases hO with hO|hO
       ·have:=(hs.own _ hO).2;omega
       ·omega
      have c8:=(u8.keep s.next (by omega) hns).trans ((l57.2 s.next (by omega)).trans c5)
      simp -implicitDefEqProofs only[↓Zd,(Zp),simprocAttr,(HEx),co19]
      refine hget_spec h8 ho fun s9 v l9 hv=>?_
      have n9:=l9.1
      have c9:=(l9.2 s.next (by omega)).trans c8
      unfold vOf vA
      simp -implicitDefEqProofs only[↓Zd,(Zp),simprocAttr,qP,Value.cells,cut,qC,cld2,(HEx),c9]
      exact fin ⟨_,_,_,_,a8⟩ (fun b hb hO=>by rw[u8.keep b (by omega) (fun hc=>by rcases hc with hc|hc;exact hO hc;omega),l57.2 b (by omega)];exact k5 b hb hO) (by omega) (fun b hb=>by
       rcases u8.own b hb with hb|hb
       ·rcases hb with hb|hb
        ·exact .inl hb
        ·exact .inr hb.1
       ·exact .inr (by omega)) l9 hv
end
section
variable {lo t p N NN:Nat}{H:Hp}{T:Tab}{O P:Nat→Prop}{al:Value}{rb cp:Nat→Nat}{sl:Nat→Nat→Value}
theorem ha_put{s:St M}(h:HpAt lo s p H NN P){b:Nat}{B:Blk}(hb:¬ P b):HpAt lo (s.put b B) p H NN P:=
 h.same (Nat.le_refl _) fun c hc=>by rw[St.at_put,if_neg (fun e=>hb (by rw[← e];exact hc))]
theorem tset_spec(h:HpAt lo s p H NN P)(hS:STab PY lo s t T N O)(hfs:0<T.fs)(hd:∀ b,P b→¬ O b)(hT:TabOk H T)(hlo:lo≤s.next)(hN:N+1≤1000000)(hNN:NN+3≤1000000)(h32:32≤NN){f k o:Int}(ho : -9223372036854775808≤o∧o≤9223372036854775807){x vy:ByteArray}{vk vn:Int}
  (hR:∀ s' P' O',HpAt lo s' p (setH H o x (vk,vn,vy)) (NN+3) P'→STab PY lo s' t (setT H T f k o x (vk,vn,vy)) (N+1) O'→(∀ b,P' b→¬ O' b)→s.next≤s'.next→(∀ b,b<s.next→¬ P b→¬ O b→s'.at' b=s.at' b)→(∀ b,P' b→P b∨s.next≤b)→(∀ b,O' b→O b∨s.next≤b)→R (.int .i64 (setE H o x)) s') :
  QC prog w0 20 #[.pointer (some ⟨t,0,none⟩),.pointer (some ⟨p,0,none⟩),.int .i64 f,.int .i64 k,.int .i64 o,.string x,vA vk vn vy] s R:=by
 refine wfun2 hmix ok20 func20 rfl ntmps20 results20 (by simp) ?_
 have hpro:=h.1
 have hok:=h.ok
 have hF:=h.fok
 have hm150:H.F.length≤150:=by
  obtain⟨_,tg,pf,pn,sl0,bs,hin⟩:=h
  have:=hin.fo.le;omega
 obtain⟨al,rb,cp,sl,hs⟩:=hS
 have l1:s.le (s.new (.cells [.int .i64 vk,.int .i64 vn,.string vy] 36 true)):=lN (lR _)
 have c1:(s.new (.cells [.int .i64 vk,.int .i64 vn,.string vy] 36 true)).at' s.next=some (.cells [.int .i64 vk,.int .i64 vn,.string vy] 36 true):=by rw[St.at_new,if_pos rfl]
 have n1:(s.new (.cells [.int .i64 vk,.int .i64 vn,.string vy] 36 true)).next=s.next+1:=rfl
 have htn:=(hs.own _ hs.pin).2
 have htP:¬ P t:=fun hc=>hd t hc hs.pin
 have hPn:∀ c,P c→c<s.next:=fun c hc=>(h.own c hc).2
 have hOn:∀ c,O c→c<s.next:=fun c hc=>(hs.own c hc).2
 have wm:IntKind.i64.wrap ((T.misses:Int)+1)=((T.misses+1:Nat):Int):=by rw[wrap_i64 (by have:=hs.cnt.2;omega)];omega
 have wh:IntKind.i64.wrap ((T.hits:Int)+1)=((T.hits+1:Nat):Int):=by rw[wrap_i64 (by have:=hs.cnt.1;omega)];omega
 simp -implicitDefEqProofs only[↓Zd,(Zp),simprocAttr,qP,Value.cells,(HEx),vA,co51]
 generalize s.new (.cells [.int .i64 vk,.int .i64 vn,.string vy] 36 true)=s1 at l1 c1 n1 ⊢
 have h1:=h.le l1
 have hs1:=hs.le l1
 have hb1:s1.at' t=some (.cells [al,.int .i64 (T.hits:Int),.int .i64 (T.misses:Int)] 84 true):=hs1.bl
 have htne:¬ s.next=t:=by omega
 obtain⟨_,tg,pf,pn,sl0,bs,hin1⟩:=id h1
 refine sdead_spec hs1 hfs ?_
 simp -implicitDefEqProofs only[↓Zd,(Zp),simprocAttr,(HEx),vA,co36]
 refine sfind_spec hs1 hfs (fun hnot=>?_) (fun i j hfi hkj hi hj hhas=>?_)
 ·simp -implicitDefEqProofs only[↓Zd,(Zp),simprocAttr,(STx),vA,co12]
  refine hshape_spec hin1 ho ?_
  have hgt:setT H T f k o x (vk,vn,vy)=missT T:=by unfold setT;split<;>first|rfl|(rw[if_pos hnot])
  rw[hgt]at hR
  by_cases h0:shapeV H o=0
  ·simp -implicitDefEqProofs only[↓Zd,(Zp),simprocAttr,qP,Value.cells,cut,qC,cld2,(HEx),(STx),vA,h0,hb1,wm,c1,htne,co21]
   have h2':=ha_put (B := .cells [al,.int .i64 (T.hits:Int),.int .i64 ((T.misses+1:Nat):Int)] 84 true) h1 htP
   refine hset_spec (k:=vk) (n:=vn) (y:=vy) h2' (by simp only[St.next_put];omega) hNN h32 ho fun s9 P9 h9 u9=>?_
   have a8:=miss_at (s':=s1.put t (.cells [al,.int .i64 (T.hits:Int),.int .i64 ((T.misses+1:Nat):Int)] 84 true)) hs1 rfl (by rw[St.at_put,if_pos rfl]) (fun b hb=>by rw[St.at_put,if_neg hb])
   have a9:=STab.other ⟨_,_,_,_,a8⟩ u9 hd
   have n9:=u9.next
   simp only[St.next_put]at n9
   simp -implicitDefEqProofs only[↓Zd,(Zp),simprocAttr,(HEx),vA]
   exact hR s9 P9 O h9 a9.1 a9.2 (by omega) (fun b hb hP hO=>by rw[u9.keep b (by simp only[St.next_put];omega) hP,St.at_put,if_neg (fun e=>hO (by rw[e];exact hs.pin))];exact l1.2 b (by omega)) (fun b hb=>by
    rcases u9.own b hb with hb|hb
    ·exact .inl hb
    ·simp only[St.next_put]at hb;exact .inr (by omega)) (fun b hb => .inl hb)
  ·simp -implicitDefEqProofs only[↓Zd,(Zp),simprocAttr,(HEx),vA,h0,co52]
   refine splays0_spec ?_
   simp -implicitDefEqProofs only[↓Zd,(Zp),simprocAttr,qP,Value.cells,cut,qC,cld2,(HEx),(STx),vA,hb1,wm,c1,htne,co21]
   have h2':=ha_put (B := .cells [al,.int .i64 (T.hits:Int),.int .i64 ((T.misses+1:Nat):Int)] 84 true) h1 htP
   refine hset_spec (k:=vk) (n:=vn) (y:=vy) h2' (by simp only[St.next_put];omega) hNN h32 ho fun s9 P9 h9 u9=>?_
   have a8:=miss_at (s':=s1.put t (.cells [al,.int .i64 (T.hits:Int),.int .i64 ((T.misses+1:Nat):Int)] 84 true)) hs1 rfl (by rw[St.at_put,if_pos rfl]) (fun b hb=>by rw[St.at_put,if_neg hb])
   have a9:=STab.other ⟨_,_,_,_,a8⟩ u9 hd
   have n9:=u9.next
   simp only[St.next_put]at n9
   simp -implicitDefEqProofs only[↓Zd,(Zp),simprocAttr,(HEx),vA]
   exact hR s9 P9 O h9 a9.1 a9.2 (by omega) (fun b hb hP hO=>by rw[u9.keep b (by simp only[St.next_put];omega) hP,St.at_put,if_neg (fun e=>hO (by rw[e];exact hs.pin))];exact l1.2 b (by omega)) (fun b hb=>by
    rcases u9.own b hb with hb|hb
    ·exact .inl hb
    ·simp only[St.next_put]at hb;exact .inr (by omega)) (fun b hb => .inl hb)
 ·subst hfi hkj
  rw[setT,if_neg (not_not_intro hhas),siteAt_nat]at hR
  simp -implicitDefEqProofs only[↓Zd,(Zp),simprocAttr,(STx),vA,co12]
  refine hshape_spec hin1 ho ?_
  by_cases h0:shapeV H o=0
  ·rw[if_pos h0]at hR
   simp -implicitDefEqProofs only[↓Zd,(Zp),simprocAttr,qP,Value.cells,cut,qC,cld2,(HEx),(STx),vA,h0,hb1,wm,c1,htne,co21]
   have h2':=ha_put (B := .cells [al,.int .i64 (T.hits:Int),.int .i64 ((T.misses+1:Nat):Int)] 84 true) h1 htP
   refine hset_spec (k:=vk) (n:=vn) (y:=vy) h2' (by simp only[St.next_put];omega) hNN h32 ho fun s9 P9 h9 u9=>?_
   have a8:=miss_at (s':=s1.put t (.cells [al,.int .i64 (T.hits:Int),.int .i64 ((T.misses+1:Nat):Int)] 84 true)) hs1 rfl (by rw[St.at_put,if_pos rfl]) (fun b hb=>by rw[St.at_put,if_neg hb])
   have a9:=STab.other ⟨_,_,_,_,a8⟩ u9 hd
   have n9:=u9.next
   simp only[St.next_put]at n9
   simp -implicitDefEqProofs only[↓Zd,(Zp),simprocAttr,(HEx),vA]
   exact hR s9 P9 O h9 a9.1 a9.2 (by omega) (fun b hb hP hO=>by rw[u9.keep b (by simp only[St.next_put];omega) hP,St.at_put,if_neg (fun e=>hO (by rw[e];exact hs.pin))];exact l1.2 b (by omega)) (fun b hb=>by
    rcases u9.own b hb with hb|hb
    ·exact .inl hb
    ·simp only[St.next_put]at hb;exact .inr (by omega)) (fun b hb => .inl hb)
  rw[if_neg h0]at hR
  simp -implicitDefEqProofs only[↓Zd,(Zp),simprocAttr,(HEx),vA,h0,co52]
  refine splays_spec (c:=fun m=>sitC (T.st i m) (sl i m)) (hs1.row i hi) (fun _=>rfl) hj rfl fun s2 n2 b2 k2=>?_
  have hrP:¬ P (rb i):=fun hc=>hd _ hc (hs.pinR i hi)
  have a2:=plays_at hs1 hi hj n2 b2 k2
  have h2:=h1.same (s':=s2) (by omega) fun c hc=>k2 c (fun e=>hrP (by rw[← e];exact hc))
  have hrn:=(hs.own _ (hs.pinR i hi)).2
  have c2:=(k2 s.next (by omega)).trans c1
  have hbt2:s2.at' t=some (.cells [al,.int .i64 (T.hits:Int),.int .i64 (T.misses:Int)] 84 true):=a2.bl
  have kk2:∀ b,b<s.next→¬ O b→s2.at' b=s.at' b:=fun b hb hO=>by rw[k2 b (fun e=>hO (by rw[e];exact hs.pinR i hi))];exact l1.2 b hb
  cases hpl:playsB (T.st i j) true x with
  |false =>
   rw[plays_no hpl,putT_same]at a2
   rw[if_pos hpl]at hR
   simp -implicitDefEqProofs only[↓Zd,(Zp),simprocAttr,qP,Value.cells,cut,qC,cld2,(HEx),(STx),vA,hbt2,wm,c2,htne,co21]
   have h2':=ha_put (B := .cells [al,.int .i64 (T.hits:Int),.int .i64 ((T.misses+1:Nat):Int)] 84 true) h2 htP
   refine hset_spec (k:=vk) (n:=vn) (y:=vy) h2' (by simp only[St.next_put];omega) hNN h32 ho fun s9 P9 h9 u9=>?_
   have a8:=miss_at (s':=s2.put t (.cells [al,.int .i64 (T.hits:Int),.int .i64 ((T.misses+1:Nat):Int)] 84 true)) a2 rfl (by rw[St.at_put,if_pos rfl]) (fun b hb=>by rw[St.at_put,if_neg hb])
   have a9:=STab.other ⟨_,_,_,_,a8⟩ u9 hd
   have n9:=u9.next
   simp only[St.next_put]at n9
   simp -implicitDefEqProofs only[↓Zd,(Zp),simprocAttr,(HEx),vA]
   exact hR s9 P9 O h9 a9.1 a9.2 (by omega) (fun b hb hP hO=>by rw[u9.keep b (by simp only[St.next_put];omega) hP,St.at_put,if_neg (fun e=>hO (by rw[e];exact hs.pin))];exact kk2 b hb hO) (fun b hb=>by
    rcases u9.own b hb with hb|hb
    ·exact .inl hb
    ·simp only[St.next_put]at hb;exact .inr (by omega)) (fun b hb => .inl hb)
  |true =>
   rw[plays_yes hpl]at a2 b2
   rw[if_neg (by rw[hpl];decide)]at hR
   have hz0:SitOk H (T.st i j):=hT i j hi hj
   have hz:=plays_ok hz0 true x
   have hpi:=plays_is hpl
   have hE2:=a2.es i j hi hj
   rw[putT_st]at hE2
   simp -implicitDefEqProofs only[↓Zd,(Zp),simprocAttr,(HEx),vA,co53]
   refine shit_spec (c:=fun m=>if m=j then sitC (playsS (T.st i j) true x) (sl i j) else sitC (T.st i m) (sl i m)) (z:=playsS (T.st i j) true x) (v:=sl i j) b2 (by omega) (fun m=>by (try dsimp only);split<;>rfl) hj (if_pos rfl) hE2 (fun b hb=>by have:=(hs.own b hb).2;omega) (by have:=hz.few;omega) (fun hno s3 hs3=>?_) (fun i1 eb hyes hi1 hsl s3 hs3=>?_)
   ·rw[hno]at hR
    have hbt3:=(hs3.2 t (by omega)).trans hbt2
    have c3:=(hs3.2 s.next (by omega)).trans c2
    have n3:=hs3.1
    have kk3:∀ b,b<s.next→¬ O b→s3.at' b=s.at' b:=fun b hb hO=>(hs3.2 b (by omega)).trans (kk2 b hb hO)
    have a3:=a2.le hs3
    have h3:=h2.le hs3
    simp -implicitDefEqProofs only[↓Zd,(Zp),simprocAttr,qP,Value.cells,qC,cld2,(HEx),(STx),vA,hbt3,wm,co62]
    have a4:=miss_at (s':=s3.put t (.cells [al,.int .i64 (T.hits:Int),.int .i64 ((T.misses+1:Nat):Int)] 84 true)) a3 rfl (by rw[St.at_put,if_pos rfl];rfl) (fun b hb=>by rw[St.at_put,if_neg hb])
    have h4:=ha_put (B := .cells [al,.int .i64 (T.hits:Int),.int .i64 ((T.misses+1:Nat):Int)] 84 true) h3 htP
    have kk4:∀ b,b<s.next→¬ O b→(s3.put t (.cells [al,.int .i64 (T.hits:Int),.int .i64 ((T.misses+1:Nat):Int)] 84 true)).at' b=s.at' b:=fun b hb hO=>by rw[St.at_put,if_neg (fun e=>hO (by rw[e];exact hs.pin))];exact kk3 b hb hO
    have c4:(s3.put t (.cells [al,.int .i64 (T.hits:Int),.int .i64 ((T.misses+1:Nat):Int)] 84 true)).at' s.next=some (.cells [.int .i64 vk,.int .i64 vn,.string vy] 36 true):=by rw[St.at_put,if_neg htne];exact c3
    have n4:(s3.put t (.cells [al,.int .i64 (T.hits:Int),.int .i64 ((T.misses+1:Nat):Int)] 84 true)).next=s3.next:=rfl
    generalize s3.put t (.cells [al,.int .i64 (T.hits:Int),.int .i64 ((T.misses+1:Nat):Int)] 84 true)=s4 at a4 h4 kk4 c4 n4 ⊢
    have hsh:0≤shapeV H o∧shapeV H o≤9223372036854775807:=by
     obtain⟨ob,hob,e1,e2⟩:=shapeV_some h0
     obtain⟨l,hl⟩:=fits_at hok hpro hob e2
     have:=(List.getElem?_eq_some_iff.1 hl).1
     omega
    obtain⟨_,tg4,pf4,pn4,sl4,bs4,hin4⟩:=id h4
    refine hslotof_spec (i:=shapeV H o) hin4 (by omega) fun s5 hs5=>?_
    have n5:=hs5.1
    have hne5:¬ s.next=s5.next:=by omega
    have c5:=(hs5.2 s.next (by omega)).trans c4
    simp -implicitDefEqProofs only[↓Zd,(Zp),simprocAttr,qP,Value.cells,cut,qC,cld2,(HEx),(STx),vA,bEnt2,c5,hne5,co21]
    have l6:s5.le ((s5.new (.cells [.int .i64 0,.int .i64 0,.int .i64 0,.int .i64 0,.slice none 0 0] 51 true)).put s5.next (.cells [.int .i64 (shapeV H o),.int .i64 0,.int .i64 (slotOf H (shapeV H o) x),.int .i64 0,.slice none 0 0] 51 true)):=lP (lN (lR _)) (Nat.le_refl _)
    have e6:((s5.new (.cells [.int .i64 0,.int .i64 0,.int .i64 0,.int .i64 0,.slice none 0 0] 51 true)).put s5.next (.cells [.int .i64 (shapeV H o),.int .i64 0,.int .i64 (slotOf H (shapeV H o) x),.int .i64 0,.slice none 0 0] 51 true)).at' s5.next=some (.cells [.int .i64 (shapeV H o),.int .i64 0,.int .i64 (slotOf H (shapeV H o) x),.int .i64 0,.slice none 0 0] 51 true):=by rw[St.at_put,if_pos rfl]
    have n6:((s5.new (.cells [.int .i64 0,.int .i64 0,.int .i64 0,.int .i64 0,.slice none 0 0] 51 true)).put s5.next (.cells [.int .i64 (shapeV H o),.int .i64 0,.int .i64 (slotOf H (shapeV H o) x),.int .i64 0,.slice none 0 0] 51 true)).next=s5.next+1:=rfl
    generalize (s5.new (.cells [.int .i64 0,.int .i64 0,.int .i64 0,.int .i64 0,.slice none 0 0] 51 true)).put s5.next (.cells [.int .i64 (shapeV H o),.int .i64 0,.int .i64 (slotOf H (shapeV H o) x),.int .i64 0,.slice none 0 0] 51 true)=s6 at l6 e6 n6 ⊢
    have l46:=lT hs5 l6
    refine hset_spec (k:=vk) (n:=vn) (y:=vy) (h4.le l46) (by omega) hNN h32 ho fun s7 P7 h7 u7=>?_
    have n7:=u7.next
    have a7:=STab.other (s':=s7) ⟨_,_,_,_,a4.le l46⟩ u7 hd
    have at7:=(a4.le l46).same (s':=s7) n7 fun b hb=>u7.keep b (by have:=hOn b hb;omega) fun hP=>hd b hP hb
    have e7:=(u7.keep s5.next (by omega) fun hP=>by have:=hPn _ hP;omega).trans e6
    have kk7:∀ b,b<s.next→¬ P b→¬ O b→s7.at' b=s.at' b:=fun b hb hP hO=>by rw[u7.keep b (by omega) hP,l46.2 b (by omega)];exact kk4 b hb hO
    have own7:∀ b,P7 b→P b∨s.next≤b:=fun b hb=>by
     rcases u7.own b hb with hb|hb
     ·exact .inl hb
     ·exact .inr (by omega)
    by_cases hE0:setE H o x=0
    ·obtain⟨_,tg7,pf7,pn7,sl7,bs7,hin7⟩:=id h7
     rw[hE0]
     simp -implicitDefEqProofs only[↓Zd,(Zp),simprocAttr,(HEx),vA,co12]
     refine hshape_spec hin7 ho ?_
     by_cases hs0:shapeV (setH H o x (vk,vn,vy)) o=0
     ·rw[if_neg (fun hc=>hc.2 hs0),hE0]at hR
      rw[hs0]
      simp -implicitDefEqProofs only[↓Zd,(Zp),simprocAttr,(HEx),vA]
      exact hR s7 P7 O h7 a7.1 a7.2 (by omega) kk7 own7 (fun b hb => .inl hb)
     rw[if_pos ⟨hE0,hs0⟩,hE0]at hR
     have hsh7:0≤shapeV (setH H o x (vk,vn,vy)) o:=by unfold shapeV;split<;>omega
     have hst:(missT (putT T (i:Int) (j:Int) (playsS (T.st i j) true x))).st i j=playsS (T.st i j) true x:=putT_st T i j _
     by_cases hk:slotOf H (shapeV H o) x<0
     ·simp -implicitDefEqProofs only[↓Zd,(Zp),simprocAttr,cld2,(HEx),(STx),vA,hs0,hk,e7,co12]
      refine hshape_spec hin7 ho ?_
      simp -implicitDefEqProofs only[↓Zd,(Zp),simprocAttr,qP,Value.cells,cut,qC,cld2,(HEx),(STx),vA,e7,co57]
      have hnew:newE H o x (vk,vn,vy)=⟨(shapeV H o).toNat,0,0,(shapeV (setH H o x (vk,vn,vy)) o).toNat,[]⟩:=by unfold newE;rw[if_neg (by omega)]
      have hA:(.agg #[.int .i64 (shapeV H o),.int .i64 0,.int .i64 0,.int .i64 (shapeV (setH H o x (vk,vn,vy)) o),.slice none 0 0]:Value) = .agg (entC (newE H o x (vk,vn,vy)) (.slice none 0 0)).toArray:=by
       rw[hnew]
       simp only[entC,Int.toNat_of_nonneg hsh.1,Int.toNat_of_nonneg hsh7]
      rw[hA]
      have hd0:(newE H o x (vk,vn,vy)).deps=[]:=by rw[hnew]
      have hput:∀ b,b≠s5.next→((s7.put s5.next (.cells [.int .i64 (shapeV H o),.int .i64 0,.int .i64 0,.int .i64 0,.slice none 0 0] 51 true)).put s5.next (.cells [.int .i64 (shapeV H o),.int .i64 0,.int .i64 0,.int .i64 (shapeV (setH H o x (vk,vn,vy)) o),.slice none 0 0] 51 true)).at' b=s7.at' b:=fun b hb=>(by rw[St.at_put,if_neg hb,St.at_put,if_neg hb])
      have at8:SAt PY lo ((s7.put s5.next (.cells [.int .i64 (shapeV H o),.int .i64 0,.int .i64 0,.int .i64 0,.slice none 0 0] 51 true)).put s5.next (.cells [.int .i64 (shapeV H o),.int .i64 0,.int .i64 0,.int .i64 (shapeV (setH H o x (vk,vn,vy)) o),.slice none 0 0] 51 true)) t (missT (putT T (i:Int) (j:Int) (playsS (T.st i j) true x))) (N+1) O al rb cp _:=at7.same (Nat.le_refl _) fun b hb=>hput b (fun e=>by have:=hOn b hb;omega)
      refine skeep_spec (M:=M) at8 (i:=i) (j:=j) (e:=newE H o x (vk,vn,vy)) (dl := .slice none 0 0) hi hj (by show lo≤s7.next;omega) (by rw[hst];exact hz.few) (by rw[hst];exact hpi.2.2.2.2.1) (by rw[hd0];exact⟨.inl ⟨rfl,rfl,rfl⟩,fun q n c e=>(by cases e),fun _=>rfl⟩) fun s9 O9 sl9 a9 u9=>?_
      rw[hst,putT_two]at a9
      have n9:s7.next≤s9.next:=u9.next
      have hk9:∀ b,b<s5.next→¬ O b→s9.at' b=s7.at' b:=fun b hb hO=>(u9.keep b (by show b<s7.next;omega) hO).trans (hput b (by omega))
      simp -implicitDefEqProofs only[↓Zd,(Zp),simprocAttr,(HEx),vA]
      refine hR s9 P7 O9 (h7.same n9 fun c hc=>?_) ⟨_,_,_,_,a9⟩ (fun b hb hO=>?_) (by omega) (fun b hb hP hO=>(hk9 b (by omega) hO).trans (kk7 b hb hP hO)) own7 (fun b hb=>?_)
      ·have hne:c≠s5.next:=fun e=>by
        rcases u7.own c hc with h8|h8
        ·have:=hPn c h8;omega
        ·omega
       exact (u9.keep c (h7.own c hc).2 (a7.2 c hc)).trans (hput c hne)
      ·rcases u9.own b hO with h8|h8
       ·exact a7.2 b hb h8
       ·have:=(h7.own b hb).2
        have h8:s7.next≤b:=h8
        omega
      ·rcases u9.own b hb with h8|h8
       ·exact .inl h8
       ·have h8:s7.next≤b:=h8
        exact .inr (by omega)
     ·simp -implicitDefEqProofs only[↓Zd,(Zp),simprocAttr,cut,cld2,(HEx),(STx),vA,hs0,hk,e7,co57]
      have hnew:newE H o x (vk,vn,vy)=⟨(shapeV H o).toNat,0,slotOf H (shapeV H o) x,0,[]⟩:=by unfold newE;rw[if_pos (by omega)]
      have hA:(.agg #[.int .i64 (shapeV H o),.int .i64 0,.int .i64 (slotOf H (shapeV H o) x),.int .i64 0,.slice none 0 0]:Value) = .agg (entC (newE H o x (vk,vn,vy)) (.slice none 0 0)).toArray:=by
       rw[hnew]
       simp only[entC,Int.toNat_of_nonneg hsh.1]
       rfl
      rw[hA]
      have hd0:(newE H o x (vk,vn,vy)).deps=[]:=by rw[hnew]
      have hput:∀ b,b≠s5.next→s7.at' b=s7.at' b:=fun b hb=>rfl
      have at8:SAt PY lo s7 t (missT (putT T (i:Int) (j:Int) (playsS (T.st i j) true x))) (N+1) O al rb cp _:=at7.same (Nat.le_refl _) fun b hb=>hput b (fun e=>by have:=hOn b hb;omega)
      refine skeep_spec (M:=M) at8 (i:=i) (j:=j) (e:=newE H o x (vk,vn,vy)) (dl := .slice none 0 0) hi hj (by show lo≤s7.next;omega) (by rw[hst];exact hz.few) (by rw[hst];exact hpi.2.2.2.2.1) (by rw[hd0];exact⟨.inl ⟨rfl,rfl,rfl⟩,fun q n c e=>(by cases e),fun _=>rfl⟩) fun s9 O9 sl9 a9 u9=>?_
      rw[hst,putT_two]at a9
      have n9:s7.next≤s9.next:=u9.next
      have hk9:∀ b,b<s5.next→¬ O b→s9.at' b=s7.at' b:=fun b hb hO=>(u9.keep b (by show b<s7.next;omega) hO).trans (hput b (by omega))
      simp -implicitDefEqProofs only[↓Zd,(Zp),simprocAttr,(HEx),vA]
      refine hR s9 P7 O9 (h7.same n9 fun c hc=>?_) ⟨_,_,_,_,a9⟩ (fun b hb hO=>?_) (by omega) (fun b hb hP hO=>(hk9 b (by omega) hO).trans (kk7 b hb hP hO)) own7 (fun b hb=>?_)
      ·have hne:c≠s5.next:=fun e=>by
        rcases u7.own c hc with h8|h8
        ·have:=hPn c h8;omega
        ·omega
       exact (u9.keep c (h7.own c hc).2 (a7.2 c hc)).trans (hput c hne)
      ·rcases u9.own b hO with h8|h8
       ·exact a7.2 b hb h8
       ·have:=(h7.own b hb).2
        have h8:s7.next≤b:=h8
        omega
      ·rcases u9.own b hb with h8|h8
       ·exact .inl h8
       ·have h8:s7.next≤b:=h8
        exact .inr (by omega)
    ·rw[if_neg (fun hc=>hE0 hc.1)]at hR
     simp -implicitDefEqProofs only[↓Zd,(Zp),simprocAttr,(HEx),vA,hE0]
     exact hR s7 P7 O h7 a7.1 a7.2 (by omega) kk7 own7 (fun b hb => .inl hb)
   ·rw[hyes]at hR
    have hbt3:=(hs3.2 t (by omega)).trans hbt2
    have c3:=(hs3.2 s.next (by omega)).trans c2
    have n3:=hs3.1
    have kk3:∀ b,b<s.next→¬ O b→s3.at' b=s.at' b:=fun b hb hO=>(hs3.2 b (by omega)).trans (kk2 b hb hO)
    have a3:=a2.le hs3
    have h3:=h2.le hs3
    obtain⟨e,he1,he2,he3,hso⟩:=set_hit hz0 hpl hyes
    obtain⟨q1,q2,q3⟩:=hso.small hok hF
    obtain⟨dlf,g1,g2,g3,g4⟩:=hE2
    rw[hsl]at g1 g2
    rcases g1 with ⟨g1,_,_⟩|⟨eb2,junk,ge,g1,_⟩
    ·omega
    cases ge
    have hebn:=(hs.own _ (g2 _ _ _ rfl)).2
    have ge3:s3.at' eb=_:=(hs3.2 eb (by simp only at hebn;omega)).trans g1
    have hebt:¬ eb=t:=at_apart ge3 hbt3 (by decide)
    have u2:(rows (fun m=>entC ((playsS (T.st i j) true x).es.getD m e0) (dlf m)) (playsS (T.st i j) true x).es.length++junk)[i1*5+2]?=some (.int .i64 e.slot):=by
     rw[rows_get (c:=fun m=>entC ((playsS (T.st i j) true x).es.getD m e0) (dlf m)) (k:=5) (fun _=>rfl) junk hi1 (j:=2) (by omega)]
     simp only[he1];rfl
    have u3:(rows (fun m=>entC ((playsS (T.st i j) true x).es.getD m e0) (dlf m)) (playsS (T.st i j) true x).es.length++junk)[i1*5+3]?=some (.int .i64 (e.to:Int)):=by
     rw[rows_get (c:=fun m=>entC ((playsS (T.st i j) true x).es.getD m e0) (dlf m)) (k:=5) (fun _=>rfl) junk hi1 (j:=3) (by omega)]
     simp only[he1];rfl
    have a5:=hit_at (s':=s3.put t (.cells [al,.int .i64 ((T.hits+1:Nat):Int),.int .i64 (T.misses:Int)] 84 true)) a3 rfl (by rw[St.at_put,if_pos rfl];rfl) (fun b hb=>by rw[St.at_put,if_neg hb])
    have h5:=ha_put (B := .cells [al,.int .i64 ((T.hits+1:Nat):Int),.int .i64 (T.misses:Int)] 84 true) h3 htP
    by_cases ht0:(0:Int)<(e.to:Int)
    ·obtain⟨w1,w2⟩:=hso.grow hok hF he3 (by omega) (vk,vn,vy)
     rw[w1,w2]at hR
     simp -implicitDefEqProofs only[↓Zd,(Zp),simprocAttr,qP,Value.cells,cut,qC,cld2,(HEx),(STx),vA,hbt3,wh,ge3,hebt,u3,ht0,c3,htne,ord20,co60]
     refine hgrow_spec (y:=vy) (k:=vk) (n:=vn) (to:=(e.to:Int)) h5 (by simp only[St.next_put];omega) hNN ho (by omega) fun s9 P9 h9 u9=>?_
     have a9:=STab.other ⟨_,_,_,_,a5⟩ u9 hd
     have n9:=u9.next
     simp only[St.next_put]at n9
     have kk9:∀ b,b<s3.next→¬ P b→s9.at' b=(s3.put t (.cells [al,.int .i64 ((T.hits+1:Nat):Int),.int .i64 (T.misses:Int)] 84 true)).at' b:=fun b hb hP=>u9.keep b (by simp only[St.next_put];omega) hP
     have ge9:=(kk9 eb (by simp only at hebn;omega) (fun hc=>hd _ hc (g2 _ _ _ rfl))).trans ((by rw[St.at_put,if_neg hebt]:(s3.put t (.cells [al,.int .i64 ((T.hits+1:Nat):Int),.int .i64 (T.misses:Int)] 84 true)).at' eb=s3.at' eb).trans ge3)
     have c9:=(kk9 s.next (by omega) (fun hc=>by have:=hPn _ hc;omega)).trans ((by rw[St.at_put,if_neg htne]:(s3.put t (.cells [al,.int .i64 ((T.hits+1:Nat):Int),.int .i64 (T.misses:Int)] 84 true)).at' s.next=s3.at' s.next).trans c3)
     simp -implicitDefEqProofs only[↓Zd,(Zp),simprocAttr,(HEx)]
     exact hR s9 P9 O h9 a9.1 a9.2 (by omega) (fun b hb hP hO=>by rw[kk9 b (by omega) hP,St.at_put,if_neg (fun e=>hO (by rw[e];exact hs.pin))];exact kk3 b hb hO) (fun b hb=>by
      rcases u9.own b hb with hb|hb
      ·exact .inl hb
      ·simp only[St.next_put]at hb;exact .inr (by omega)) (fun b hb => .inl hb)
    ·obtain⟨w1,w2⟩:=hso.put hok he3 (by omega) (vk,vn,vy)
     rw[w1,w2]at hR
     simp -implicitDefEqProofs only[↓Zd,(Zp),simprocAttr,qP,Value.cells,cut,qC,cld2,(HEx),(STx),vA,hbt3,wh,ge3,hebt,u2,u3,ht0,c3,htne,ord20,co61]
     refine hput_spec (y:=vy) (k:=vk) (n:=vn) (q:=e.slot) h5 ho (by omega) fun s9 P9 h9 u9=>?_
     have a9:=STab.other ⟨_,_,_,_,a5⟩ u9 hd
     have n9:=u9.next
     simp only[St.next_put]at n9
     have kk9:∀ b,b<s3.next→¬ P b→s9.at' b=(s3.put t (.cells [al,.int .i64 ((T.hits+1:Nat):Int),.int .i64 (T.misses:Int)] 84 true)).at' b:=fun b hb hP=>u9.keep b (by simp only[St.next_put];omega) hP
     have ge9:=(kk9 eb (by simp only at hebn;omega) (fun hc=>hd _ hc (g2 _ _ _ rfl))).trans ((by rw[St.at_put,if_neg hebt]:(s3.put t (.cells [al,.int .i64 ((T.hits+1:Nat):Int),.int .i64 (T.misses:Int)] 84 true)).at' eb=s3.at' eb).trans ge3)
     have c9:=(kk9 s.next (by omega) (fun hc=>by have:=hPn _ hc;omega)).trans ((by rw[St.at_put,if_neg htne]:(s3.put t (.cells [al,.int .i64 ((T.hits+1:Nat):Int),.int .i64 (T.misses:Int)] 84 true)).at' s.next=s3.at' s.next).trans c3)
     simp -implicitDefEqProofs only[↓Zd,(Zp),simprocAttr,(HEx)]
     exact hR s9 P9 O (h9.mono (by omega)) a9.1 a9.2 (by omega) (fun b hb hP hO=>by rw[kk9 b (by omega) hP,St.at_put,if_neg (fun e=>hO (by rw[e];exact hs.pin))];exact kk3 b hb hO) (fun b hb=>by
      rcases u9.own b hb with hb|hb
      ·exact .inl hb
      ·simp only[St.next_put]at hb;exact .inr (by omega)) (fun b hb => .inl hb)
end
section
variable {lo p N:Nat}{H:Hp}{O:Nat→Prop}
theorem ObAt.low{lo lo' b:Nat}{o:Ob}{O:Nat→Prop}(h:ObAt lo s N b o O)(hl:lo'≤lo):ObAt lo' s N b o O:=by
 obtain⟨h1,h2,h3,h4⟩:=h
 refine⟨fun c hc=>⟨by have:=(h1 c hc).1;omega,(h1 c hc).2⟩,h2,h3,?_⟩
 rcases h4 with ⟨h5,pd,OD,h6,h7,h8⟩|h4
 ·exact .inl ⟨h5,pd,OD,h6,h7.low hl,h8⟩
 ·exact .inr h4
theorem HpAt.low{lo lo':Nat}(h:HpAt lo s p H N O)(hl:lo'≤lo):HpAt lo' s p H N O:=by
 obtain⟨hp,tg,pf,pn,sl,bs,h⟩:=h
 exact⟨hp,tg,pf,pn,sl,bs,fun b hb=>⟨by have:=(h.own b hb).1;omega,(h.own b hb).2⟩,h.ok,h.tn,h.pin,h.bl,h.row,h.rowO,h.fo.low hl,h.ta.low hl,h.len,fun i b o h1 h2=>(h.obj i b o h1 h2).low hl⟩
theorem HpAt.other{s':St M}{O1 O1':Nat→Prop}(h:HpAt lo s p H N O)(hU:Upd s s' O1 O1')(hd:∀ b,O1 b→¬ O b):HpAt lo s' p H N O∧∀ b,O1' b→¬ O b:=by
 refine⟨h.same hU.next fun c hc=>hU.keep c (h.own c hc).2 fun h1=>hd c h1 hc,fun b hb hO=>?_⟩
 rcases hU.own b hb with h1|h1
 ·exact hd b h1 hO
 ·have:=(h.own b hO).2;omega
structure TwoAt(n0:Nat)(s0 s:St M)(p1 p2:Nat)(H G:Hp)(N:Nat)(O1 O2:Nat→Prop):Prop where
 one:HpAt n0 s p1 H N O1
 two:HpAt n0 s p2 G N O2
 apart:∀ b,O1 b→¬ O2 b
 lo:n0≤s.next
 old:∀ c,c<n0→s.at' c=s0.at' c
 sim:Sim H G
 sz:HSz 1000000 H
theorem TwoAt.le{n0:Nat}{s0 s s':St M}{p1 p2:Nat}{H G:Hp}{N:Nat}{O1 O2:Nat→Prop}(h:TwoAt n0 s0 s p1 p2 H G N O1 O2)(hs:s.le s'):TwoAt n0 s0 s' p1 p2 H G N O1 O2:=
 ⟨h.one.le hs,h.two.le hs,h.apart,by have:=h.lo;have:=hs.1;omega,fun c hc=>by rw[hs.2 c (by have:=h.lo;omega)];exact h.old c hc,h.sim,h.sz⟩
theorem TwoAt.step{n0:Nat}{s0 s s1 s2:St M}{p1 p2:Nat}{H G H' G':Hp}{N N':Nat}{O1 O2 O1' O2':Nat→Prop}(h:TwoAt n0 s0 s p1 p2 H G N O1 O2)(h1:HpAt n0 s1 p1 H' N' O1')(hU1:Upd s s1 O1 O1')(h2:HpAt n0 s2 p2 G' N' O2')(hU2:Upd s1 s2 O2 O2')(hsim:Sim H' G')(hsz:HSz 1000000 H') :
  TwoAt n0 s0 s2 p1 p2 H' G' N' O1' O2':=by
 obtain⟨g2,d2⟩:=h.two.other hU1 h.apart
 obtain⟨g1,d1⟩:=h1.other hU2 (fun b hb h1b=>d2 b h1b hb)
 have hn1:=hU1.next
 have hn2:=hU2.next
 have hlo:=h.lo
 refine⟨g1,h2,fun b hb hb2=>d1 b hb2 hb,by omega,fun c hc=>?_,hsim,hsz⟩
 rw[hU2.keep c (by omega) (fun hb=>by have:=(h.two.own c hb).1;omega),hU1.keep c (by omega) (fun hb=>by have:=(h.one.own c hb).1;omega)]
 exact h.old c hc
end
def I64(n:Int):Prop := -9223372036854775808≤n∧n≤9223372036854775807
theorem Vguard36:Program.eqGuardType prog prog.depth 36=false:=by kernel_rfl
theorem Vstood36:prog.stoodInHeld 36=false:=by kernel_rfl
theorem Vpart36x0(k n:Int)(x:ByteArray):pureRun prog (part 3 #[.int .i64 k,.int .i64 n,.string x] 0)=some (.int .i64 k):=by kernel_rfl
theorem Vpart36x1(k n:Int)(x:ByteArray):pureRun prog (part 3 #[.int .i64 k,.int .i64 n,.string x] 1)=some (.int .i64 n):=by kernel_rfl
theorem Vpart36x2(k n:Int)(x:ByteArray):pureRun prog (part 9 #[.int .i64 k,.int .i64 n,.string x] 2)=some (.string x):=by kernel_rfl
theorem Veq36{k n k' n':Int}{x x':ByteArray}:pureRun prog (Go.binOp .eql 36 (vA k n x) (vA k' n' x'))=some (.bool ((k == k') && ((n == n') && (decide (x=x') && true)))):=by
 unfold vA
 simp only[Go.binOp,pureRun_bind]
 have:=pr_eqStruct (P:=prog) (d:=9999) (xs:=#[.int .i64 k,.int .i64 n,.string x]) (ys:=#[.int .i64 k',.int .i64 n',.string x']) underlying36 Vstood36
 rw[show Op.equal 36 (Value.agg #[.int .i64 k,.int .i64 n,.string x]) (Value.agg #[.int .i64 k',.int .i64 n',.string x'])=Op.equalIn (9999+1) 36 (Value.agg #[.int .i64 k,.int .i64 n,.string x]) (Value.agg #[.int .i64 k',.int .i64 n',.string x']) from rfl,this]
 rw[pr_eqCons (by decide) (Vpart36x0 k n x) (Vpart36x0 k' n' x') (pr_eqInt (d:=9998) underlying3) (pr_eqCons (by decide) (Vpart36x1 k n x) (Vpart36x1 k' n' x') (pr_eqInt (d:=9998) underlying3) (pr_eqCons (by decide) (Vpart36x2 k n x) (Vpart36x2 k' n' x') (pr_eqString (d:=9998) underlying9) pr_eqNil))]
 rfl
theorem Vsame36{k n k' n':Int}{x x':ByteArray}{ox oy:Operand}:cbin prog .eql 36 ox oy (vA k n x) (vA k' n' x')=some (.bool (decide (k=k') && (decide (n=n') && decide (x=x')))):=by
 have h:=Veq36 (k:=k) (n:=n) (x:=x) (k':=k') (n':=n') (x':=x')
 have h1:plain 6 (vA k n x)=true:=by kernel_rfl
 have h2:plain 6 (vA k' n' x')=true:=by kernel_rfl
 have h3:pureRun prog (eqGuard .eql 36 ox oy (vA k n x) (vA k' n' x'))=some ():=by
  unfold vA eqGuard
  simp only[pureRun_bind,pureRun_program,Option.bind_some,Vguard36,Bool.not_false,if_true,pureRun_ite,pureRun_pure]
  rfl
 unfold vA at h1 h2 h3 h ⊢
 unfold cbin
 dsimp only
 rw[if_pos ⟨h1,h2⟩]
 unfold pure6
 rw[pureRun_bind,h3,Option.bind_some,h]
 show some (Value.bool _)=_
 rw[Bool.and_true]
 congr 2
theorem Vneq57{k n k' n':Int}{x x':ByteArray}:pureRun prog (Go.binOp .neq 36 (vA k n x) (vA k' n' x'))=some (.bool (!((k == k') && ((n == n') && (decide (x=x') && true))))):=by
 unfold vA
 simp only[Go.binOp,pureRun_bind]
 have:=pr_eqStruct (P:=prog) (d:=9999) (xs:=#[.int .i64 k,.int .i64 n,.string x]) (ys:=#[.int .i64 k',.int .i64 n',.string x']) underlying36 Vstood36
 rw[show Op.equal 36 (Value.agg #[.int .i64 k,.int .i64 n,.string x]) (Value.agg #[.int .i64 k',.int .i64 n',.string x'])=Op.equalIn (9999+1) 36 (Value.agg #[.int .i64 k,.int .i64 n,.string x]) (Value.agg #[.int .i64 k',.int .i64 n',.string x']) from rfl,this]
 rw[pr_eqCons (by decide) (Vpart36x0 k n x) (Vpart36x0 k' n' x') (pr_eqInt (d:=9998) underlying3) (pr_eqCons (by decide) (Vpart36x1 k n x) (Vpart36x1 k' n' x') (pr_eqInt (d:=9998) underlying3) (pr_eqCons (by decide) (Vpart36x2 k n x) (Vpart36x2 k' n' x') (pr_eqString (d:=9998) underlying9) pr_eqNil))]
 rfl
theorem Vdiffer57{k n k' n':Int}{x x':ByteArray}{ox oy:Operand}:cbin prog .neq 36 ox oy (vA k n x) (vA k' n' x')=some (.bool (!(decide (k=k') && (decide (n=n') && decide (x=x'))))):=by
 have h:=Vneq57 (k:=k) (n:=n) (x:=x) (k':=k') (n':=n') (x':=x')
 have h1:plain 6 (vA k n x)=true:=by kernel_rfl
 have h2:plain 6 (vA k' n' x')=true:=by kernel_rfl
 have h3:pureRun prog (eqGuard .neq 36 ox oy (vA k n x) (vA k' n' x'))=some ():=by
  unfold vA eqGuard
  simp only[pureRun_bind,pureRun_program,Option.bind_some,Vguard36,Bool.not_false,if_true,pureRun_ite,pureRun_pure]
  rfl
 unfold vA at h1 h2 h3 h ⊢
 unfold cbin
 dsimp only
 rw[if_pos ⟨h1,h2⟩]
 unfold pure6
 rw[pureRun_bind,h3,Option.bind_some,h]
 show some (Value.bool _)=_
 rw[Bool.and_true]
 congr 2
theorem VneSelf{k n:Int}{x:ByteArray}{ox oy:Operand}:cbin prog .neq 36 ox oy (.agg #[.int .i64 k,.int .i64 n,.string x]) (.agg #[.int .i64 k,.int .i64 n,.string x])=some (.bool false):=by
 have:=Vdiffer57 (k:=k) (n:=n) (x:=x) (k':=k) (n':=n) (x':=x) (ox:=ox) (oy:=oy)
 unfold vA at this
 rw[this];simp
theorem Vsame{k n k' n':Int}{x x':ByteArray}{ox oy:Operand}:cbin prog .eql 36 ox oy (.agg #[.int .i64 k,.int .i64 n,.string x]) (.agg #[.int .i64 k',.int .i64 n',.string x'])=some (.bool (decide (k=k') && (decide (n=n') && decide (x=x')))):=Vsame36
def REx:=(And.intro (And.intro (And.intro (And.intro (And.intro (And.intro @underlying165 (And.intro @sz165 @is165)) (And.intro (And.intro @ce165 @ag165) (And.intro @ze165 @fa165x0))) (And.intro (And.intro (And.intro @fa165x1 @underlying221) (And.intro @sz221 @is221)) (And.intro (And.intro @ce221 @ag221) (And.intro @ze221 @nt221)))) (And.intro (And.intro (And.intro @nn221 (And.intro @nf221 @ng221)) (And.intro (And.intro @underlying81 @sz81) (And.intro @is81 @ce81))) (And.intro (And.intro (And.intro @ag81 @ze81) (And.intro @fa81x0 @fa81x1)) (And.intro (And.intro @fa81x2 @fa81x3) (And.intro @fa81x4 @underlying27))))) (And.intro (And.intro (And.intro (And.intro @sz27 (And.intro @is27 @ce27)) (And.intro (And.intro @ag27 @ze27) (And.intro @nt27 @nn27))) (And.intro (And.intro (And.intro @nf27 @ng27) (And.intro @underlying77 @sz77)) (And.intro (And.intro @is77 @ce77) (And.intro @ag77 @ze77)))) (And.intro (And.intro (And.intro @underlying163 (And.intro @sz163 @is163)) (And.intro (And.intro @ce163 @ag163) (And.intro @ze163 @nt163))) (And.intro (And.intro (And.intro @nn163 @nf163) (And.intro @ng163 @underlying167)) (And.intro (And.intro @sz167 @is167) (And.intro @ce167 @ag167)))))) (And.intro (And.intro (And.intro (And.intro (And.intro @ze167 (And.intro @fa167x0 @fa167x1)) (And.intro (And.intro @fa167x2 @fa167x3) (And.intro @underlying177 @sz177))) (And.intro (And.intro (And.intro @is177 @ce177) (And.intro @ag177 @ze177)) (And.intro (And.intro @fa177x0 @fa177x1) (And.intro @underlying75 @sz75)))) (And.intro (And.intro (And.intro @is75 (And.intro @ce75 @ag75)) (And.intro (And.intro @ze75 @nt75) (And.intro @nn75 @nf75))) (And.intro (And.intro (And.intro @ng75 @underlying175) (And.intro @sz175 @is175)) (And.intro (And.intro @ce175 @ag175) (And.intro @ze175 @underlying219))))) (And.intro (And.intro (And.intro (And.intro @sz219 (And.intro @is219 @ce219)) (And.intro (And.intro @ag219 @ze219) (And.intro @fa219x0 @fa219x1))) (And.intro (And.intro (And.intro @underlying79 @sz79) (And.intro @is79 @ce79)) (And.intro (And.intro @ag79 @ze79) (And.intro @fa79x0 @underlying33)))) (And.intro (And.intro (And.intro (And.intro @sz33 @is33) (And.intro @ce33 @ag33)) (And.intro (And.intro @ze33 @underlying31) (And.intro @sz31 @is31))) (And.intro (And.intro (And.intro @ce31 @ag31) (And.intro @ze31 @underlying86)) (And.intro (And.intro @sz86 @is86) (And.intro @ce86 @ag86)))))))
section
variable {r f:Nat}
structure RZ(s:St M)(r f:Nat):Prop where
 heap:s.at' r=some (.cells [.slice none 0 0,.int .i64 0,.int .i64 0,.pointer (some ⟨f,0,none⟩),.slice none 0 0] 81 true)
 forest:s.at' f=some (.cells [.slice none 0 0,.int .i64 0] 177 true)
 rn:r<s.next
 fn:f<s.next
theorem RZ.same{s':St M}(h:RZ s r f)(hn:s.next≤s'.next)(h1:s'.at' r=s.at' r)(h2:s'.at' f=s.at' f):RZ s' r f:=
 ⟨h1.trans h.heap,h2.trans h.forest,by have:=h.rn;omega,by have:=h.fn;omega⟩
theorem RZ.le{s':St M}(h:RZ s r f)(hs:s.le s'):RZ s' r f:=h.same hs.1 (hs.2 _ h.rn) (hs.2 _ h.fn)
theorem rzHas{o:Int}(h:RZ s r f)(hR:R (.bool false) s):QC prog w0 94 #[.pointer (some ⟨r,0,none⟩),.int .i64 o] s R:=by
 refine wfun2 hmix ok94 func94 rfl ntmps94 results94 (by simp) ?_
 have h1:=h.heap
 by_cases h0:1≤o
 ·have h2:¬ o≤0:=by omega
  simp -implicitDefEqProofs only[↓Zd,(Zp),simprocAttr,cld2,(REx),h1,h0,h2]
  exact hR
 ·simp -implicitDefEqProofs only[↓Zd,(Zp),simprocAttr,h0]
  exact hR
theorem rzMake(h:RZ s r f)(hR:R (.tuple #[.int .i64 0,.int .i64 40]) s):QC prog w0 38 #[.pointer (some ⟨r,0,none⟩)] s R:=by
 refine wfun2 hmix ok38 func38 rfl ntmps38 results38 (by simp) ?_
 have h1:=h.heap
 simp -implicitDefEqProofs only[↓Zd,(Zp),simprocAttr,cld2,(HEx),(REx),h1,ord38]
 exact hR
theorem rzSet{o k n:Int}{x y:ByteArray}(h:RZ s r f)(hR:∀ s',s.le s'→R (.int .i64 4) s'):QC prog w0 41 #[.pointer (some ⟨r,0,none⟩),.int .i64 o,.string x,.agg #[.int .i64 k,.int .i64 n,.string y]] s R:=by
 refine wfun2 hmix ok41 func41 rfl ntmps41 results41 (by simp) ?_
 simp -implicitDefEqProofs only[↓Zd,(Zp),simprocAttr,qP,Value.cells,(HEx),co94]
 refine rzHas (h.le (lN (lR _))) ?_
 simp -implicitDefEqProofs only[↓Zd,(Zp),simprocAttr,(HEx)]
 exact hR _ (by repeat (first|exact lR _|assumption|refine lN ?_|refine lP ?_ (by first|omega|(simp only[(Sn)];omega))|refine lT ?_ (by assumption)))
theorem rzOwn{o:Int}{x:ByteArray}(h:RZ s r f)(hR:∀ s',s.le s'→R (.tuple #[.agg #[.int .i64 0,.int .i64 0,.string ⟨#[]⟩],.bool false]) s'):QC prog w0 98 #[.pointer (some ⟨r,0,none⟩),.int .i64 o,.string x] s R:=by
 refine wfun2 hmix ok98 func98 rfl ntmps98 results98 (by simp) ?_
 simp -implicitDefEqProofs only[↓Zd,(Zp),simprocAttr,Value.cells,(HEx),co94]
 refine rzHas (h.le (lN (lR _))) ?_
 simp -implicitDefEqProofs only[↓Zd,(Zp),simprocAttr,qP,Value.cells,cut,qC,cld2,(HEx)]
 exact hR _ (by repeat (first|exact lR _|assumption|refine lN ?_|refine lP ?_ (by first|omega|(simp only[(Sn)];omega))|refine lT ?_ (by assumption)))
theorem rzDelete{o:Int}{x:ByteArray}(h:RZ s r f)(hR:∀ s',s.le s'→R (.bool false) s'):QC prog w0 42 #[.pointer (some ⟨r,0,none⟩),.int .i64 o,.string x] s R:=by
 refine wfun2 hmix ok42 func42 rfl ntmps42 results42 (by simp) ?_
 simp -implicitDefEqProofs only[↓Zd,(Zp),simprocAttr,co98]
 refine rzOwn h fun s1 hs1=>?_
 simp -implicitDefEqProofs only[↓Zd,(Zp),simprocAttr,qP,Value.cells,qC,(HEx)]
 exact hR _ (lP (lN hs1) hs1.1)
theorem rzProto{o q:Int}(h:RZ s r f)(hR:R (.int .i64 4) s):QC prog w0 43 #[.pointer (some ⟨r,0,none⟩),.int .i64 o,.int .i64 q] s R:=by
 refine wfun2 hmix ok43 func43 rfl ntmps43 results43 (by simp) ?_
 simp -implicitDefEqProofs only[↓Zd,(Zp),simprocAttr,co94]
 refine rzHas h ?_
 simp -implicitDefEqProofs only[↓Zd,(Zp),simprocAttr,(HEx)]
 exact hR
theorem rzGet{o:Int}{x:ByteArray}(h:RZ s r f)(hR:∀ s',s.le s'→R (.agg #[.int .i64 0,.int .i64 0,.string ⟨#[]⟩]) s'):QC prog w0 86 #[.pointer (some ⟨r,0,none⟩),.int .i64 o,.string x] s R:=by
 refine wfun2 hmix ok86 func86 rfl ntmps86 results86 (by simp) ?_
 have h1:=h.heap
 have hrn:=h.rn
 have hne:¬ r=s.next:=by omega
 simp -implicitDefEqProofs only[↓Zd,(Zp),simprocAttr,Value.cells,(HEx)]
 refine wloop_fix hmix [1,7,8,9,10,11,12,13,14,15,16,17,18,19,20,21,22,23,24,25,26,27,28,29,30,31,32,33,34,35,36,37,38,39,40,41,42,43] (fun fuel env s1=>s1=s.new (.cells [.int .i64 0,.int .i64 0,.string ⟨#[]⟩] 36 true)∧env 1 = .int .i64 o∧env 7 = .int .i64 0) 0 ⟨rfl,rfl,rfl⟩ ?_
 rintro fuel env s1 hFx ⟨rfl,e1,e7⟩
 have e0:env 0 = .pointer (some ⟨r,0,none⟩):=by rw[hFx 0 rfl];rfl
 have e6:env 6 = .pointer (some ⟨s.next,0,none⟩):=by rw[hFx 6 rfl];rfl
 simp -implicitDefEqProofs only[↓Zd,(Zp),simprocAttr,cld2,(REx),e0,e1,e7,h1,hne,co94]
 refine rzHas (h.le (lN (lR _))) ?_
 simp -implicitDefEqProofs only[↓Zd,(Zp),simprocAttr,qP,Value.cells,cut,qC,cld2,(HEx),e6]
 exact hR _ (by repeat (first|exact lR _|assumption|refine lN ?_|refine lP ?_ (by first|omega|(simp only[(Sn)];omega))|refine lT ?_ (by assumption)))
theorem rzNew{a b c d n:Int}(ha:a=0)(hc:c=0)(hn:n=0)(hR:∀ s' r f,RZ s' r f→s.le s'→s.next≤r→s.next≤f→R (.pointer (some ⟨r,0,none⟩)) s'):QC prog w0 7 #[.agg #[.int .i64 a,.int .i64 b,.int .i64 c,.int .i64 d],.int .i64 n] s R:=by
 subst ha hc hn
 refine wfun2 hmix ok7 func7 rfl ntmps7 results7 (by simp) ?_
 have hcut:∀ {m:Int}{s:St M}{R:Value→St M→Prop},0≤m→R (.int .i64 0) s→QC prog w0 32 #[.int .i64 0,.int .i64 m] s R:=by
  intro m s R hm hR
  refine wfun2 hmix ok32 func32 rfl ntmps32 results32 (by simp) ?_
  have h2:¬ m<0:=by omega
  simp -implicitDefEqProofs only[↓Zd,(Zp),simprocAttr,h2]
  exact hR
 have hbF:cbuild prog 177 #[(1,.int .i64 0)]=some (.agg #[.slice none 0 0,.int .i64 0]):=by kernel_rfl
 have hbH:∀ f:Nat,cbuild prog 81 #[(1,.int .i64 0),(2,.int .i64 0),(3,.pointer (some ⟨f,0,none⟩))]=some (.agg #[.slice none 0 0,.int .i64 0,.int .i64 0,.pointer (some ⟨f,0,none⟩),.slice none 0 0]):=fun f=>by kernel_rfl
 have hfnew:∀ {s:St M}{R:Value→St M→Prop},R (.pointer (some ⟨s.next,0,none⟩)) (s.new (.cells [.slice none 0 0,.int .i64 0] 177 true))→QC prog w0 33 #[.int .i64 0] s R:=by
  intro s R hR
  refine wfun2 hmix ok33 func33 rfl ntmps33 results33 (by simp) ?_
  simp -implicitDefEqProofs only[↓Zd,(Zp),simprocAttr,qP,Value.cells,(REx),hbF]
  exact hR
 simp -implicitDefEqProofs only[↓Zd,(Zp),simprocAttr,qP,Value.cells,cld2,(HEx),is26,fa26x0,fa26x2,ord7,co32]
 refine hcut (by omega) ?_
 simp -implicitDefEqProofs only[↓Zd,(Zp),simprocAttr,cld2,(HEx),co32]
 refine hcut (by omega) ?_
 simp -implicitDefEqProofs only[↓Zd,(Zp),simprocAttr,(HEx),co33]
 refine hfnew ?_
 simp -implicitDefEqProofs only[↓Zd,(Zp),simprocAttr,qP,Value.cells,(REx),hbH]
 refine hR _ _ (s.next+1) ⟨by rw[St.at_new,if_pos (by simp only[St.next_new])],by rw[St.at_new,if_neg (by simp only[St.next_new];omega),St.at_new,if_pos (by simp only[St.next_new])],by simp only[St.next_new];omega,by simp only[St.next_new];omega⟩ (by repeat (first|exact lR _|assumption|refine lN ?_|refine lP ?_ (by first|omega|(simp only[(Sn)];omega))|refine lT ?_ (by assumption))) (by omega) (by omega)
end
section
def SlI(s:St M)(v:Value)(l:List Nat):Prop:=SlU 3 1 s v (ints l) l.length
theorem SlI.form{v:Value}{l:List Nat}(h:SlI s v l):∃ a c,v = .slice a l.length c:=by
 rcases h with ⟨e,_,rfl⟩|⟨b,_,rfl,_⟩
 ·exact⟨none,0,by rw[e]⟩
 ·exact⟨_,_,rfl⟩
theorem SlI.get{v:Value}{l:List Nat}(h:SlI s v l){k:Nat}(hk:k<l.length):∃ b vs own,v = .slice (some ⟨b,0,none⟩) l.length UNK∧s.at' b=some (.cells vs 3 own)∧vs[k]?=some (.int .i64 ((l[k]:Nat):Int)):=by
 rcases h with ⟨e,_,rfl⟩|⟨b,junk,rfl,hb,_⟩
 ·omega
 ·exact⟨b,_,_,rfl,hb,ints_get junk hk⟩
def rshC(F:List Sh)(nm:Nat→Value)(i:Nat):List Value:=[.int .i64 (((F.getD i (0,[])).1:Nat):Int),nm i]
theorem rshC_len(F:List Sh)(nm:Nat→Value)(i:Nat):(rshC F nm i).length=2:=rfl
theorem rshC_at{F:List Sh}{nm:Nat→Value}{i:Nat}{t:Sh}(h:F[i]?=some t):rshC F nm i=[.int .i64 ((t.1:Nat):Int),nm i]:=by
 unfold rshC
 rw[List.getD_eq_getElem?_getD,h];rfl
structure RFAt(lo:Nat)(s:St M)(p:Nat)(F:List Sh)(most:Nat)(O:Nat→Prop):Prop where
 own:∀ b,O b→lo≤b∧b<s.next
 pin:O p
 ok:FOk F
 le:F.length≤most∧most≤150
 bl:∃ sl nm,s.at' p=some (.cells [sl,.int .i64 (most:Int)] 177 true)∧SlU 219 2 s sl (rows (rshC F nm) F.length) F.length∧(∀ q n c,sl = .slice (some q) n c→O q.block∧q.block≠p) ∧
  ∀ (i:Nat) (t:Sh),F[i]?=some t→SlI s (nm i) t.2.reverse∧∀ q n c,nm i = .slice (some q) n c→O q.block∧q.block≠p∧∀ q' n' c',sl = .slice (some q') n' c'→q.block≠q'.block
theorem RFAt.same{lo:Nat}{s s':St M}{p:Nat}{F:List Sh}{most:Nat}{O:Nat→Prop}(h:RFAt lo s p F most O)(hn:s.next≤s'.next)(hs:∀ b,O b→s'.at' b=s.at' b):RFAt lo s' p F most O:=by
 obtain⟨h1,h2,h3,h4,sl,nm,h5,h6,h7,h8⟩:=h
 exact⟨fun b hb=>⟨(h1 b hb).1,by have:=(h1 b hb).2;omega⟩,h2,h3,h4,sl,nm,by rw[hs _ h2];exact h5,h6.same fun q n c e=>hs _ (h7 q n c e).1,h7,fun i t ht=>⟨(h8 i t ht).1.same fun q n c e=>hs _ ((h8 i t ht).2 q n c e).1,(h8 i t ht).2⟩⟩
theorem RFAt.low{lo lo':Nat}{s:St M}{p:Nat}{F:List Sh}{most:Nat}{O:Nat→Prop}(h:RFAt lo s p F most O)(hl:lo'≤lo):RFAt lo' s p F most O:=
 ⟨fun b hb=>⟨by have:=(h.own b hb).1;omega,(h.own b hb).2⟩,h.pin,h.ok,h.le,h.bl⟩
def NmOf(s:St M)(p i:Nat)(v:Value):Prop:=∃ sl m b vs own n c,s.at' p=some (.cells [sl,m] 177 true)∧sl = .slice (some ⟨b,0,none⟩) n c∧s.at' b=some (.cells vs 219 own)∧vs[i*2+1]?=some v
theorem RFAt.nm{lo p i:Nat}{F:List Sh}{most:Nat}{O:Nat→Prop}{v:Value}{t:Sh}(hF:RFAt lo s p F most O)(ht:F[i]?=some t)(hv:NmOf s p i v):SlI s v t.2.reverse∧∀ q n c,v = .slice (some q) n c→O q.block:=by
 obtain⟨h1,h2,h3,h4,sl,nm,h5,h6,h7,h8⟩:=hF
 obtain⟨sl',m,b,vs,own,n,c,g1,g2,g3,g4⟩:=hv
 rw[h5]at g1
 cases g1
 have hi:=(List.getElem?_eq_some_iff.1 ht).1
 rcases h6 with ⟨e,_⟩|⟨b',junk,e,hb,hlb⟩
 ·omega
 rw[e]at g2
 cases g2
 rw[hb]at g3
 cases g3
 have f1:=rows_get (rshC_len F nm) (n:=F.length) junk hi (show 1<2 by omega)
 rw[rshC_at ht]at f1
 rw[f1]at g4
 cases g4
 exact⟨(h8 i t ht).1,fun q n c e=>((h8 i t ht).2 q n c e).1⟩
theorem NmOf.same{lo p i:Nat}{s':St M}{F:List Sh}{most:Nat}{O:Nat→Prop}{v:Value}(h:NmOf s p i v)(hF:RFAt lo s p F most O)(hs:∀ b,O b→s'.at' b=s.at' b):NmOf s' p i v:=by
 obtain⟨h1,h2,h3,h4,sl,nm,h5,h6,h7,h8⟩:=hF
 obtain⟨sl',m,b,vs,own,n,c,g1,g2,g3,g4⟩:=h
 rw[h5]at g1
 cases g1
 have hb:=(h7 ⟨b,0,none⟩ n c g2).1
 exact⟨_,_,b,vs,own,n,c,(hs p h2).trans h5,g2,(hs b hb).trans g3,g4⟩
end
section
variable {lo p most:Nat}{F:List Sh}{O:Nat→Prop}
theorem RFAt.get(hF:RFAt lo s p F most O){j:Nat}{t:Sh}(ht:F[j]?=some t):∃ b vs own mv nm,s.at' p=some (.cells [.slice (some ⟨b,0,none⟩) F.length UNK,.int .i64 (mv:Int)] 177 true)∧s.at' b=some (.cells vs 219 own)∧vs[j*2]?=some (.int .i64 ((t.1:Nat):Int))∧vs[j*2+1]?=some nm∧SlI s nm t.2.reverse∧(∀ q n c,nm = .slice (some q) n c→O q.block)∧O b∧NmOf s p j nm:=by
 obtain⟨h1,h2,h3,h4,sl,nm,h5,h6,h7,h8⟩:=hF
 have hj:=(List.getElem?_eq_some_iff.1 ht).1
 rcases h6 with ⟨e,_⟩|⟨b,junk,rfl,hb,hlb⟩
 ·omega
 have f0:=rows_get (rshC_len F nm) (n:=F.length) junk hj (show 0<2 by omega)
 have f1:=rows_get (rshC_len F nm) (n:=F.length) junk hj (show 1<2 by omega)
 rw[rshC_at ht]at f0 f1
 obtain⟨g1,g2⟩:=h8 j t ht
 exact⟨b,_,_,most,nm j,h5,hb,f0,f1,g1,fun q n c e=>(g2 q n c e).1,(h7 _ _ _ rfl).1,_,_,b,_,_,_,_,h5,rfl,hb,f1⟩
end
section
variable {lo p most:Nat}{F:List Sh}{O:Nat→Prop}
end
section
end
def keysP(L:List (ByteArray×V3)):List ByteArray:=L.map (·.1)
section
structure ROb(s:St M)(b:Nat)(L:List (ByteArray×V3))(a e f ns vs:Value):Prop where
 bl:s.at' b=some (.cells [a,ns,vs,e,f] 167 true)
 nm:SlC 9 1 s ns ((keysP L).map .string) (keysP L).length
 vl:SlU 36 3 s vs (valsC L) L.length
 few:L.length≤1000
theorem ROb.same{s':St M}{b:Nat}{L:List (ByteArray×V3)}{a e f ns vs:Value}(h:ROb s b L a e f ns vs)(h1:s'.at' b=s.at' b)(h2:∀ q n c,ns = .slice (some q) n c→s'.at' q.block=s.at' q.block)(h3:∀ q n c,vs = .slice (some q) n c→s'.at' q.block=s.at' q.block):ROb s' b L a e f ns vs:=
 ⟨h1.trans h.bl,h.nm.same h2,h.vl.same h3,h.few⟩
structure RFr(s:St M)(b:Nat)(ns vs:Value):Prop where
 bn:b<s.next
 n:∀ q n c,ns = .slice (some q) n c→q.block<s.next∧q.block≠b
 v:∀ q n c,vs = .slice (some q) n c→q.block<s.next∧q.block≠b
 nv:∀ q n c q' n' c',ns = .slice (some q) n c→vs = .slice (some q') n' c'→q.block≠q'.block
theorem ROb.le{s':St M}{b:Nat}{L:List (ByteArray×V3)}{a e f ns vs:Value}(h:ROb s b L a e f ns vs)(hf:RFr s b ns vs)(hs:s.le s'):ROb s' b L a e f ns vs:=
 h.same (hs.2 _ hf.bn) (fun q n c e=>hs.2 _ (hf.n q n c e).1) (fun q n c e=>hs.2 _ (hf.v q n c e).1)
end
def Hang(b:Nat)(ns vs:Value)(c:Nat):Prop:=c=b∨(∃ q n k,ns = .slice (some q) n k∧c=q.block)∨(∃ q n k,vs = .slice (some q) n k∧c=q.block)
section
theorem RFr.lt{b:Nat}{ns vs:Value}(h:RFr s b ns vs):∀ c,Hang b ns vs c→c<s.next:=by
 rintro c (rfl|⟨q,n,k,e,rfl⟩|⟨q,n,k,e,rfl⟩)
 ·exact h.bn
 ·exact (h.n _ _ _ e).1
 ·exact (h.v _ _ _ e).1
theorem RFr.le{s':St M}{b:Nat}{ns vs:Value}(h:RFr s b ns vs)(hn:s.next≤s'.next):RFr s' b ns vs:=
 ⟨by have:=h.bn;omega,fun q n c e=>⟨by have:=(h.n q n c e).1;omega,(h.n q n c e).2⟩,fun q n c e=>⟨by have:=(h.v q n c e).1;omega,(h.v q n c e).2⟩,h.nv⟩
end
section
structure DelI(s s':St M)(b:Nat)(E:List (ByteArray×V3))(n6 v7:Value):Prop where
 le:s.le s'
 nm:SlC 9 1 s' n6 ((keysP E).map .string) (keysP E).length
 vl:SlU 36 3 s' v7 (valsC E) E.length
 fr:RFr s' b n6 v7
 nn:∀ q n c,n6 = .slice (some q) n c→s.next≤q.block
 nv:∀ q n c,v7 = .slice (some q) n c→s.next≤q.block
end
section
structure RObAt(lo:Nat)(s:St M)(N:Nat)(b:Nat)(o:Ob)(O:Nat→Prop):Prop where
 own:∀ c,O c→lo≤c∧c<s.next
 pin:O b
 ep:o.epoch≤N
 bl:∃ ns vs,ROb s b o.L (.int .i64 (o.proto:Int)) (.int .i64 (o.epoch:Int)) (.int .i64 (o.shape:Int)) ns vs∧RFr s b ns vs∧∀ c,Hang b ns vs c→O c
theorem Hang.b{b:Nat}{ns vs:Value}:Hang b ns vs b := .inl rfl
theorem Hang.n{b:Nat}{ns vs:Value}{q:Addr}{n c:Nat}(e:ns = .slice (some q) n c):Hang b ns vs q.block := .inr (.inl ⟨q,n,c,e,rfl⟩)
theorem Hang.v{b:Nat}{ns vs:Value}{q:Addr}{n c:Nat}(e:vs = .slice (some q) n c):Hang b ns vs q.block := .inr (.inr ⟨q,n,c,e,rfl⟩)
theorem RObAt.same{lo:Nat}{s s':St M}{N b:Nat}{o:Ob}{O:Nat→Prop}(h:RObAt lo s N b o O)(hn:s.next≤s'.next)(hs:∀ c,O c→s'.at' c=s.at' c):RObAt lo s' N b o O:=by
 obtain⟨h1,h2,h3,ns,vs,h4,h5,h6⟩:=h
 exact⟨fun c hc=>⟨(h1 c hc).1,by have:=(h1 c hc).2;omega⟩,h2,h3,ns,vs,h4.same (hs _ (h6 _ .b)) (fun q n c e=>hs _ (h6 _ (.n e))) (fun q n c e=>hs _ (h6 _ (.v e))),h5.le hn,h6⟩
theorem RObAt.mono{lo:Nat}{s:St M}{N N' b:Nat}{o:Ob}{O:Nat→Prop}(h:RObAt lo s N b o O)(hN:N≤N'):RObAt lo s N' b o O:=
 ⟨h.own,h.pin,by have:=h.ep;omega,h.bl⟩
structure RHpIn(lo:Nat)(s:St M)(p:Nat)(H:Hp)(N:Nat)(O:Nat→Prop)(tg:Nat→Nat)(pf:Nat)(sl tl:Value)(bs:List Nat):Prop where
 own:∀ b,O b→lo≤b∧b<s.next
 ok:HOk H
 tn:H.T.length≤N
 pin:O p∧tg p=0
 bl:s.at' p=some (.cells [sl,.int .i64 (H.maxO:Int),.int .i64 (H.maxP:Int),.pointer (some ⟨pf,0,none⟩),tl] 81 true)
 row:SlU 163 1 s sl (ptrs bs) bs.length
 rowO:∀ q n c,sl = .slice (some q) n c→O q.block∧tg q.block=0∧q.block≠p
 fo:RFAt lo s pf H.F H.most (fun b=>O b∧tg b=1)
 ta:SlC 9 1 s tl (H.T.map .string) H.T.length
 taO:∀ q n c,tl = .slice (some q) n c→O q.block∧tg q.block=2
 len:bs.length=H.obs.length
 obj:∀ (i b:Nat) (o:Ob),bs[i]?=some b→H.obs[i]?=some o→RObAt lo s N b o (fun c=>O c∧tg c=i+3)
def RHpAt(lo:Nat)(s:St M)(p:Nat)(H:Hp)(N:Nat)(O:Nat→Prop):Prop:=HPro H∧∃ tg pf sl tl bs,RHpIn lo s p H N O tg pf sl tl bs
theorem RHpIn.same{lo:Nat}{s s':St M}{p:Nat}{H:Hp}{N:Nat}{O:Nat→Prop}{tg:Nat→Nat}{pf:Nat}{sl tl:Value}{bs:List Nat}(h:RHpIn lo s p H N O tg pf sl tl bs)(hn:s.next≤s'.next)(hs:∀ c,O c→s'.at' c=s.at' c):RHpIn lo s' p H N O tg pf sl tl bs:=
 ⟨fun b hb=>⟨(h.own b hb).1,by have:=(h.own b hb).2;omega⟩,h.ok,h.tn,h.pin,by rw[hs _ h.pin.1];exact h.bl,h.row.same fun q n c e=>hs _ (h.rowO q n c e).1,h.rowO,h.fo.same hn fun b hb=>hs b hb.1,h.ta.same fun q n c e=>hs _ (h.taO q n c e).1,h.taO,h.len,fun i b o h1 h2=>(h.obj i b o h1 h2).same hn fun c hc=>hs c hc.1⟩
theorem RHpIn.le{lo:Nat}{s s':St M}{p:Nat}{H:Hp}{N:Nat}{O:Nat→Prop}{tg:Nat→Nat}{pf:Nat}{sl tl:Value}{bs:List Nat}(h:RHpIn lo s p H N O tg pf sl tl bs)(hs:s.le s'):RHpIn lo s' p H N O tg pf sl tl bs:=h.same hs.1 fun c hc=>hs.2 c (h.own c hc).2
theorem RHpIn.mono{lo:Nat}{s:St M}{p:Nat}{H:Hp}{N N':Nat}{O:Nat→Prop}{tg:Nat→Nat}{pf:Nat}{sl tl:Value}{bs:List Nat}(h:RHpIn lo s p H N O tg pf sl tl bs)(hN:N≤N'):RHpIn lo s p H N' O tg pf sl tl bs:=
 ⟨h.own,h.ok,by have:=h.tn;omega,h.pin,h.bl,h.row,h.rowO,h.fo,h.ta,h.taO,h.len,fun i b o h1 h2=>(h.obj i b o h1 h2).mono hN⟩
theorem RHpAt.same{lo:Nat}{s s':St M}{p:Nat}{H:Hp}{N:Nat}{O:Nat→Prop}(h:RHpAt lo s p H N O)(hn:s.next≤s'.next)(hs:∀ c,O c→s'.at' c=s.at' c):RHpAt lo s' p H N O:=by
 obtain⟨hp,tg,pf,sl,tl,bs,h⟩:=h
 exact⟨hp,tg,pf,sl,tl,bs,h.same hn hs⟩
theorem RHpAt.own{lo:Nat}{s:St M}{p:Nat}{H:Hp}{N:Nat}{O:Nat→Prop}(h:RHpAt lo s p H N O):∀ b,O b→lo≤b∧b<s.next:=by
 obtain⟨hp,tg,pf,sl,tl,bs,h⟩:=h
 exact h.own
theorem RHpAt.ok{lo:Nat}{s:St M}{p:Nat}{H:Hp}{N:Nat}{O:Nat→Prop}(h:RHpAt lo s p H N O):HOk H:=by
 obtain⟨hp,tg,pf,sl,tl,bs,h⟩:=h
 exact h.ok
theorem RHpAt.le{lo:Nat}{s s':St M}{p:Nat}{H:Hp}{N:Nat}{O:Nat→Prop}(h:RHpAt lo s p H N O)(hs:s.le s'):RHpAt lo s' p H N O:=h.same hs.1 fun c hc=>hs.2 c (h.own c hc).2
theorem RHpAt.mono{lo:Nat}{s:St M}{p:Nat}{H:Hp}{N N':Nat}{O:Nat→Prop}(h:RHpAt lo s p H N O)(hN:N≤N'):RHpAt lo s p H N' O:=by
 obtain⟨hp,tg,pf,sl,tl,bs,h⟩:=h
 exact⟨hp,tg,pf,sl,tl,bs,h.mono hN⟩
theorem RHpIn.newF{lo:Nat}{s s':St M}{p:Nat}{H:Hp}{N:Nat}{O O':Nat→Prop}{tg:Nat→Nat}{pf:Nat}{sl tl:Value}{bs:List Nat}{F':List Sh}(h:RHpIn lo s p H N O tg pf sl tl bs)(hU:Upd s s' (fun b=>O b∧tg b=1) O')(hF:RFAt lo s' pf F' H.most O')(hok:HOk { H with F:=F' }) :
  RHpIn lo s' p { H with F:=F' } N (reO O tg 1 O') (reT tg 1 O') pf sl tl bs:=by
 have hO:∀ b,O b→b<s.next:=fun b hb=>(h.own b hb).2
 have hw:∀ b,O' b→(O b∧tg b=1)∨s.next≤b:=hU.own
 have hk:=re_keep h.own hU
 refine⟨re_own h.own hU.next hF.own,hok,h.tn,re_tag hO hw (by omega) h.pin,?_,h.row.same fun q n c e=>?_,fun q n c e=>?_,?_,h.ta.same fun q n c e=>?_,fun q n c e=>re_tag hO hw (by omega) (h.taO q n c e),h.len,fun i b o h1 h2=>?_⟩
 ·rw[hk p h.pin.1 (by rw[h.pin.2];omega)];exact h.bl
 ·have:=h.rowO q n c e
  exact hk _ this.1 (by rw[this.2.1];omega)
 ·have:=h.rowO q n c e
  have h2:=re_tag hO hw (j:=0) (by omega) ⟨this.1,this.2.1⟩
  exact⟨h2.1,h2.2,this.2.2⟩
 ·rw[re_same];exact hF
 ·have:=h.taO q n c e
  exact hk _ this.1 (by rw[this.2];omega)
 ·rw[re_other hO hw (by omega)]
  exact (h.obj i b o h1 h2).same hU.next fun c hc=>hk c hc.1 (by rw[hc.2];omega)
theorem RHpIn.newO{lo:Nat}{s s':St M}{p:Nat}{H:Hp}{N:Nat}{O O':Nat→Prop}{tg:Nat→Nat}{pf:Nat}{sl tl:Value}{bs:List Nat}{j b:Nat}{o':Ob}(h:RHpIn lo s p H N O tg pf sl tl bs)(hj:j<H.obs.length)(hb:bs[j]?=some b)(hU:Upd s s' (fun b=>O b∧tg b=j+3) O')(hB:RObAt lo s' N b o' O')(hok:HOk { H with obs:=H.obs.set j o' }) :
  RHpIn lo s' p { H with obs:=H.obs.set j o' } N (reO O tg (j+3) O') (reT tg (j+3) O') pf sl tl bs:=by
 have hO:∀ b,O b→b<s.next:=fun b hb=>(h.own b hb).2
 have hw:∀ b,O' b→(O b∧tg b=j+3)∨s.next≤b:=hU.own
 have hk:=re_keep h.own hU
 refine⟨re_own h.own hU.next hB.own,hok,h.tn,re_tag hO hw (by omega) h.pin,?_,h.row.same fun q n c e=>?_,fun q n c e=>?_,?_,h.ta.same fun q n c e=>?_,fun q n c e=>re_tag hO hw (by omega) (h.taO q n c e),by simpa using h.len,fun i b2 o h1 h2=>?_⟩
 ·rw[hk p h.pin.1 (by rw[h.pin.2];omega)];exact h.bl
 ·have:=h.rowO q n c e
  exact hk _ this.1 (by rw[this.2.1];omega)
 ·have:=h.rowO q n c e
  have h2:=re_tag hO hw (j:=0) (by omega) ⟨this.1,this.2.1⟩
  exact⟨h2.1,h2.2,this.2.2⟩
 ·rw[re_other hO hw (by omega)]
  exact h.fo.same hU.next fun b hb=>hk b hb.1 (by rw[hb.2];omega)
 ·have:=h.taO q n c e
  exact hk _ this.1 (by rw[this.2];omega)
 ·by_cases e:j=i
  ·subst e
   rw[hb]at h1
   cases h1
   simp only[List.getElem?_set,if_true,hj]at h2
   cases h2
   rw[re_same];exact hB
  ·simp only[List.getElem?_set,e,if_false]at h2
   rw[re_other hO hw (by omega)]
   exact (h.obj i b2 o h1 h2).same hU.next fun c hc=>hk c hc.1 (by rw[hc.2];omega)
theorem RHpIn.newT{lo:Nat}{s s':St M}{p:Nat}{H:Hp}{N:Nat}{O:Nat→Prop}{tg:Nat→Nat}{pf:Nat}{sl tl tl':Value}{bs:List Nat}{T':List ByteArray}(h:RHpIn lo s p H N O tg pf sl tl bs)(hlo:lo≤s.next)
  (hbl:s'.at' p=some (.cells [sl,.int .i64 (H.maxO:Int),.int .i64 (H.maxP:Int),.pointer (some ⟨pf,0,none⟩),tl'] 81 true))(hta:SlC 9 1 s' tl' (T'.map .string) T'.length)(hn:s.next≤s'.next)
  (hkeep:∀ b,b<s.next→b≠p→(∀ q n c,tl = .slice (some q) n c→b≠q.block)→s'.at' b=s.at' b)(hnew:∀ q n c,tl' = .slice (some q) n c→tl=tl'∨(s.next≤q.block∧q.block<s'.next))(hok:HOk { H with T:=T' })(hTN:T'.length≤N) :
  ∃ O',RHpIn lo s' p { H with T:=T' } N (reO O tg 2 O') (reT tg 2 O') pf sl tl' bs∧Upd s s' O (reO O tg 2 O'):=by
 have hO:∀ b,O b→b<s.next:=fun b hb=>(h.own b hb).2
 have hw:∀ b,(∃ q n c,tl' = .slice (some q) n c∧b=q.block)→(O b∧tg b=2)∨s.next≤b:=by
  rintro b ⟨q,n,c,e,rfl⟩
  rcases hnew q n c e with h1|h1
  ·exact .inl (h.taO q n c (h1.trans e))
  ·exact .inr h1.1
 have hl:∀ b,(∃ q n c,tl' = .slice (some q) n c∧b=q.block)→lo≤b∧b<s'.next:=by
  rintro b ⟨q,n,c,e,rfl⟩
  rcases hnew q n c e with h1|h1
  ·have:=h.own _ (h.taO q n c (h1.trans e)).1;omega
  ·omega
 have hk:∀ b,O b→tg b≠2→b≠p→s'.at' b=s.at' b:=fun b hb ht hp=>hkeep b (hO b hb) hp fun q n c e e2=>ht (e2▸(h.taO q n c e).2)
 refine⟨fun b=>∃ q n c,tl' = .slice (some q) n c∧b=q.block,⟨re_own h.own hn hl,hok,hTN,re_tag hO hw (by omega) h.pin,hbl,h.row.same fun q n c e=>?_,fun q n c e=>?_,?_,hta,fun q n c e=>?_,h.len,fun i b o h1 h2=>?_⟩,hn,fun b hb ho=>?_,fun b hb=>?_⟩
 ·have:=h.rowO q n c e
  exact hk _ this.1 (by rw[this.2.1];omega) this.2.2
 ·have:=h.rowO q n c e
  have h2:=re_tag hO hw (j:=0) (by omega) ⟨this.1,this.2.1⟩
  exact⟨h2.1,h2.2,this.2.2⟩
 ·rw[re_other hO hw (by omega)]
  exact h.fo.same hn fun b hb=>hk b hb.1 (by rw[hb.2];omega) (fun e=>by have:=h.pin.2;rw[← e,hb.2]at this;omega)
 ·have h3:=congrFun (re_same O tg 2 (fun b=>∃ q n c,tl' = .slice (some q) n c∧b=q.block)) q.block
  exact h3.mpr ⟨q,n,c,e,rfl⟩
 ·rw[re_other hO hw (by omega)]
  exact (h.obj i b o h1 h2).same hn fun c hc=>hk c hc.1 (by rw[hc.2];omega) (fun e=>by have:=h.pin.2;rw[← e,hc.2]at this;omega)
 ·exact hkeep b hb (fun e=>ho (e▸h.pin.1)) fun q n c e e2=>ho (e2▸(h.taO q n c e).1)
 ·rcases hb with ⟨h1,_⟩|h1
  ·exact .inl h1
  ·rcases hw b h1 with h2|h2
   ·exact .inl h2.1
   ·exact .inr h2
theorem RHpIn.at{lo:Nat}{s:St M}{p:Nat}{H:Hp}{N:Nat}{O:Nat→Prop}{tg:Nat→Nat}{pf:Nat}{sl tl:Value}{bs:List Nat}(h:RHpIn lo s p H N O tg pf sl tl bs){j:Nat}{o:Ob}(ho:H.obs[j]?=some o) :
  ∃ b br vs own ns vv,bs[j]?=some b∧RObAt lo s N b o (fun c=>O c∧tg c=j+3)∧sl = .slice (some ⟨br,0,none⟩) bs.length UNK∧s.at' br=some (.cells vs 163 own)∧vs[j]?=some (.pointer (some ⟨b,0,none⟩))∧br<s.next ∧
   ROb s b o.L (.int .i64 (o.proto:Int)) (.int .i64 (o.epoch:Int)) (.int .i64 (o.shape:Int)) ns vv∧RFr s b ns vv∧∀ c,Hang b ns vv c→O c∧tg c=j+3:=by
 have hj:=(List.getElem?_eq_some_iff.1 ho).1
 have hb:bs[j]?=some (bs[j]'(by have:=h.len;omega)):=List.getElem?_eq_getElem _
 have hB:=h.obj j _ o hb ho
 obtain⟨ns,vv,h1,h2,h3⟩:=hB.bl
 rcases h.row with ⟨e0,_⟩|⟨br,junk,e,hbr,_⟩
 ·have:=h.len;omega
 ·exact⟨_,br,_,_,ns,vv,hb,hB,e,hbr,ptrs_get junk hb,(h.own _ (h.rowO _ _ _ e).1).2,h1,h2,h3⟩
theorem RHpIn.form{lo:Nat}{s:St M}{p:Nat}{H:Hp}{N:Nat}{O:Nat→Prop}{tg:Nat→Nat}{pf:Nat}{sl tl:Value}{bs:List Nat}(h:RHpIn lo s p H N O tg pf sl tl bs):∃ q c,sl = .slice q H.obs.length c:=by
 rw[← h.len]
 rcases h.row.form with ⟨e0,rfl⟩|⟨b,rfl⟩
 ·exact⟨none,0,by rw[e0]⟩
 ·exact⟨_,_,rfl⟩
end
section
variable {lo p N pf:Nat}{H:Hp}{O:Nat→Prop}{tg:Nat→Nat}{sl tl:Value}{bs:List Nat}
theorem RHpIn.w(h:RHpIn lo s p H N O tg pf sl tl bs){j:Nat}(hj:j<H.obs.length):IntKind.i64.wrap (((j+1:Nat):Int) - 1)=(j:Int):=by
 have:=h.ok.lim
 rw[wrap_i64 (by omega)];omega
end
section
variable {lo p N pf:Nat}{H:Hp}{O:Nat→Prop}{tg:Nat→Nat}{sl tl:Value}{bs:List Nat}
end
section
variable {M:Type}[Mem M]{w0:World}{s s':St M}{R:Value→St M→Prop}{lo p N pf:Nat}{H:Hp}{O:Nat→Prop}{tg:Nat→Nat}{sl tl:Value}{bs:List Nat}
theorem ROb.head{b:Nat}{L:List (ByteArray×V3)}{a e f ns vs:Value}(h:ROb s b L a e f ns vs)(hf:RFr s b ns vs)(a' e' f':Value):ROb (s.put b (.cells [a',ns,vs,e',f'] 167 true)) b L a' e' f' ns vs:=
 ⟨by rw[St.at_put,if_pos rfl],h.nm.same fun q n c e=>by rw[St.at_put,if_neg (hf.n q n c e).2],h.vl.same fun q n c e=>by rw[St.at_put,if_neg (hf.v q n c e).2],h.few⟩
theorem RFr.put{b c:Nat}{ns vs:Value}{B:Blk}(h:RFr s b ns vs):RFr (s.put c B) b ns vs:=h.le (by simp)
theorem RHpIn.setO(h:RHpIn lo s p H N O tg pf sl tl bs)(hlo:lo≤s.next){i:Int}{j b:Nat}{o':Ob}{ns vv ns' vv':Value}(hij:i=((j+1:Nat):Int))(hj:j<H.obs.length)(hb:bs[j]?=some b)(hO:∀ c,Hang b ns vv c→O c∧tg c=j+3)(hU:Upd s s' (Hang b ns vv) (Hang b ns' vv'))
  (hob:ROb s' b o'.L (.int .i64 (o'.proto:Int)) (.int .i64 (o'.epoch:Int)) (.int .i64 (o'.shape:Int)) ns' vv')(hfr:RFr s' b ns' vv')(hep:o'.epoch≤N)(hok:HOk (putO H i o')) :
  ∃ O' tg',RHpIn lo s' p (putO H i o') N O' tg' pf sl tl bs∧Upd s s' O O':=by
 subst hij
 have e:(((j+1:Nat):Int).toNat - 1)=j:=by omega
 unfold putO at *
 rw[e]at hok ⊢
 have hU2:Upd s s' (fun c=>O c∧tg c=j+3) (Hang b ns' vv'):=⟨hU.next,fun c hc ho=>hU.keep c hc fun h=>ho (hO c h),fun c hc=>(hU.own c hc).imp (hO c) id⟩
 have hB:RObAt lo s' N b o' (Hang b ns' vv'):=⟨fun c hc=>⟨by rcases hU.own c hc with h1|h1;exact (h.own c (hO c h1).1).1;omega,hfr.lt c hc⟩,.b,hep,ns',vv',hob,hfr,fun c hc=>hc⟩
 exact⟨_,_,h.newO hj hb hU2 hB hok,re_upd hU2⟩
end
section
variable {M:Type}[Mem M]{w0:World}{s s':St M}{R:Value→St M→Prop}{lo p N pf:Nat}{H:Hp}{O:Nat→Prop}{tg:Nat→Nat}{sl tl:Value}{bs:List Nat}
end
section
variable {M:Type}[Mem M]{w0:World}{s s':St M}{R:Value→St M→Prop}{lo p N pf:Nat}{H:Hp}{O:Nat→Prop}{tg:Nat→Nat}{sl tl:Value}{bs:List Nat}
end
section
variable {lo p N:Nat}{H:Hp}{O:Nat→Prop}
open Classical in
theorem RHpIn.addO{s':St M}{tg:Nat→Nat}{pf b r:Nat}{sl sl' tl:Value}{bs:List Nat}{o':Ob}{OO:Nat→Prop}(h:RHpIn lo s p H N O tg pf sl tl bs)(hn:s.next≤s'.next)(hk:∀ c,O c→tg c≠0→s'.at' c=s.at' c)
  (hp:s'.at' p=some (.cells [sl',.int .i64 (H.maxO:Int),.int .i64 (H.maxP:Int),.pointer (some ⟨pf,0,none⟩),tl] 81 true))(hsl:SlU 163 1 s' sl' (ptrs (bs ++ [b])) (bs ++ [b]).length)(hr:∀ q n c,sl' = .slice (some q) n c→q.block=r)
  (hr1:¬ O r∧lo≤r∧r<s'.next)(hOO:∀ c,OO c→¬ O c∧c≠r)(hB:RObAt lo s' N b o' OO)(hok:HOk { H with obs:=H.obs ++ [o'] }) :
  RHpIn lo s' p { H with obs:=H.obs ++ [o'] } N (fun c=>(O c∧tg c≠bs.length+3)∨OO c∨c=r) (fun c=>if OO c then bs.length+3 else if c=r then 0 else tg c) pf sl' tl (bs ++ [b]):=by
 have hrp:r≠p:=fun e=>hr1.1 (e▸h.pin.1)
 have hold:∀ k,k≠bs.length+3→k≠0→(fun c=>((O c∧tg c≠bs.length+3)∨OO c∨c=r)∧(if OO c then bs.length+3 else if c=r then 0 else tg c)=k)=fun c=>O c∧tg c=k:=by
  intro k hk1 hk2
  funext c
  apply propext
  by_cases h1:OO c
  ·simp only[h1,if_true,true_or,or_true,true_and]
   exact⟨fun e=>absurd e.symm hk1,fun e=>absurd e.1 (hOO c h1).1⟩
  ·by_cases h2:c=r
   ·subst h2
    simp only[h1,if_false,if_true,or_true,true_and]
    exact⟨fun e=>absurd e.symm hk2,fun e=>absurd e.1 hr1.1⟩
   ·simp only[h1,h2,if_false,or_false]
    exact⟨fun ⟨⟨a,_⟩,b⟩=>⟨a,b⟩,fun ⟨a,b⟩=>⟨⟨a,by omega⟩,b⟩⟩
 have hnew:(fun c=>((O c∧tg c≠bs.length+3)∨OO c∨c=r)∧(if OO c then bs.length+3 else if c=r then 0 else tg c)=bs.length+3)=OO:=by
  funext c
  apply propext
  by_cases h1:OO c
  ·simp[h1]
  ·by_cases h2:c=r
   ·subst h2
    simp[h1]
   ·simp only[h1,h2,if_false,or_false,iff_false]
    exact fun ⟨⟨_,a⟩,b⟩=>a b
 have hpO:¬ OO p:=fun hc=>(hOO p hc).1 h.pin.1
 refine⟨fun c hc=>?_,hok,h.tn,⟨.inl ⟨h.pin.1,by rw[h.pin.2];omega⟩,?_⟩,hp,hsl,fun q n c e=>?_,?_,h.ta.same fun q n c e=>?_,fun q n c e=>?_,by simp[h.len],fun i b' o h1 h2=>?_⟩
 ·rcases hc with ⟨hc,_⟩|hc|rfl
  ·have:=h.own c hc;omega
  ·exact hB.own c hc
  ·exact hr1.2
 ·rw[if_neg hpO,if_neg (fun e=>hrp e.symm)];exact h.pin.2
 ·have:=hr q n c e
  rw[this]
  exact⟨.inr (.inr rfl),by rw[if_neg (fun hc=>(hOO r hc).2 rfl),if_pos rfl],hrp⟩
 ·rw[hold 1 (by omega) (by omega)]
  exact h.fo.same hn fun c hc=>hk c hc.1 (by rw[hc.2];omega)
 ·have:=h.taO q n c e
  exact hk _ this.1 (by rw[this.2];omega)
 ·have h3:=congrFun (hold 2 (by omega) (by omega)) q.block
  exact h3.mpr (h.taO q n c e)
 ·by_cases hi:i<bs.length
  ·rw[List.getElem?_append_left hi]at h1
   rw[List.getElem?_append_left (by rw[← h.len];exact hi)]at h2
   rw[hold (i+3) (by omega) (by omega)]
   exact (h.obj i b' o h1 h2).same hn fun c hc=>hk c hc.1 (by rw[hc.2];omega)
  ·have h0:i=bs.length:=by
    have:=(List.getElem?_eq_some_iff.1 h1).1
    simp at this;omega
   subst h0
   rw[List.getElem?_append_right (Nat.le_refl _)]at h1
   rw[List.getElem?_append_right (by rw[← h.len];exact Nat.le_refl _),← h.len]at h2
   simp at h1 h2
   subst h1 h2
   rw[hnew];exact hB
end
section
variable {M:Type}[Mem M]{w0:World}{s s':St M}{R:Value→St M→Prop}{lo p N:Nat}{H:Hp}{O:Nat→Prop}
end
section
end
section
variable {lo p N:Nat}{H:Hp}{O:Nat→Prop}
end
section
variable {lo p N r:Nat}{H:Hp}{O Q:Nat→Prop}
structure TwoH(lo:Nat)(s:St M)(p r:Nat)(H:Hp)(N:Nat)(O Q:Nat→Prop):Prop where
 h:HpAt lo s p H N O
 g:RHpAt lo s r H N Q
 dis:∀ b,O b→¬ Q b
theorem TwoH.le{s':St M}(t:TwoH lo s p r H N O Q)(hs:s.le s'):TwoH lo s' p r H N O Q:=⟨t.h.le hs,t.g.le hs,t.dis⟩
theorem TwoH.mono{N':Nat}(t:TwoH lo s p r H N O Q)(hN:N≤N'):TwoH lo s p r H N' O Q:=⟨t.h.mono hN,t.g.mono hN,t.dis⟩
theorem TwoH.g2{s':St M}{P:Nat→Prop}(t:TwoH lo s p r H N O Q)(hU:Upd s s' O P):RHpAt lo s' r H N Q:=
 t.g.same hU.next fun c hc=>hU.keep c (t.g.own c hc).2 fun h=>t.dis c h hc
theorem TwoH.both{s' s2:St M}{P Q2:Nat→Prop}{H':Hp}{N':Nat}(t:TwoH lo s p r H N O Q)(hU:Upd s s' O P)(hU2:Upd s' s2 Q Q2)(hP:HpAt lo s' p H' N' P)(hQ:RHpAt lo s2 r H' N' Q2):TwoH lo s2 p r H' N' P Q2∧s.next≤s2.next∧∀ b,b<s.next→¬ O b→¬ Q b→s2.at' b=s.at' b:=by
 have hPQ:∀ c,P c→¬ Q c:=fun c hc hq=>by
  rcases hU.own c hc with h|h
  ·exact t.dis c h hq
  ·have:=(t.g.own c hq).2;omega
 refine⟨⟨hP.same hU2.next fun c hc=>hU2.keep c (hP.own c hc).2 (hPQ c hc),hQ,fun c hc hq=>?_⟩,by have:=hU.next;have:=hU2.next;omega,fun c hc h1 h2=>by rw[hU2.keep c (by have:=hU.next;omega) h2,hU.keep c hc h1]⟩
 rcases hU2.own c hq with h|h
 ·exact hPQ c hc h
 ·have:=(hP.own c hc).2;omega
end
def RTx:=(And.intro (And.intro (And.intro (And.intro (And.intro (And.intro @underlying106 (And.intro @sz106 @is106)) (And.intro @ce106 (And.intro @ag106 @ze106))) (And.intro (And.intro @fa106x0 (And.intro @fa106x1 @fa106x2)) (And.intro @underlying46 (And.intro @sz46 @is46)))) (And.intro (And.intro (And.intro @ce46 (And.intro @ag46 @ze46)) (And.intro @nt46 (And.intro @nn46 @nf46))) (And.intro (And.intro @ng46 (And.intro @underlying182 @sz182)) (And.intro @is182 (And.intro @ce182 @ag182))))) (And.intro (And.intro (And.intro (And.intro @ze182 (And.intro @fa182x0 @fa182x1)) (And.intro @fa182x2 (And.intro @fa182x3 @underlying220))) (And.intro (And.intro @sz220 (And.intro @is220 @ce220)) (And.intro @ag220 (And.intro @ze220 @nt220)))) (And.intro (And.intro (And.intro @nn220 (And.intro @nf220 @ng220)) (And.intro @underlying107 (And.intro @sz107 @is107))) (And.intro (And.intro @ce107 (And.intro @ag107 @ze107)) (And.intro @underlying104 (And.intro @sz104 @is104)))))) (And.intro (And.intro (And.intro (And.intro (And.intro @ce104 (And.intro @ag104 @ze104)) (And.intro @underlying161 (And.intro @sz161 @is161))) (And.intro (And.intro @ce161 (And.intro @ag161 @ze161)) (And.intro @fa161x0 (And.intro @fa161x1 @fa161x2)))) (And.intro (And.intro (And.intro @fa161x3 (And.intro @fa161x4 @underlying154)) (And.intro @sz154 (And.intro @is154 @ce154))) (And.intro (And.intro @ag154 (And.intro @ze154 @underlying162)) (And.intro @sz162 (And.intro @is162 @ce162))))) (And.intro (And.intro (And.intro (And.intro @ag162 (And.intro @ze162 @fa162x0)) (And.intro @fa162x1 (And.intro @underlying159 @sz159))) (And.intro (And.intro @is159 (And.intro @ce159 @ag159)) (And.intro @ze159 (And.intro @underlying184 @sz184)))) (And.intro (And.intro (And.intro @is184 (And.intro @ce184 @ag184)) (And.intro @underlying155 (And.intro @sz155 @is155))) (And.intro (And.intro @ce155 (And.intro @ag155 @underlying157)) (And.intro (And.intro @sz157 @is157) (And.intro @ce157 @ag157)))))))
def forN(z:Sit):Int:=if z.used then (if z.sets then 2 else 1) else 0
def rsitC(z:Sit)(sl:Value):List Value:=[.int .i64 (forN z),.string z.name,sl,.bool z.mega]
def RY:STy:=⟨106,107,182,161,162,4,rsitC,fun _ _=>rfl,by decide,by decide,by decide,by decide,by decide,by decide,by decide,by decide,by decide⟩
section
variable {lo t N:Nat}{T:Tab}{O:Nat→Prop}{al:Value}{rb cp:Nat→Nat}{sl:Nat→Nat→Value}
end
section
variable {lo p N pf:Nat}{H:Hp}{P O:Nat→Prop}{tg:Nat→Nat}{sl0 tl:Value}{bs:List Nat}
end
section
variable {lo p N pf:Nat}{H:Hp}{P O:Nat→Prop}{tg:Nat→Nat}{sl0 tl:Value}{bs:List Nat}
theorem EntsAt.form{Y:STy}{v:Value}{es:List Ent}(h:EntsAt Y s O v es):∃ q c,v = .slice q es.length c:=by
 obtain⟨dl,h1,_⟩:=h
 rcases h1 with ⟨e,_,rfl⟩|⟨b,_,rfl,_⟩
 ·exact⟨none,0,by rw[e]⟩
 ·exact⟨_,_,rfl⟩
end
section
variable {lo p N pf:Nat}{H:Hp}{P O:Nat→Prop}{tg:Nat→Nat}{sl0 tl:Value}{bs:List Nat}
end
section
variable {lo t N:Nat}{T:Tab}{O:Nat→Prop}{al:Value}{rb cp:Nat→Nat}{sl:Nat→Nat→Value}
end
section
variable {lo lo1 t p N NN:Nat}{H:Hp}{T:Tab}{O P:Nat→Prop}{al:Value}{rb cp:Nat→Nat}{sl:Nat→Nat→Value}
end
section
variable {lo t p N NN:Nat}{H:Hp}{T:Tab}{O P:Nat→Prop}{al:Value}{rb cp:Nat→Nat}{sl:Nat→Nat→Value}
end
def MarkT(T T':Tab)(c:Nat→Nat→Prop)(w:Bool)(x:ByteArray):Prop:=
 T'.fs=T.fs∧T'.n=T.n∧∀ a b,(c a b→(T.st a b).used=false→(T.st a b).mega=false→(T'.st a b).used=true∧(T'.st a b).sets=w∧(T'.st a b).name=x) ∧
  ((T.st a b).used=true∨¬ c a b→(T'.st a b).used=(T.st a b).used∧(T'.st a b).sets=(T.st a b).sets∧(T'.st a b).name=(T.st a b).name)∧((T'.st a b).mega=true→(T.st a b).mega=true∨(T'.st a b).used=true)
theorem keepS_mark(z:Sit)(e:Ent):(keepS z e).used=z.used∧(keepS z e).sets=z.sets∧(keepS z e).name=z.name:=by
 unfold keepS
 split
 ·exact⟨rfl,rfl,rfl⟩
 ·split
  ·exact⟨rfl,rfl,rfl⟩
  ·exact⟨rfl,rfl,rfl⟩
theorem keepO_mark(z:Sit)(r:Option Ent):(keepO z r).used=z.used∧(keepO z r).sets=z.sets∧(keepO z r).name=z.name:=by
 cases r with
 |none=>exact⟨rfl,rfl,rfl⟩
 |some e=>exact keepS_mark z e
theorem playsS_mark(z:Sit)(w:Bool)(x:ByteArray):(playsS z w x).used=true∧(z.used=true→(playsS z w x).sets=z.sets∧(playsS z w x).name=z.name)∧(z.used=false→(playsS z w x).sets=w∧(playsS z w x).name=x):=by
 unfold playsS
 cases hu:z.used with
 |true=>exact⟨hu,fun _=>⟨rfl,rfl⟩,fun h=>Bool.noConfusion h⟩
 |false=>exact⟨rfl,fun h=>Bool.noConfusion h,fun _=>⟨rfl,rfl⟩⟩
theorem same_mark{T T':Tab}{c:Nat→Nat→Prop}{w:Bool}{x:ByteArray}(h1:T'.fs=T.fs)(h2:T'.n=T.n)(h3:T'.st=T.st)(hc:∀ a b,c a b→(T.st a b).used=false→(T.st a b).mega=false→False):MarkT T T' c w x:=
 ⟨h1,h2,fun a b=>by rw[h3];exact⟨fun h4 h5 h6=>(hc a b h4 h5 h6).elim,fun _=>⟨rfl,rfl,rfl⟩,fun h => .inl h⟩⟩
theorem put_mark{T T':Tab}{f k:Int}{w:Bool}{x:ByteArray}{z z1:Sit}(hz:siteAt T f k=z)(h1:T'.fs=T.fs)(h2:T'.n=T.n)(h3:T'.st=(putT T f k z1).st)(g1:z1.used=true)(g2:z.used=true→z1.sets=z.sets∧z1.name=z.name)(g3:z.used=false→z1.sets=w∧z1.name=x){p:Prop}(hp:p) :
  MarkT T T' (fun a b=>p∧a=f.toNat∧b=k.toNat) w x:=by
 subst hz
 refine⟨h1,h2,fun a b=>?_⟩
 rw[h3]
 show (_→_→_→(if a=f.toNat∧b=k.toNat then z1 else T.st a b).used=true∧(if a=f.toNat∧b=k.toNat then z1 else T.st a b).sets=w∧(if a=f.toNat∧b=k.toNat then z1 else T.st a b).name=x)∧(_→(if a=f.toNat∧b=k.toNat then z1 else T.st a b).used=_∧(if a=f.toNat∧b=k.toNat then z1 else T.st a b).sets=_∧(if a=f.toNat∧b=k.toNat then z1 else T.st a b).name=_)∧((if a=f.toNat∧b=k.toNat then z1 else T.st a b).mega=true→_∨(if a=f.toNat∧b=k.toNat then z1 else T.st a b).used=true)
 by_cases hab:a=f.toNat∧b=k.toNat
 ·rw[if_pos hab]
  obtain⟨rfl,rfl⟩:=hab
  refine⟨fun _ hu _=>⟨g1,g3 hu⟩,fun hc=>?_,fun _ => .inr g1⟩
  rcases hc with hu|hc
  ·have hu':(siteAt T f k).used=true:=hu
   exact⟨g1.trans hu.symm,g2 hu⟩
  ·exact absurd ⟨hp,rfl,rfl⟩ hc
 ·rw[if_neg hab]
  exact⟨fun hc=>absurd hc.2 hab,fun _=>⟨rfl,rfl,rfl⟩,fun h => .inl h⟩
theorem getT_mark(H:Hp)(T:Tab)(f k o:Int)(x:ByteArray)(r:Option Ent):MarkT T (getT H T f k o x r) (fun a b=>(hasT T f k∧shapeV H o≠0)∧a=f.toNat∧b=k.toNat) false x:=by
 obtain⟨n1,n2,_⟩:=getT_n H T f k o x r
 revert n1 n2
 unfold getT
 have hpl:=playsS_mark (siteAt T f k) false x
 have hke:=keepO_mark (playsS (siteAt T f k) false x) r
 split
 ·rename_i h0
  exact fun n1 n2=>same_mark n1 n2 rfl fun a b hc _ _=>hc.1.2 h0
 ·rename_i h0
  split
  ·rename_i h1
   exact fun n1 n2=>same_mark n1 n2 rfl fun a b hc _ _=>h1 hc.1.1
  ·rename_i h1
   split
   ·rename_i h2
    refine fun n1 n2=>same_mark n1 n2 rfl fun a b hc hu hm=>?_
    obtain⟨_,rfl,rfl⟩:=hc
    have hu':(siteAt T f k).used=false:=hu
    have hm':(siteAt T f k).mega=false:=hm
    unfold playsB at h2
    rw[hu',hm']at h2
    cases h2
   ·have hp:hasT T f k∧shapeV H o≠0:=⟨Decidable.not_not.1 h1,h0⟩
    split
    ·split
     ·exact fun n1 n2=>put_mark (z1:=playsS (siteAt T f k) false x) rfl n1 n2 rfl hpl.1 hpl.2.1 hpl.2.2 hp
     ·refine fun n1 n2=>put_mark (z1:=keepO (playsS (siteAt T f k) false x) r) rfl n1 n2 rfl (hke.1.trans hpl.1) ?_ ?_ hp<;>rw[hke.2.1,hke.2.2]
      ·exact hpl.2.1
      ·exact hpl.2.2
    ·refine fun n1 n2=>put_mark (z1:=keepO (playsS (siteAt T f k) false x) r) rfl n1 n2 rfl (hke.1.trans hpl.1) ?_ ?_ hp<;>rw[hke.2.1,hke.2.2]
     ·exact hpl.2.1
     ·exact hpl.2.2
theorem setT_mark(H:Hp)(T:Tab)(f k o:Int)(x:ByteArray)(v:V3):MarkT T (setT H T f k o x v) (fun a b=>(hasT T f k∧shapeV H o≠0)∧a=f.toNat∧b=k.toNat) true x:=by
 obtain⟨n1,n2,_⟩:=setT_n H T f k o x v
 revert n1 n2
 unfold setT
 have hpl:=playsS_mark (siteAt T f k) true x
 have hke:=keepS_mark (playsS (siteAt T f k) true x) (newE H o x v)
 split
 ·rename_i h0
  exact fun n1 n2=>same_mark n1 n2 rfl fun a b hc _ _=>hc.1.2 h0
 ·rename_i h0
  split
  ·rename_i h1
   exact fun n1 n2=>same_mark n1 n2 rfl fun a b hc _ _=>h1 hc.1.1
  ·rename_i h1
   split
   ·rename_i h2
    refine fun n1 n2=>same_mark n1 n2 rfl fun a b hc hu hm=>?_
    obtain⟨_,rfl,rfl⟩:=hc
    have hu':(siteAt T f k).used=false:=hu
    have hm':(siteAt T f k).mega=false:=hm
    unfold playsB at h2
    rw[hu',hm']at h2
    cases h2
   ·have hp:hasT T f k∧shapeV H o≠0:=⟨Decidable.not_not.1 h1,h0⟩
    split
    ·exact fun n1 n2=>put_mark (z1:=playsS (siteAt T f k) true x) rfl n1 n2 rfl hpl.1 hpl.2.1 hpl.2.2 hp
    ·split
     ·refine fun n1 n2=>put_mark (z1:=keepS (playsS (siteAt T f k) true x) (newE H o x v)) rfl n1 n2 rfl (hke.1.trans hpl.1) ?_ ?_ hp<;>rw[hke.2.1,hke.2.2]
      ·exact hpl.2.1
      ·exact hpl.2.2
     ·exact fun n1 n2=>put_mark (z1:=playsS (siteAt T f k) true x) rfl n1 n2 rfl hpl.1 hpl.2.1 hpl.2.2 hp
def NmOk(T:Tab)(nm:List ByteArray)(gt:List Bool):Prop:=nm.length=8∧gt.length=8∧2≤T.fs∧∀ a b,a<2→b<4→b<T.n a →
 ((T.st a b).used=false→nm[4*a+b]?=some ⟨#[]⟩∧(T.st a b).mega=false)∧((T.st a b).used=true→nm[4*a+b]?=some (⟨#[46]⟩++(T.st a b).name)∧gt[4*a+b]?=some (!(T.st a b).sets))
theorem NmOk.same{T T':Tab}{c:Nat→Nat→Prop}{w:Bool}{x:ByteArray}{nm:List ByteArray}{gt:List Bool}(h:NmOk T nm gt)(hm:MarkT T T' c w x)(hc:∀ a b,a<2→b<4→b<T.n a→c a b→(T.st a b).used=true):NmOk T' nm gt:=by
 obtain⟨h1,h2,hfs,h3⟩:=h
 obtain⟨m1,m2,m3⟩:=hm
 refine⟨h1,h2,by rw[m1];exact hfs,fun a b ha hb hn=>?_⟩
 rw[m2]at hn
 obtain⟨g1,g2⟩:=h3 a b ha hb hn
 obtain⟨k1,k2,k3⟩:=m3 a b
 have hor:(T.st a b).used=true∨¬ c a b:=by
  by_cases h:c a b
  ·exact .inl (hc a b ha hb hn h)
  ·exact .inr h
 obtain⟨e1,e2,e3⟩:=k2 hor
 rw[e1,e2,e3]
 refine⟨fun hu=>⟨(g1 hu).1,?_⟩,g2⟩
 cases hmg:(T'.st a b).mega with
 |false=>rfl
 |true =>
  rcases k3 hmg with h4|h4
  ·rw[(g1 hu).2]at h4;cases h4
  ·rw[e1,hu]at h4;cases h4
theorem NmOk.new{T T':Tab}{p:Prop}{f k:Int}{w:Bool}{x:ByteArray}{nm:List ByteArray}{gt:List Bool}(h:NmOk T nm gt)(hm:MarkT T T' (fun a b=>(hasT T f k∧p)∧a=f.toNat∧b=k.toNat) w x)(hp:p)(hf:0≤f∧f<2)(hk:0≤k∧k<4)(hz:hasT T f k→(siteAt T f k).used=false) :
  NmOk T' (nm.set (4*f+k).toNat (⟨#[46]⟩++x)) (gt.set (4*f+k).toNat (!w)):=by
 obtain⟨h1,h2,hfs,h3⟩:=h
 obtain⟨m1,m2,m3⟩:=hm
 refine⟨by rw[List.length_set,h1],by rw[List.length_set,h2],by rw[m1];exact hfs,fun a b ha hb hn=>?_⟩
 rw[m2]at hn
 obtain⟨g1,g2⟩:=h3 a b ha hb hn
 obtain⟨k1,k2,k3⟩:=m3 a b
 by_cases hab:a=f.toNat∧b=k.toNat
 ·have e4:4*a+b=(4*f+k).toNat:=by omega
  obtain⟨ha',hb'⟩:=hab
  have hh:hasT T f k:=⟨hf.1,by omega,hk.1,by rw[← ha'];omega⟩
  have hz':(T.st a b).used=false:=by
   have:=hz hh
   unfold siteAt at this
   rw[← ha',← hb']at this
   exact this
  obtain⟨e1,e2,e3⟩:=k1 ⟨⟨hh,hp⟩,ha',hb'⟩ hz' (g1 hz').2
  rw[e1,e2,e3,e4]
  refine⟨fun h=>Bool.noConfusion h,fun _=>⟨?_,?_⟩⟩
  ·rw[List.getElem?_set,if_pos rfl,if_pos (by omega)]
  ·rw[List.getElem?_set,if_pos rfl,if_pos (by omega)]
 ·have e4:¬ (4*f+k).toNat=4*a+b:=by omega
  rw[List.getElem?_set,if_neg e4,List.getElem?_set,if_neg e4]
  obtain⟨e1,e2,e3⟩:=k2 (.inr fun hc=>hab hc.2)
  rw[e1,e2,e3]
  refine⟨fun hu=>⟨(g1 hu).1,?_⟩,g2⟩
  cases hmg:(T'.st a b).mega with
  |false=>rfl
  |true =>
   rcases k3 hmg with h4|h4
   ·rw[(g1 hu).2]at h4;cases h4
   ·rw[e1,hu]at h4;cases h4
end Go.Proofs.Tryz
section
namespace Go.Cs
section
variable {M:Type}[Mem M]{P:Program}{w0:World}{s:St M}{ev:Operand→Value}{d:Option Tmp}{ty t:TypeId}{pos:String}{af:Array Edge}{g:Option (Nat×Bool)}{x y:Operand}{K:Value→St M→Prop}{F:Value→St M→Option Value→Prop}
def cmks(P:Program)(t:TypeId)(l c:Value):Option (Blk×(Nat→Value)):=match P.underlying t,l,c with
  |some (.slice e),.int _ l,.int _ c=>match P.info? e with
   |some ie=>if 0≤l∧l≤c∧c≤4294967296∧c*ie.bytes≤281474976710656 then
     match zerosOf P e (c.toNat*ie.size) with
     |some z=>some (.cells z e true,fun b => .slice (some ⟨b,0,none⟩) l.toNat c.toNat)
     |none=>none
    else none
   |none=>none
  |_,_,_=>none
theorem o_mks:wop P w0 ⟨d,.makeSlice t x y,ty,pos,af,g⟩ ev s K=wmk (cmks P t (ev x) (ev y)) s K:=rfl
theorem f_mks:wfop P ⟨d,.makeSlice t x y,ty,pos,af,g⟩ ev s F=wmk (cmks P t (ev x) (ev y)) s fun v s=>F v s none:=rfl
theorem f_min{args:Array Operand}{ats:Array TypeId}:wfop P ⟨d,.call ⟨.builtin .min,args,ats⟩,ty,pos,af,g⟩ ev s F=must (cbuiltin P .min ats ty (args.map ev)) fun v=>F v s none:=rfl
theorem f_max{args:Array Operand}{ats:Array TypeId}:wfop P ⟨d,.call ⟨.builtin .max,args,ats⟩,ty,pos,af,g⟩ ev s F=must (cbuiltin P .max ats ty (args.map ev)) fun v=>F v s none:=rfl
end
end Go.Cs
namespace Go.Proofs.Tryz
open Go.Cs
open Go.RowKit (Below)
set_option maxRecDepth 100000
attribute [local irreducible] QC WLoop WScope CRound WRange
section
variable {M:Type}[Mem M]{w0:World}{s:St M}{R:Value→St M→Prop}{lo t N:Nat}{T:Tab}{O:Nat→Prop}{al:Value}{rb cp:Nat→Nat}{sl:Nat→Nat→Value}
end
end Go.Proofs.Tryz
end
section
set_option maxRecDepth 100000
namespace Go.Proofs.Tryz
open Go.Cs Go.ChangeShapes Go.WideShapes Go.ChangeAt Go.RowKit Go.ChangeMaps
structure A17D where
 a0:Int
 a1:Int
 a2:Int
 a3:Int
 a4:Int
 a5:ByteArray
 a6:V3
def act17C(x:A17D):List Value:=[.int .i64 x.a0,.int .i64 x.a1,.int .i64 x.a2,.int .i64 x.a3,.int .i64 x.a4,.string x.a5,.int .i64 x.a6.1,.int .i64 x.a6.2.1,.string x.a6.2.2]
def Act17Ok(x:A17D):Prop:=I64 x.a0∧I64 x.a1∧I64 x.a2∧I64 x.a3∧I64 x.a4∧I64 x.a6.1∧I64 x.a6.2.1
theorem el_A17D{H:Type}{enc:TypeId×Value→H}{W:World}(n:Nat)(l:List Value)(y:DataW H×List MemPlace)(hf:DataW.trod enc prog W 0 (fun _=>true) true n 38 l=some y):∃ a,l=act17C a∧Act17Ok a:=by
 obtain⟨xs,m,_,hx,hl,hlen,hp⟩:=DataW.trod_struct underlying38 hf
 rw[ce38]at hl
 have h0:DataW.trod enc prog W 0 (fun _=>true) true m 3 (List.take (prog.cellsOf 3) (List.drop 0 l))=xs[0]?:=hp 0 _ rfl
 rw[ce3]at h0
 have h1:DataW.trod enc prog W 0 (fun _=>true) true m 3 (List.take (prog.cellsOf 3) (List.drop 1 l))=xs[1]?:=hp 1 _ rfl
 rw[ce3]at h1
 have h2:DataW.trod enc prog W 0 (fun _=>true) true m 3 (List.take (prog.cellsOf 3) (List.drop 2 l))=xs[2]?:=hp 2 _ rfl
 rw[ce3]at h2
 have h3:DataW.trod enc prog W 0 (fun _=>true) true m 3 (List.take (prog.cellsOf 3) (List.drop 3 l))=xs[3]?:=hp 3 _ rfl
 rw[ce3]at h3
 have h4:DataW.trod enc prog W 0 (fun _=>true) true m 3 (List.take (prog.cellsOf 3) (List.drop 4 l))=xs[4]?:=hp 4 _ rfl
 rw[ce3]at h4
 have h5:DataW.trod enc prog W 0 (fun _=>true) true m 9 (List.take (prog.cellsOf 9) (List.drop 5 l))=xs[5]?:=hp 5 _ rfl
 rw[ce9]at h5
 have h6:DataW.trod enc prog W 0 (fun _=>true) true m 36 (List.take (prog.cellsOf 36) (List.drop 6 l))=xs[6]?:=hp 6 _ rfl
 rw[ce36]at h6
 have hlen:xs.length=7:=hlen
 match l,hl,xs,hlen with
 | [c0,c1,c2,c3,c4,c5,c6,c7,c8],_,[y0,y1,y2,y3,y4,y5,y6],_ =>
  simp only[List.drop_zero,List.drop_succ_cons,List.take_succ_cons,List.take_zero,List.getElem?_cons_zero,List.getElem?_cons_succ]at h0 h1 h2 h3 h4 h5 h6
  obtain⟨a0,e0,rfl,w0⟩:=DataW.trod_int underlying3 h0
  simp only[List.cons.injEq,and_true]at e0
  subst e0
  obtain⟨a1,e1,rfl,w1⟩:=DataW.trod_int underlying3 h1
  simp only[List.cons.injEq,and_true]at e1
  subst e1
  obtain⟨a2,e2,rfl,w2⟩:=DataW.trod_int underlying3 h2
  simp only[List.cons.injEq,and_true]at e2
  subst e2
  obtain⟨a3,e3,rfl,w3⟩:=DataW.trod_int underlying3 h3
  simp only[List.cons.injEq,and_true]at e3
  subst e3
  obtain⟨a4,e4,rfl,w4⟩:=DataW.trod_int underlying3 h4
  simp only[List.cons.injEq,and_true]at e4
  subst e4
  obtain⟨a5,e5,rfl,w5⟩:=DataW.trod_string underlying9 h5
  simp only[List.cons.injEq,and_true]at e5
  subst e5
  obtain⟨k6,n6,x6,rfl,rfl,rfl,rfl,w6k,w6n,w6x⟩:=open_value_c h6
  exact⟨⟨a0,a1,a2,a3,a4,a5,(k6,n6,x6)⟩,rfl,Go.Cs.fits_i64 w0,Go.Cs.fits_i64 w1,Go.Cs.fits_i64 w2,Go.Cs.fits_i64 w3,Go.Cs.fits_i64 w4,Go.Cs.fits_i64 w6k,Go.Cs.fits_i64 w6n⟩
theorem open_acts17{H:Type}{enc:TypeId×Value→H}{W:World}{r:Reach}{b0:Nat}{v:Value}{d:DataW H}{ps:List MemPlace}(hval:Value.okWide prog W r b0 22 v)(hd:DataW.Trod enc prog W 0 (fun _=>true) true 22 v d ps) :
  ∃ (A us:List A17D) (cp:Nat) (oi:Option BI) (ad:Nat→Option Addr),(∀ ρ,QIn ρ W oi (us.flatMap act17C))∧(∀ (ρ:Ren) j,ρ j=oi→VRel ρ (.slice (ad j) A.length cp) v)∧(∀ a∈A,Act17Ok a)∧(A=[]∨(ad=fun j=>some ⟨j,0,none⟩)∧∀ k,k<A.length→us[k]?=A[k]?)∧A.length≤9223372036854775807:=
 open_rows (c:=9) act17C Act17Ok underlying22 ce38 (fun _=>rfl) (fun a x hx=>by
  simp only[act17C,List.mem_cons,List.not_mem_nil,or_false]at hx
  rcases hx with rfl|rfl|rfl|rfl|rfl|rfl|rfl|rfl|rfl<;>rfl) (by omega) el_A17D hval hd
theorem acts17_cut:∀ (l:List A17D) (k:Nat) (x:A17D),l[k]?=some x→k*9+9≤(l.flatMap act17C).length∧List.take 9 (List.drop (k*9) (l.flatMap act17C))=act17C x:=by
 intro l
 induction l with
 |nil=>intro k x h;simp at h
 |cons y l ih =>
  intro k x h
  rw[List.flatMap_cons]
  cases k with
  |zero =>
   simp at h;subst h
   exact⟨by rw[List.length_append];show 0*9+9≤9+_;omega,rfl⟩
  |succ k =>
   obtain⟨h1,h2⟩:=ih k x (by simpa using h)
   refine⟨by rw[List.length_append];show _≤9+_;omega,?_⟩
   rw[show (k+1)*9=9+k*9 by omega,← List.drop_drop]
   exact h2
end Go.Proofs.Tryz
end
namespace Go.Proofs.Tryz
open Go.Cs
open Go.RowKit (Below)
set_option maxRecDepth 100000
attribute [local irreducible] QC WLoop WScope CRound WRange
set_option maxHeartbeats 32000000
variable {M:Type}[Mem M]{w0:World}{s:St M}{R:Value→St M→Prop}
theorem rowSl(b:Addr)(n c:Nat):crow prog 82 1 #[(0,.slice (some b) n c)]=some (.cells [.slice (some b) n c] 85 true):=by kernel_rfl
theorem rowSl0:crow prog 82 0 #[]=some (.cells [] 85 true):=by kernel_rfl
theorem bTab(a:Addr)(n c:Nat):cbuild prog 84 #[(0,.slice (some a) n c)]=some (.agg #[.slice (some a) n c,.int .i64 0,.int .i64 0]):=by kernel_rfl
theorem infoRow:∃ ie,prog.info? 85=some ie∧ie.size=1∧0<ie.bytes∧ie.bytes≤100:=by
 obtain⟨ie,h⟩:=Option.isSome_iff_exists.1 is85
 have h1:=ce85
 have h2:decide (0<prog.bytesOf 85∧prog.bytesOf 85≤100)=true:=by kernel_rfl
 rw[cellsOf_info h]at h1
 simp only[Program.bytesOf,h,decide_eq_true_eq]at h2
 exact⟨ie,h,h1,h2.1,h2.2⟩
def nnL(L:List Int)(i:Nat):Nat:=(max 0 (min (L.getD i 0) 4000)).toNat
def newT(L:List Int):Tab:=⟨L.length,nnL L,fun _ _=>s0,0,0⟩
section
theorem wch_appRowV{v:Value}{cs new:List Value}{k vb:Nat}{K:Value→St M→Prop}(hvb:s.at' vb=some (.cells new 85 true))(hnew:new.length=1)(hok:new.all qC=true)(hlen:k≤1000000)(hsl:SlC 85 1 s v cs k)
  (h:∀ s',s'.next=s.next+1→s'.at' s.next=some (.cells (cs++new) 85 true)→(∀ b,b≠s.next→(∀ q n c,v = .slice (some q) n c→b≠q.block)→s'.at' b=s.at' b)→K (.slice (some ⟨s.next,0,none⟩) (k+1) UNK) s') :
  wch (capp prog #[82,82] #[v,.slice (some ⟨vb,0,none⟩) 1 1] s) K:=by
 obtain⟨ie,hie,h1,h2,h3⟩:=infoRow
 have hv:cmore ie.size (.slice (some ⟨vb,0,none⟩) 1 1) s=some (1,new):=by
  simp only[more_at,hvb,more2,h1]
  rw[cut_all (by omega)];rfl
 obtain⟨s',g3,g4,g5,g6⟩:=app_row (n:=k) (k:=1) hie ze85 (by rw[h1];rfl) h2 (app_eq underlying82 underlying82 hie) (by omega) (by
  have:(k+1)*ie.bytes≤1000001*100:=Nat.mul_le_mul (by omega) h3
  omega) hok hv (by rw[h1];exact hsl)
 exact⟨_,s',g3,h s' g4 g5 g6⟩
theorem snew_spec{L:List Int}{lb lc:Nat}(hL:s.at' lb=some (.cells (L.map fun x => .int .i64 x) 3 true))(hlbn:lb<s.next)(hm:L.length≤100)(hm0:0<L.length)
  (hmk:∀ i,i<L.length→cmks prog 85 (.int .i64 (nnL L i:Int)) (.int .i64 (nnL L i:Int))=some (.cells (rows (fun _=>sitC s0 (.slice none 0 0)) (nnL L i)) 96 true,fun b => .slice (some ⟨b,0,none⟩) (nnL L i) (nnL L i)))
  (hR:∀ s' t O,STab PY s.next s' t (newT L) 0 O→s.le s'→R (.pointer (some ⟨t,0,none⟩)) s'):QC prog w0 8 #[.slice (some ⟨lb,0,none⟩) L.length lc] s R:=by
 refine wfun2 hmix ok8 func8 rfl ntmps8 results8 (by simp) ?_
 simp -implicitDefEqProofs only[↓Zd,(Zp),simprocAttr,qP,Value.cells,(STx),underlying31,rowSl0,bTab]
 have l1:s.le ((s.new (.cells [] 85 true)).new (.cells [.slice (some ⟨s.next,0,none⟩) 0 0,.int .i64 0,.int .i64 0] 84 true)):=lN (lN (lR _))
 refine wloop_inv hmix (fun fuel env s'=>env 3 = .pointer (some ⟨s.next+1,0,none⟩)∧env 9 = .slice (some ⟨lb,0,none⟩) L.length lc∧env 10 = .int .i64 (L.length:Int)∧∃ (k:Nat) (al:Value) (rb:Nat→Nat),env 11 = .int .i64 (k:Int)∧k≤L.length∧fuel=L.length - k∧s.le s'∧s.next+2≤s'.next ∧
   s'.at' (s.next+1)=some (.cells [al,.int .i64 0,.int .i64 0] 84 true)∧SlC 85 1 s' al (rows (fun i=>[.slice (some ⟨rb i,0,none⟩) (nnL L i) (nnL L i)]) k) k∧(∀ q n c,al = .slice (some q) n c→s.next≤q.block∧q.block<s'.next)∧(k≠0→∃ b,al = .slice (some ⟨b,0,none⟩) k UNK) ∧
   (∀ i,i<k→s.next+2≤rb i∧rb i<s'.next∧s'.at' (rb i)=some (.cells (rows (fun _=>sitC s0 (.slice none 0 0)) (nnL L i)) 96 true))∧(∀ i j,i<k→j<k→rb i=rb j→i=j)) (L.length - 0) ?_ ?_
 ·refine⟨rfl,rfl,rfl,0,_,fun _=>0,rfl,Nat.zero_le _,rfl,l1,by simp only[St.next_new];omega,?_,.inr ⟨s.next,0,rfl,.inr ⟨rfl,by decide⟩,?_,rfl⟩,fun q n c e=>?_,fun h=>absurd rfl h,fun i hi=>absurd hi (Nat.not_lt_zero _),fun i j hi=>absurd hi (Nat.not_lt_zero _)⟩
  ·rw[St.at_new,if_pos (by simp only[St.next_new])]
  ·rw[St.at_new,if_neg (by simp only[St.next_new];omega),St.at_new,if_pos rfl];rfl
  ·cases e;simp only[St.next_new];exact⟨Nat.le_refl _,by omega⟩
 rintro fuel env s2 ⟨e3,e9,e10,k,al,rb,e11,hk,rfl,l2,n2,hT,hsl,hal,hne,hrb,hinj⟩
 by_cases hlt:k<L.length
 ·have hlt':(k:Int)<(L.length:Int):=by omega
  have hkk:(0:Int)≤(k:Int)∧(k:Int)<(L.length:Int):=by omega
  have w1:IntKind.i64.wrap ((k:Int)+1)=((k+1:Nat):Int):=by rw[wrap_i64 (by omega)];omega
  have hL2:=(l2.2 lb hlbn).trans hL
  have hLk:(L.map fun x=>(Value.int .i64 x))[k]?=some (.int .i64 (L.getD k 0)):=by
   rw[List.getElem?_map,List.getElem?_eq_getElem hlt,List.getD_eq_getElem?_getD,List.getElem?_eq_getElem hlt];rfl
  have hmx:(if (if (4000:Int)<L.getD k 0 then 4000 else L.getD k 0)>0 then (if (4000:Int)<L.getD k 0 then 4000 else L.getD k 0) else 0)=((nnL L k:Nat):Int):=by
   unfold nnL
   omega
  have hmk2:=hmk k hlt
  obtain⟨qa,qn,qc,hform⟩:∃ a n c,al=Value.slice a n c:=by rcases hsl with ⟨_,_,e⟩|⟨b,c,e,_⟩<;>exact⟨_,_,_,e⟩
  simp -implicitDefEqProofs only[↓Zd,(Zp),Zr,simprocAttr,cld2,(HEx),(STx),underlying31,e3,e9,e10,e11,hlt',hkk,hL2,hLk,hT,↓f_mks,↓f_min,↓f_max,bi_min,bi_max,hmx,hmk2,rowSl,Nat.add_zero,ord8]
  have hTb:∀ q n c,al = .slice (some q) n c→s.next+1≠q.block:=fun q n c e=>by
   rcases hsl with ⟨_,_,e2⟩|⟨b,c2,e2,_,h3,_⟩
   ·rw[e2]at e;cases e
   ·rw[e2]at e;cases e
    exact at_apart hT h3 (by decide)
  have hsl5:SlC 85 1 ((s2.new (.cells (rows (fun _=>sitC s0 (.slice none 0 0)) (nnL L k)) 96 true)).new (.cells [.slice (some ⟨s2.next,0,none⟩) (nnL L k) (nnL L k)] 85 true)) al (rows (fun i=>[.slice (some ⟨rb i,0,none⟩) (nnL L i) (nnL L i)]) k) k:=hsl.same fun q n c e=>by
   have:=(hal q n c e).2
   rw[St.at_new,if_neg (by simp only[St.next_new];omega),St.at_new,if_neg (by omega)]
  refine wch_appRowV (k:=k) (vb:=s2.next+1) (by rw[St.at_new,if_pos (by simp only[St.next_new])]) rfl (by simp[okc_slice]) (by omega) hsl5 fun s5 n5 b5 k5=>?_
  simp only[St.next_new]at n5 b5 k5
  have k5':∀ b,b<s2.next→(∀ q n c,al = .slice (some q) n c→b≠q.block)→s5.at' b=s2.at' b:=fun b hb hq=>by
   rw[k5 b (by omega) hq,St.at_new,if_neg (by simp only[St.next_new];omega),St.at_new,if_neg (by omega)]
  have hT5:=(k5' (s.next+1) (by omega) hTb).trans hT
  have hr5:s5.at' s2.next=some (.cells (rows (fun _=>sitC s0 (.slice none 0 0)) (nnL L k)) 96 true):=by
   rw[k5 s2.next (by omega) (fun q n c e=>by have:=(hal q n c e).2;omega),St.at_new,if_neg (by simp only[St.next_new];omega),St.at_new,if_pos rfl]
  have hL5:=(k5' lb (by have:=l2.1;omega) (fun q n c e=>by have:=(hal q n c e).1;omega)).trans hL2
  simp -implicitDefEqProofs only[↓Zd,(Zp),simprocAttr,qP,Value.cells,qC,(STx),e3,e9,e10,e11,hT5,w1,Nat.add_zero]
  have hl5:s.le s5:=⟨by have:=l2.1;omega,fun c hc=>by rw[k5' c (by have:=l2.1;omega) (fun q n c' e=>by have:=(hal q n c' e).1;omega)];exact l2.2 c hc⟩
  have hrow5:∀ i,i<k→s5.at' (rb i)=some (.cells (rows (fun _=>sitC s0 (.slice none 0 0)) (nnL L i)) 96 true):=fun i hi=>by
   obtain⟨h1,h2,h3⟩:=hrb i hi
   rw[k5' _ h2 (fun q n c e=>by
    rcases hsl with ⟨_,_,e2⟩|⟨b,c2,e2,_,h4,_⟩
    ·rw[e2]at e;cases e
    ·rw[e2]at e;cases e
     exact at_apart h3 h4 (by decide))]
   exact h3
  have heq:(s2.next+1+1:Nat)=s2.next+2:=rfl
  refine⟨_,Nat.sub_lt_sub_left hlt (Nat.lt_succ_self k),k+1,_,fun i=>if i=k then s2.next else rb i,rfl,by omega,rfl,lP hl5 (by omega),by omega,rfl,.inr ⟨s2.next+2,UNK,rfl,.inl rfl,?_,?_⟩,fun q n c e=>?_,fun _=>⟨_,rfl⟩,fun i hi=>?_,fun i j hi hj e=>?_⟩
  ·rw[St.at_put,if_neg (by omega)]
   have b5:s5.at' (s2.next+2)=_:=b5
   rw[b5,rows_succ]
   congr 3
   ·refine rows_congr fun m hmk3=>?_
    have hmk4:m≠k:=Nat.ne_of_lt hmk3
    show _=[Value.slice (some ⟨if m=k then s2.next else rb m,0,none⟩) (nnL L m) (nnL L m)]
    rw[if_neg hmk4]
   ·show _=[Value.slice (some ⟨if k=k then s2.next else rb k,0,none⟩) (nnL L k) (nnL L k)]
    rw[if_pos rfl]
  ·rw[rows_len (k:=1) (fun _=>rfl)]
  ·cases e
   show s.next≤s2.next+2∧s2.next+2<s5.next
   omega
  ·show s.next+2≤(if i=k then s2.next else rb i)∧(if i=k then s2.next else rb i)<s5.next∧(if (if i=k then s2.next else rb i)=s.next+1 then _ else s5.at' (if i=k then s2.next else rb i))=_
   by_cases e:i=k
   ·subst e
    rw[if_pos rfl,if_neg (by omega)]
    exact⟨by omega,by omega,hr5⟩
   ·rw[if_neg e]
    have h1:=hrb i (by omega)
    rw[if_neg (by omega)]
    exact⟨h1.1,by omega,hrow5 i (by omega)⟩
  ·have e:(if i=k then s2.next else rb i)=(if j=k then s2.next else rb j):=e
   by_cases e1:i=k
   ·by_cases e2:j=k
    ·omega
    ·rw[if_pos e1,if_neg e2]at e
     have:=(hrb j (by omega)).2.1;omega
   ·by_cases e2:j=k
    ·rw[if_neg e1,if_pos e2]at e
     have:=(hrb i (by omega)).2.1;omega
    ·rw[if_neg e1,if_neg e2]at e
     exact hinj i j (by omega) (by omega) e
 ·have hlt':¬ (k:Int)<(L.length:Int):=by omega
  have hkl:k=L.length:=by omega
  subst hkl
  simp -implicitDefEqProofs only[↓Zd,(Zp),simprocAttr,e3,e10,e11,hlt']
  obtain⟨b,rfl⟩:=hne (by omega)
  refine hR s2 (s.next+1) (fun b=>s.next≤b∧b<s2.next) ⟨_,rb,nnL L,fun _ _ => .slice none 0 0,fun b hb=>hb,⟨by omega,by omega⟩,hT,⟨Nat.le_refl _,Nat.le_refl _⟩,?_,fun q n c e=>hal q n c e,fun i hi=>⟨by have:=hrb i hi;omega,(hrb i hi).2.1⟩,fun i hi=>(hrb i hi).2.2,hinj,fun i j hi hj=>⟨fun _ => .slice none 0 0,.inl ⟨rfl,rfl,rfl⟩,fun q n c e=>(by cases e),fun m hm=>absurd hm (Nat.not_lt_zero _),fun _=>rfl⟩,fun i j i' j' q n c q' n' c' h1 h2 h3 h4 e=>(by cases e),⟨hm,fun i hi=>?_⟩⟩ l2
  ·rcases hsl with ⟨h1,_,e⟩|⟨b',c,e,h1,h2,h3⟩
   ·exact absurd e (by simp)
   ·cases e
    exact .inr ⟨b,[],rfl,by rw[List.append_nil];exact h2,h3⟩
  ·show nnL L i≤4000
   unfold nnL;omega
end
theorem rowSites:crow prog 31 3 #[(0,.int .i64 3),(1,.int .i64 2),(2,.int .i64 (-1))]=some (.cells [.int .i64 3,.int .i64 2,.int .i64 (-1)] 3 true):=by kernel_rfl
theorem mks3:cmks prog 85 (.int .i64 3) (.int .i64 3)=some (.cells (rows (fun _=>sitC s0 (.slice none 0 0)) 3) 96 true,fun b => .slice (some ⟨b,0,none⟩) 3 3):=by kernel_rfl
theorem mks2:cmks prog 85 (.int .i64 2) (.int .i64 2)=some (.cells (rows (fun _=>sitC s0 (.slice none 0 0)) 2) 96 true,fun b => .slice (some ⟨b,0,none⟩) 2 2):=by kernel_rfl
theorem mks0:cmks prog 85 (.int .i64 0) (.int .i64 0)=some (.cells (rows (fun _=>sitC s0 (.slice none 0 0)) 0) 96 true,fun b => .slice (some ⟨b,0,none⟩) 0 0):=by kernel_rfl
theorem newT_ok(H:Hp)(L:List Int):TabOk H (newT L):=fun a b _ _=>s0_ok H false
section
theorem sites_spec(hR:R (.slice (some ⟨s.next,0,none⟩) 3 3) (s.new (.cells [.int .i64 3,.int .i64 2,.int .i64 (-1)] 3 true))):QC prog w0 9 #[] s R:=by
 refine wfun2 hmix ok9 func9 rfl ntmps9 results9 (by simp) ?_
 simp -implicitDefEqProofs only[↓Zd,(Zp),simprocAttr,rowSites]
 exact hR
theorem snew3_spec{lb:Nat}(hL:s.at' lb=some (.cells [.int .i64 3,.int .i64 2,.int .i64 (-1)] 3 true))(hlbn:lb<s.next)(hR:∀ s' t O,STab PY s.next s' t (newT [3,2,-1]) 0 O→s.le s'→R (.pointer (some ⟨t,0,none⟩)) s'):QC prog w0 8 #[.slice (some ⟨lb,0,none⟩) 3 3] s R:=by
 refine snew_spec (L:=[3,2,-1]) (lc:=3) hL hlbn (by decide) (by decide) (fun i hi=>?_) hR
 match i,hi with
 |0,_=>exact mks3
 |1,_=>exact mks2
 |2,_=>exact mks0
structure HideAt(n0:Nat)(s0 s:St M)(p1 p2 t:Nat)(H G:Hp)(T:Tab)(N k:Nat)(O1 O2 O3:Nat→Prop):Prop where
 two:TwoAt n0 s0 s p1 p2 H G N O1 O2
 tab:STab PY n0 s t T k O3
 d13:∀ b,O1 b→¬ O3 b
 d23:∀ b,O2 b→¬ O3 b
 ok:TabOk H T
 fs:0<T.fs
variable {n0 p1 p2 t N k:Nat}{s0:St M}{H G:Hp}{T:Tab}{O1 O2 O3:Nat→Prop}
theorem HideAt.le{s':St M}(h:HideAt n0 s0 s p1 p2 t H G T N k O1 O2 O3)(hs:s.le s'):HideAt n0 s0 s' p1 p2 t H G T N k O1 O2 O3:=⟨h.two.le hs,h.tab.le hs,h.d13,h.d23,h.ok,h.fs⟩
theorem TwoAt.mono{N':Nat}(h:TwoAt n0 s0 s p1 p2 H G N O1 O2)(hN:N≤N'):TwoAt n0 s0 s p1 p2 H G N' O1 O2:=⟨h.one.mono hN,h.two.mono hN,h.apart,h.lo,h.old,h.sim,h.sz⟩
theorem HideAt.mono{N' k':Nat}(h:HideAt n0 s0 s p1 p2 t H G T N k O1 O2 O3)(hN:N≤N')(hk:k≤k'):HideAt n0 s0 s p1 p2 t H G T N' k' O1 O2 O3:=⟨h.two.mono hN,h.tab.mono hk,h.d13,h.d23,h.ok,h.fs⟩
theorem HideAt.step{s1 s2:St M}{H' G':Hp}{N':Nat}{P1 P2:Nat→Prop}(h:HideAt n0 s0 s p1 p2 t H G T N k O1 O2 O3)(h1:HpAt n0 s1 p1 H' N' P1)(hU1:Upd s s1 O1 P1)(h2:HpAt n0 s2 p2 G' N' P2)(hU2:Upd s1 s2 O2 P2)(hsim:Sim H' G')(hsz:HSz 1000000 H')(hg:Grows H H') :
  HideAt n0 s0 s2 p1 p2 t H' G' T N' k P1 P2 O3:=by
 obtain⟨a1,b1⟩:=h.tab.other hU1 h.d13
 obtain⟨a2,b2⟩:=a1.other hU2 h.d23
 exact⟨h.two.step h1 hU1 h2 hU2 hsim hsz,a2,b1,b2,h.ok.grows h.two.one.ok h1.ok hg,h.fs⟩
theorem HideAt.table{s1:St M}{T':Tab}{k':Nat}{P3:Nat→Prop}(h:HideAt n0 s0 s p1 p2 t H G T N k O1 O2 O3)(h1:STab PY n0 s1 t T' k' P3)(hU1:Upd s s1 O3 P3)(hok:TabOk H T')(hfs:T'.fs=T.fs) :
  HideAt n0 s0 s1 p1 p2 t H G T' N k' O1 O2 P3:=by
 obtain⟨g1,e1⟩:=h.two.one.other hU1 (fun b h1 h2=>h.d13 b h2 h1)
 obtain⟨g2,e2⟩:=h.two.two.other hU1 (fun b h1 h2=>h.d23 b h2 h1)
 have hn:=hU1.next
 have hlo:=h.two.lo
 refine⟨⟨g1,g2,h.two.apart,by omega,fun c hc=>?_,h.two.sim,h.two.sz⟩,h1,fun b hb hb3=>e1 b hb3 hb,fun b hb hb3=>e2 b hb3 hb,hok,by rw[hfs];exact h.fs⟩
 rw[hU1.keep c (by omega) (fun hb=>by have:=(h.tab.own c hb).1;omega)]
 exact h.two.old c hc
theorem HideAt.all{s1 s2:St M}{H' G':Hp}{T':Tab}{N' k':Nat}{P1 P2 P3:Nat→Prop}(h:HideAt n0 s0 s p1 p2 t H G T N k O1 O2 O3)(h1:HpAt n0 s1 p1 H' N' P1)(h3:STab PY n0 s1 t T' k' P3)(hd:∀ b,P1 b→¬ P3 b)(hn:s.next≤s1.next)(hk:∀ b,b<s.next→¬ O1 b→¬ O3 b→s1.at' b=s.at' b)(ho1:∀ b,P1 b→O1 b∨s.next≤b)(ho3:∀ b,P3 b→O3 b∨s.next≤b)
  (h2:HpAt n0 s2 p2 G' N' P2)(hU2:Upd s1 s2 O2 P2)(hsim:Sim H' G')(hsz:HSz 1000000 H')(hok:TabOk H' T')(hfs:T'.fs=T.fs) :
  HideAt n0 s0 s2 p1 p2 t H' G' T' N' k' P1 P2 P3:=by
 have d12:∀ b,O2 b→¬ P1 b:=fun b hb h4=>by
  rcases ho1 b h4 with h5|h5
  ·exact h.two.apart b h5 hb
  ·have:=(h.two.two.own b hb).2;omega
 have d32:∀ b,O2 b→¬ P3 b:=fun b hb h4=>by
  rcases ho3 b h4 with h5|h5
  ·exact h.d23 b hb h5
  ·have:=(h.two.two.own b hb).2;omega
 obtain⟨g1,e1⟩:=h1.other hU2 d12
 obtain⟨g3,e3⟩:=h3.other hU2 d32
 have hn2:=hU2.next
 have hlo:=h.two.lo
 refine⟨⟨g1,h2,fun b hb hb2=>e1 b hb2 hb,by omega,fun c hc=>?_,hsim,hsz⟩,g3,hd,e3,hok,by rw[hfs];exact h.fs⟩
 rw[hU2.keep c (by omega) (fun hb=>by have:=(h.two.two.own c hb).1;omega),hk c (by omega) (fun hb=>by have:=(h.two.one.own c hb).1;omega) (fun hb=>by have:=(h.tab.own c hb).1;omega)]
 exact h.two.old c hc
end
section
variable {lo t N:Nat}{T:Tab}{O:Nat→Prop}
end
section
end
section
variable {lo t N:Nat}{T:Tab}{O:Nat→Prop}{al:Value}{rb cp:Nat→Nat}{sl:Nat→Nat→Value}
theorem ents_more{Y:STy}{s5:St M}{O5:Nat→Prop}{es:List Ent}{e:Ent}{dlf:Nat→Value}{dl:Value}{nb:Nat}(h3:∀ j,j<es.length→DepsAt Y s5 O5 (dlf j) (es.getD j e0).deps)
  (hb:s5.at' nb=some (.cells (rows (fun j=>entC (es.getD j e0) (dlf j)) es.length++entC e dl) Y.tE true))(hO:O5 nb)(hD:DepsAt Y s5 O5 dl e.deps):EntsAt Y s5 O5 (.slice (some ⟨nb,0,none⟩) (es.length+1) UNK) (es ++ [e]):=by
 refine⟨fun m=>if m<es.length then dlf m else dl,.inr ⟨nb,[],by simp,?_,rows_len (k:=5) (fun _=>rfl) _⟩,fun q n c e=>(by cases e;exact hO),fun m hm=>?_,fun h=>by simp at h⟩
 ·rw[hb,List.append_nil]
  show _=some (Blk.cells (rows _ (es ++ [e]).length) _ true)
  rw[List.length_append,List.length_cons,List.length_nil,Nat.zero_add,rows_succ]
  congr 3
  ·refine rows_congr fun m hm=>?_
   show _=entC ((es ++ [e]).getD m e0) (if m<es.length then dlf m else dl)
   rw[if_pos hm,List.getD_eq_getElem?_getD,List.getD_eq_getElem?_getD,List.getElem?_append_left hm]
  ·show _=entC ((es ++ [e]).getD es.length e0) (if es.length<es.length then dlf _ else dl)
   rw[if_neg (Nat.lt_irrefl _),List.getD_eq_getElem?_getD,List.getElem?_append_right (Nat.le_refl _),Nat.sub_self]
   rfl
 ·show DepsAt Y _ _ (if m<es.length then dlf m else dl) ((es ++ [e]).getD m e0).deps
  have hm:m<(es ++ [e]).length:=hm
  rw[List.length_append,List.length_cons,List.length_nil]at hm
  by_cases em:m<es.length
  ·rw[if_pos em,List.getD_eq_getElem?_getD,List.getElem?_append_left em,← List.getD_eq_getElem?_getD]
   exact h3 m em
  ·have:m=es.length:=by omega
   subst this
   rw[if_neg em,List.getD_eq_getElem?_getD,List.getElem?_append_right (Nat.le_refl _),Nat.sub_self]
   exact hD
theorem tstate_spec(h:SAt PY lo s t T N O al rb cp sl)(hfs:0<T.fs){f k:Int}(hfew:hasT T f k→(siteAt T f k).es.length≤4∧∀ e∈(siteAt T f k).es,e.deps.length≤1000)(hno:¬ hasT T f k→R (.tuple #[.int .i64 0,.slice none 0 0]) s)
  (hmega:hasT T f k→(siteAt T f k).mega=true→R (.tuple #[.int .i64 3,.slice none 0 0]) s)
  (hyes:hasT T f k→(siteAt T f k).mega=false→∀ s' v,s.le s'→EntsAt PY s' (fun b=>s.next≤b∧b<s'.next) v (siteAt T f k).es→R (.tuple #[.int .i64 (min ((siteAt T f k).es.length:Int) 2),v]) s') :
  QC prog w0 13 #[.pointer (some ⟨t,0,none⟩),.int .i64 f,.int .i64 k] s R:=by
 refine wfun2 hmix ok13 func13 rfl ntmps13 results13 (by simp) ?_
 simp -implicitDefEqProofs only[↓Zd,(Zp),simprocAttr,co36]
 refine sfind_spec h hfs (fun hnot=>?_) (fun i j hf hk hi hj hhas=>?_)
 ·simp -implicitDefEqProofs only[↓Zd,(Zp),simprocAttr,(STx)]
  exact hno hnot
 subst hf hk
 have hR2:=hmega hhas
 have hR3:=hyes hhas
 have hfew:=hfew hhas
 rw[siteAt_nat]at hR2 hR3 hfew
 have hr:s.at' (rb i)=some (.cells (rows (fun m=>sitC (T.st i m) (sl i m)) (T.n i)) 96 true):=h.row i hi
 have g2:(rows (fun m=>sitC (T.st i m) (sl i m)) (T.n i))[j*5+2]?=some (.bool (T.st i j).mega):=rows_get0 (c:=fun m=>sitC (T.st i m) (sl i m)) (k:=5) (fun _=>rfl) hj (j:=2) (by omega)
 have g4:(rows (fun m=>sitC (T.st i m) (sl i m)) (T.n i))[j*5+4]?=some (sl i j):=rows_get0 (c:=fun m=>sitC (T.st i m) (sl i m)) (k:=5) (fun _=>rfl) hj (j:=4) (by omega)
 cases hm:(T.st i j).mega with
 |true =>
  rw[hm]at g2
  simp -implicitDefEqProofs only[↓Zd,(Zp),simprocAttr,cld2,(HEx),(STx),hr,g2]
  exact hR2 hm
 |false =>
  rw[hm]at g2
  replace hR3:=hR3 hm
  have hE:=h.es i j hi hj
  generalize (T.st i j).es=es at hR3 hE hfew
  have hOn:∀ b,O b→b<s.next:=fun b hb=>(h.own b hb).2
  obtain⟨sq,sc,hv⟩:∃ q c,sl i j = .slice q es.length c:=by
   obtain⟨dl,h1,_⟩:=hE
   rcases h1 with ⟨e,_,e2⟩|⟨b,_,e2,_⟩
   ·exact⟨none,0,by rw[e2,e]⟩
   ·exact⟨_,_,e2⟩
  replace g4:=g4.trans (congrArg some hv)
  rw[hv]at hE
  obtain⟨dlf,h1,h2,h3,h4⟩:=hE
  simp -implicitDefEqProofs only[↓Zd,(Zp),simprocAttr,cld2,(HEx),(STx),hr,g2,g4]
  refine wloop_inv hmix (fun fuel env s'=>env 25 = .slice sq es.length sc∧env 26 = .int .i64 (es.length:Int)∧∃ (m:Nat) (ov:Value),env 27 = .int .i64 (m:Int)∧env 9=ov∧m≤es.length∧fuel=es.length - m∧s.le s'∧EntsAt PY s' (fun b=>s.next≤b∧b<s'.next) ov (es.take m)) (es.length - 0) ⟨rfl,rfl,0,_,rfl,rfl,Nat.zero_le _,rfl,lR _,⟨fun _ => .slice none 0 0,.inl ⟨rfl,rfl,rfl⟩,fun q n c e=>(by cases e),fun m hm=>absurd hm (Nat.not_lt_zero _),fun _=>rfl⟩⟩ ?_
  rintro fuel env s2 ⟨e25,e26,m,ov,e27,e9,hm2,rfl,hs2,hE2⟩
  have n2:=hs2.1
  obtain⟨oq,oc,hov⟩:∃ q c,ov = .slice q (es.take m).length c:=by
   obtain⟨dl,h1,_⟩:=hE2
   rcases h1 with ⟨e,_,e2⟩|⟨b,_,e2,_⟩
   ·exact⟨none,0,by rw[e2,e]⟩
   ·exact⟨_,_,e2⟩
  have htl:(es.take m).length=m:=by rw[List.length_take];omega
  rw[htl]at hov
  by_cases hlt:m<es.length
  ·have hlt':(m:Int)<(es.length:Int):=by omega
   have hkk:(0:Int)≤(m:Int)∧(m:Int)<(es.length:Int):=by omega
   have w1:IntKind.i64.wrap ((m:Int)+1)=((m+1:Nat):Int):=by rw[wrap_i64 (by omega)];omega
   rcases h1 with ⟨h0,_,_⟩|⟨eb,junk,hq,ge,_⟩
   ·omega
   cases hq
   have hebn:eb<s.next:=hOn _ (h2 _ _ _ rfl)
   have ge2:s2.at' eb=some (.cells (rows (fun j=>entC (es.getD j e0) (dlf j)) es.length++junk) 51 true):=(hs2.2 eb hebn).trans ge
   obtain⟨hle5,htk5⟩:=rows_cut (c:=fun j=>entC (es.getD j e0) (dlf j)) (k:=5) (fun _=>rfl) junk hlt
   have hD:=h3 m hlt
   generalize hem:es.getD m e0=e at hD htk5
   obtain⟨qa,qn,qc,hdl⟩:=hD.form
   rw[hdl]at hD htk5
   have htk:List.take 5 (List.drop (m*5) (rows (fun j=>entC (es.getD j e0) (dlf j)) es.length++junk))=[.int .i64 (e.shape:Int),.int .i64 e.holder,.int .i64 e.slot,.int .i64 (e.to:Int),.slice qa qn qc]:=htk5
   simp -implicitDefEqProofs only[↓Zd,(Zp),simprocAttr,qP,Value.cells,cut,qC,cld2,(STx),e25,e26,e27,hlt',hkk,ge2,hle5,htk,co37]
   have l3:s2.le ((s2.new (.cells [.int .i64 0,.int .i64 0,.int .i64 0,.int .i64 0,.slice none 0 0] 51 true)).put s2.next (.cells [.int .i64 (e.shape:Int),.int .i64 e.holder,.int .i64 e.slot,.int .i64 (e.to:Int),.slice qa qn qc] 51 true)):=(by repeat (first|exact lR _|assumption|refine lN ?_|refine lP ?_ (by first|omega|(simp only[(Sn)];omega))|refine lT ?_ (by assumption)))
   have c3:((s2.new (.cells [.int .i64 0,.int .i64 0,.int .i64 0,.int .i64 0,.slice none 0 0] 51 true)).put s2.next (.cells [.int .i64 (e.shape:Int),.int .i64 e.holder,.int .i64 e.slot,.int .i64 (e.to:Int),.slice qa qn qc] 51 true)).at' s2.next=some (.cells [.int .i64 (e.shape:Int),.int .i64 e.holder,.int .i64 e.slot,.int .i64 (e.to:Int),.slice qa qn qc] 51 true):=by rw[St.at_put,if_pos rfl]
   have n3:((s2.new (.cells [.int .i64 0,.int .i64 0,.int .i64 0,.int .i64 0,.slice none 0 0] 51 true)).put s2.next (.cells [.int .i64 (e.shape:Int),.int .i64 e.holder,.int .i64 e.slot,.int .i64 (e.to:Int),.slice qa qn qc] 51 true)).next=s2.next+1:=rfl
   generalize (s2.new (.cells [.int .i64 0,.int .i64 0,.int .i64 0,.int .i64 0,.slice none 0 0] 51 true)).put s2.next (.cells [.int .i64 (e.shape:Int),.int .i64 e.holder,.int .i64 e.slot,.int .i64 (e.to:Int),.slice qa qn qc] 51 true)=s3 at l3 c3 n3 ⊢
   have htm:es.take (m+1)=es.take m ++ [e]:=by
    rw[List.take_add_one,List.getElem?_eq_getElem hlt,← hem,getD_at hlt];rfl
   rw[hov]at e9 hE2
   obtain⟨odl,o1,o2,o3,o4⟩:=hE2
   rw[htl]at o1
   rcases hD with ⟨d1,d2,d3⟩
   rcases d1 with ⟨d4,_,d5⟩|⟨db,junk2,d5,d6,d7⟩
   ·cases d5
    refine cloneDep0 ?_
    have hDN:∀ s':St M,DepsAt PY s' (fun b=>s.next≤b∧b<s'.next) (.slice none 0 0) e.deps:=fun s'=>⟨.inl ⟨d4,by rw[d4];rfl,rfl⟩,fun q n c e=>(by cases e),fun _=>rfl⟩
    have c4:=c3
    have l34:=lR s3
    have n4:=l34.1
    simp -implicitDefEqProofs only[↓Zd,(Zp),simprocAttr,qP,Value.cells,cut,qC,cld2,(STx),e9,c4,rowEnt]
    have hfrO:∀ q n c,Value.slice oq m oc = .slice (some q) n c→q.block<(s3.put s2.next (.cells [.int .i64 (e.shape:Int),.int .i64 e.holder,.int .i64 e.slot,.int .i64 (e.to:Int),.slice none 0 0] 51 true)).next:=fun q n c e=>by have:=(o2 q n c e).2;simp only[St.next_put];omega
    refine wch_appEnt rfl (by simp[qC]) (by omega) (SlU.same o1 fun q n c e=>?_) hfrO fun s6 n6 b6 k6=>?_
    ·have:=(o2 q n c e).2
     rw[St.at_put,if_neg (by omega),l34.2 _ (by omega),l3.2 _ (by omega)]
    simp only[St.next_put]at n6 b6 k6
    have hk6:∀ b,b<s3.next→b≠s2.next→(∀ q n c,Value.slice oq m oc = .slice (some q) n c→b≠q.block)→s6.at' b=s3.at' b:=fun b hb hne hq=>by rw[k6 b hb hq,St.at_put,if_neg hne]
    simp -implicitDefEqProofs only[↓Zd,(Zp),simprocAttr,e25,e26,e27,w1]
    have hl6:s.le s6:=⟨by omega,fun c hc=>by rw[hk6 c (by omega) (by omega) (fun q n c' e=>by have:=(o2 q n c' e).1;omega),l34.2 c (by omega),l3.2 c (by omega)];exact hs2.2 c hc⟩
    refine⟨_,Nat.sub_lt_sub_left hlt (Nat.lt_succ_self m),m+1,_,rfl,rfl,by omega,rfl,hl6,?_⟩
    rw[htm]
    have hko:∀ q,q<(es.take m).length→DepsAt PY s6 (fun b=>s.next≤b∧b<s6.next) (odl q) ((es.take m).getD q e0).deps:=by
     intro q hq
     refine (o3 q hq).keep (fun b hb=>⟨hb.1,by omega⟩) fun b cs hb h5=>?_
     rw[hk6 b (by omega) (by omega) (fun q n c e=>?_),l34.2 b (by omega),l3.2 b (by omega)]
     rcases o1 with ⟨_,_,e3⟩|⟨ob,junk3,e3,h6,_⟩
     ·rw[e3]at e;cases e
     ·rw[e3]at e;cases e
      exact at_apart h5 h6 (by decide)
    have hmm:=ents_more (Y:=PY) (s5:=s6) (O5:=fun b=>s.next≤b∧b<s6.next) (es:=es.take m) (e:=e) (dlf:=odl) (dl := .slice none 0 0) (nb:=s3.next+1) hko (by rw[htl];exact b6) ⟨by omega,by omega⟩ (hDN _)
    rw[htl]at hmm
    exact hmm
   ·cases d5
    have hdbn:db<s.next:=hOn _ (d2 _ _ _ rfl)
    refine cloneDep1 (cs:=rows (fun j=>depC (e.deps.getD j (0,0))) e.deps.length) (junk:=junk2) (fun h0=>by have:=d3 (List.length_eq_zero_iff.1 h0);cases this) ?_ (rows_ok fun _ _=>rfl) ?_ (by omega) (rows_len (k:=2) (fun _=>rfl) _) fun s4 cb hcb hn4 l34 hc4=>?_
    ·have:=hfew.2 e (by rw[← hem,getD_at hlt];exact List.getElem_mem hlt)
     omega
    ·rw[l3.2 db (by omega),hs2.2 db hdbn];exact d6
    have c4:=(l34.2 s2.next (by omega)).trans c3
    have hDN:∀ s':St M,s4.next≤s'.next→s'.at' cb=s4.at' cb→DepsAt PY s' (fun b=>s.next≤b∧b<s'.next) (.slice (some ⟨cb,0,none⟩) e.deps.length UNK) e.deps:=fun s' hn' hat=>⟨.inr ⟨cb,[],rfl,by rw[hat,hc4,List.append_nil];rfl,rows_len (k:=2) (fun _=>rfl) _⟩,fun q n c e=>(by cases e;exact⟨by show s.next≤cb;omega,by show cb<s'.next;omega⟩),fun h0=>(by have:=d3 h0;cases this)⟩
    have n4:=l34.1
    simp -implicitDefEqProofs only[↓Zd,(Zp),simprocAttr,qP,Value.cells,cut,qC,cld2,(STx),e9,c4,rowEnt]
    have hfrO:∀ q n c,Value.slice oq m oc = .slice (some q) n c→q.block<(s4.put s2.next (.cells [.int .i64 (e.shape:Int),.int .i64 e.holder,.int .i64 e.slot,.int .i64 (e.to:Int),.slice (some ⟨cb,0,none⟩) e.deps.length UNK] 51 true)).next:=fun q n c e=>by have:=(o2 q n c e).2;simp only[St.next_put];omega
    refine wch_appEnt rfl (by simp[qC]) (by omega) (SlU.same o1 fun q n c e=>?_) hfrO fun s6 n6 b6 k6=>?_
    ·have:=(o2 q n c e).2
     rw[St.at_put,if_neg (by omega),l34.2 _ (by omega),l3.2 _ (by omega)]
    simp only[St.next_put]at n6 b6 k6
    have hk6:∀ b,b<s4.next→b≠s2.next→(∀ q n c,Value.slice oq m oc = .slice (some q) n c→b≠q.block)→s6.at' b=s4.at' b:=fun b hb hne hq=>by rw[k6 b hb hq,St.at_put,if_neg hne]
    simp -implicitDefEqProofs only[↓Zd,(Zp),simprocAttr,e25,e26,e27,w1]
    have hl6:s.le s6:=⟨by omega,fun c hc=>by rw[hk6 c (by omega) (by omega) (fun q n c' e=>by have:=(o2 q n c' e).1;omega),l34.2 c (by omega),l3.2 c (by omega)];exact hs2.2 c hc⟩
    refine⟨_,Nat.sub_lt_sub_left hlt (Nat.lt_succ_self m),m+1,_,rfl,rfl,by omega,rfl,hl6,?_⟩
    rw[htm]
    have hko:∀ q,q<(es.take m).length→DepsAt PY s6 (fun b=>s.next≤b∧b<s6.next) (odl q) ((es.take m).getD q e0).deps:=by
     intro q hq
     refine (o3 q hq).keep (fun b hb=>⟨hb.1,by omega⟩) fun b cs hb h5=>?_
     rw[hk6 b (by omega) (by omega) (fun q n c e=>?_),l34.2 b (by omega),l3.2 b (by omega)]
     rcases o1 with ⟨_,_,e3⟩|⟨ob,junk3,e3,h6,_⟩
     ·rw[e3]at e;cases e
     ·rw[e3]at e;cases e
      exact at_apart h5 h6 (by decide)
    have hmm:=ents_more (Y:=PY) (s5:=s6) (O5:=fun b=>s.next≤b∧b<s6.next) (es:=es.take m) (e:=e) (dlf:=odl) (dl := .slice (some ⟨cb,0,none⟩) e.deps.length UNK) (nb:=s4.next+1) hko (by rw[htl];exact b6) ⟨by omega,by omega⟩ (hDN _ (by omega) ((hk6 cb (by omega) (by omega) (fun q n c e=>by have:=(o2 q n c e).2;omega))))
    rw[htl]at hmm
    exact hmm
  ·have hlt':¬ (m:Int)<(es.length:Int):=by omega
   have hml:m=es.length:=by omega
   subst hml
   rw[List.take_length]at hE2
   have hmin:(if (2:Int)<(es.length:Int) then (2:Int) else (es.length:Int))=min (es.length:Int) 2:=by omega
   rw[hov]at e9
   simp -implicitDefEqProofs only[↓Zd,(Zp),simprocAttr,(STx),e9,e26,e27,hlt',↓o_min,bi_min,hmin]
   exact hR3 _ _ hs2 (by rw[← hov];exact hE2)
end
section
variable {lo t N:Nat}{T:Tab}{O:Nat→Prop}{al:Value}{rb cp:Nat→Nat}{sl:Nat→Nat→Value}
end
def stE(T:Tab)(f k:Int):List Ent:=if hasT T f k∧(siteAt T f k).mega=false then (siteAt T f k).es else []
def stN(T:Tab)(f k:Int):Int:=if hasT T f k then if (siteAt T f k).mega=true then 3 else min ((siteAt T f k).es.length:Int) 2 else 0
theorem TabOk.few0{H:Hp}{T:Tab}(h:TabOk H T)(hH:HOk H)(hF:FOk H.F){f k:Int}(hhas:hasT T f k):(siteAt T f k).es.length≤4∧∀ e∈(siteAt T f k).es,e.deps.length≤1000:=by
 have hz:=h.has hhas
 refine⟨hz.few,fun e he=>?_⟩
 cases hs:(siteAt T f k).sets with
 |false=>have:=((hz.gets hs e he).small hH hF).2.2.2.2.1;omega
 |true =>
  have:=(hz.sets hs e he).2.2.1
  rw[this];exact Nat.zero_le _
theorem TabOk.few{H:Hp}{T:Tab}(h:TabOk H T)(hH:HOk H)(hF:FOk H.F)(f k:Int):(stE T f k).length≤4∧∀ e∈stE T f k,e.deps.length≤1000:=by
 unfold stE
 split
 ·rename_i hc
  exact h.few0 hH hF hc.1
 ·exact⟨Nat.zero_le _,fun e he=>by cases he⟩
section
variable {lo t N:Nat}{T:Tab}{O:Nat→Prop}
theorem ents_nil(Y:STy)(s:St M)(O:Nat→Prop):EntsAt Y s O (.slice none 0 0) []:=⟨fun _ => .slice none 0 0,.inl ⟨rfl,rfl,rfl⟩,fun q n c e=>(by cases e),fun m hm=>absurd hm (Nat.not_lt_zero _),fun _=>rfl⟩
theorem tstate2_spec(h:STab PY lo s t T N O)(hfs:0<T.fs){f k:Int}{H:Hp}(hT:TabOk H T)(hH:HOk H)(hF:FOk H.F)
  (hR:∀ s' v,s.le s'→EntsAt PY s' (fun b=>s.next≤b∧b<s'.next) v (stE T f k)→R (.tuple #[.int .i64 (stN T f k),v]) s') :
  QC prog w0 13 #[.pointer (some ⟨t,0,none⟩),.int .i64 f,.int .i64 k] s R:=by
 obtain⟨al,rb,cp,sl,h⟩:=h
 cases hm:(siteAt T f k).mega with
 |true =>
  have he:stE T f k=[]:=by unfold stE;rw[if_neg (fun hc=>by rw[hm]at hc;cases hc.2)]
  rw[he]at hR
  unfold stN at hR
  refine tstate_spec h hfs (fun hhas=>hT.few0 hH hF hhas) (fun hno=>?_) (fun hhas _=>?_) (fun _ h0=>by rw[hm]at h0;cases h0)
  ·rw[if_neg hno]at hR
   exact hR s _ (lR _) (ents_nil _ _ _)
  ·rw[if_pos hhas,if_pos hm]at hR
   exact hR s _ (lR _) (ents_nil _ _ _)
 |false =>
  unfold stE stN at *
  refine tstate_spec h hfs (fun hhas=>hT.few0 hH hF hhas) (fun hno=>?_) (fun _ h0=>by rw[hm]at h0;cases h0) (fun hhas _ s' v h1 h2=>?_)
  ·rw[if_neg hno,if_neg (fun hc=>hno hc.1)]at hR
   exact hR s _ (lR _) (ents_nil _ _ _)
  ·rw[if_pos hhas,if_pos ⟨hhas,hm⟩,if_neg (fun hc=>by rw[hm]at hc;cases hc)]at hR
   exact hR s' v h1 h2
structure Ph(s s':St M)(P O P' O':Nat→Prop):Prop where
 next:s.next≤s'.next
 keep:∀ b,b<s.next→¬ P b→¬ O b→s'.at' b=s.at' b
 oP:∀ b,P' b→P b∨s.next≤b
 oO:∀ b,O' b→O b∨s.next≤b
 dis:∀ b,P' b→¬ O' b
theorem Ph.one{s':St M}{P O P':Nat→Prop}(h:Upd s s' P P')(hd:∀ b,P b→¬ O b)(hO:∀ b,O b→b<s.next):Ph s s' P O P' O:=
 ⟨h.next,fun b hb h1 _=>h.keep b hb h1,h.own,fun b hb => .inl hb,fun b hb hb2=>by
  rcases h.own b hb with h1|h1
  ·exact hd b h1 hb2
  ·have:=hO b hb2;omega⟩
theorem Ph.two{s':St M}{P O O':Nat→Prop}(h:Upd s s' O O')(hd:∀ b,P b→¬ O b)(hP:∀ b,P b→b<s.next):Ph s s' P O P O':=
 ⟨h.next,fun b hb _ h1=>h.keep b hb h1,fun b hb => .inl hb,h.own,fun b hb hb2=>by
  rcases h.own b hb2 with h1|h1
  ·exact hd b hb h1
  ·have:=hP b hb;omega⟩
structure Four(lo:Nat)(s:St M)(p r t u:Nat)(H:Hp)(T:Tab)(NN N:Nat)(P Q O U:Nat→Prop):Prop where
 hp:HpAt lo s p H NN P
 hr:RHpAt lo s r H NN Q
 ht:STab PY lo s t T N O
 hu:STab RY lo s u T N U
 PO:∀ b,P b→¬ O b
 QU:∀ b,Q b→¬ U b
 PQ:∀ b,P b→¬ Q b
 PU:∀ b,P b→¬ U b
 OQ:∀ b,O b→¬ Q b
 OU:∀ b,O b→¬ U b
 ok:TabOk H T
 fs:0<T.fs
variable {p r u NN:Nat}{H:Hp}{P Q U:Nat→Prop}
theorem Four.le{s':St M}(h:Four lo s p r t u H T NN N P Q O U)(hs:s.le s'):Four lo s' p r t u H T NN N P Q O U:=⟨h.hp.le hs,h.hr.le hs,h.ht.le hs,h.hu.le hs,h.PO,h.QU,h.PQ,h.PU,h.OQ,h.OU,h.ok,h.fs⟩
theorem Four.mono{NN' N':Nat}(h:Four lo s p r t u H T NN N P Q O U)(h1:NN≤NN')(h2:N≤N'):Four lo s p r t u H T NN' N' P Q O U:=⟨h.hp.mono h1,h.hr.mono h1,h.ht.mono h2,h.hu.mono h2,h.PO,h.QU,h.PQ,h.PU,h.OQ,h.OU,h.ok,h.fs⟩
theorem Four.mid{s':St M}{P' O':Nat→Prop}(h:Four lo s p r t u H T NN N P Q O U)(f:Ph s s' P O P' O'):RHpAt lo s' r H NN Q∧STab RY lo s' u T N U:=
 ⟨h.hr.same f.next fun c hc=>f.keep c (h.hr.own c hc).2 (fun hb=>h.PQ c hb hc) (fun hb=>h.OQ c hb hc),h.hu.same f.next fun c hc=>f.keep c (h.hu.own c hc).2 (fun hb=>h.PU c hb hc) (fun hb=>h.OU c hb hc)⟩
theorem Four.step{s1 s2:St M}{P1 O1 Q2 U2:Nat→Prop}{H':Hp}{T':Tab}{NN' N':Nat}(h:Four lo s p r t u H T NN N P Q O U)(f:Ph s s1 P O P1 O1)(g:Ph s1 s2 Q U Q2 U2)
  (h1:HpAt lo s1 p H' NN' P1)(h2:STab PY lo s1 t T' N' O1)(h3:RHpAt lo s2 r H' NN' Q2)(h4:STab RY lo s2 u T' N' U2)(hok:TabOk H' T')(hfs:T'.fs=T.fs):Four lo s2 p r t u H' T' NN' N' P1 Q2 O1 U2∧s.next≤s2.next∧∀ b,b<s.next→¬ P b→¬ O b→¬ Q b→¬ U b→s2.at' b=s.at' b:=by
 have a1:∀ b,P1 b→¬ Q b:=fun b hb hq=>by
  rcases f.oP b hb with h5|h5
  ·exact h.PQ b h5 hq
  ·have:=(h.hr.own b hq).2;omega
 have a2:∀ b,P1 b→¬ U b:=fun b hb hq=>by
  rcases f.oP b hb with h5|h5
  ·exact h.PU b h5 hq
  ·have:=(h.hu.own b hq).2;omega
 have a3:∀ b,O1 b→¬ Q b:=fun b hb hq=>by
  rcases f.oO b hb with h5|h5
  ·exact h.OQ b h5 hq
  ·have:=(h.hr.own b hq).2;omega
 have a4:∀ b,O1 b→¬ U b:=fun b hb hq=>by
  rcases f.oO b hb with h5|h5
  ·exact h.OU b h5 hq
  ·have:=(h.hu.own b hq).2;omega
 have n1:=f.next
 have n2:=g.next
 refine⟨⟨h1.same n2 fun c hc=>g.keep c (h1.own c hc).2 (a1 c hc) (a2 c hc),h3,h2.same n2 fun c hc=>g.keep c (h2.own c hc).2 (a3 c hc) (a4 c hc),h4,f.dis,g.dis,fun b hb hq=>?_,fun b hb hq=>?_,fun b hb hq=>?_,fun b hb hq=>?_,hok,by rw[hfs];exact h.fs⟩,by omega,fun b hb b1 b2 b3 b4=>by rw[g.keep b (by omega) b3 b4,f.keep b hb b1 b2]⟩
 ·rcases g.oP b hq with h5|h5
  ·exact a1 b hb h5
  ·have:=(h1.own b hb).2;omega
 ·rcases g.oO b hq with h5|h5
  ·exact a2 b hb h5
  ·have:=(h1.own b hb).2;omega
 ·rcases g.oP b hq with h5|h5
  ·exact a3 b hb h5
  ·have:=(h2.own b hb).2;omega
 ·rcases g.oO b hq with h5|h5
  ·exact a4 b hb h5
  ·have:=(h2.own b hb).2;omega
end
section
variable {r f u:Nat}
theorem rzShape{o:Int}(h:RZ s r f)(hR:R (.int .i64 0) s):QC prog w0 87 #[.pointer (some ⟨r,0,none⟩),.int .i64 o] s R:=by
 refine wfun2 hmix ok87 func87 rfl ntmps87 results87 (by simp) ?_
 simp -implicitDefEqProofs only[↓Zd,(Zp),simprocAttr,co94]
 refine rzHas h ?_
 simp -implicitDefEqProofs only[↓Zd,(Zp),simprocAttr,(HEx)]
 exact hR
def UZ(s:St M)(u:Nat):Prop:=s.at' u=some (.cells [.slice none 0 0,.int .i64 0,.int .i64 0] 106 true)
theorem uzNew(hR:∀ s',s.le s'→UZ s' s.next→s.next<s'.next→R (.pointer (some ⟨s.next,0,none⟩)) s'):QC prog w0 15 #[.slice none 0 0] s R:=by
 refine wfun2 hmix ok15 func15 rfl ntmps15 results15 (by simp) ?_
 have hbT:cbuild prog 106 #[]=some (.agg #[.slice none 0 0,.int .i64 0,.int .i64 0]):=by kernel_rfl
 simp -implicitDefEqProofs only[↓Zd,(Zp),simprocAttr,qP,Value.cells,(RTx),hbT]
 refine wloop_inv hmix (fun fuel env s1=>s1=s.new (.cells [.slice none 0 0,.int .i64 0,.int .i64 0] 106 true)∧env 0 = .slice none 0 0∧env 3 = .pointer (some ⟨s.next,0,none⟩)∧env 4 = .int .i64 0) 0 ⟨rfl,rfl,rfl,rfl⟩ ?_
 rintro fuel env s1 ⟨rfl,e0,e3,e4⟩
 simp -implicitDefEqProofs only[↓Zd,(Zp),simprocAttr,(REx),e0,e3,e4]
 refine hR _ (lN (lR _)) ?_ (by simp only[St.next_new];omega)
 unfold UZ
 rw[St.at_new,if_pos rfl]
theorem uzGet{a b o:Int}{x:ByteArray}(h:RZ s r f)(hu:UZ s u)(hun:u<s.next)(hR:∀ s',s.next≤s'.next→(∀ c,c<s.next→c≠u→s'.at' c=s.at' c)→R (.agg #[.int .i64 0,.int .i64 0,.string ⟨#[]⟩]) s'):QC prog w0 39 #[.pointer (some ⟨u,0,none⟩),.pointer (some ⟨r,0,none⟩),.int .i64 a,.int .i64 b,.int .i64 o,.string x] s R:=by
 refine wfun2 hmix ok39 func39 rfl ntmps39 results39 (by simp) ?_
 have l1:s.le (s.new (.cells [.int .i64 0,.int .i64 0,.string ⟨#[]⟩] 36 true)):=lN (lR _)
 have c1:(s.new (.cells [.int .i64 0,.int .i64 0,.string ⟨#[]⟩] 36 true)).at' s.next=some (.cells [.int .i64 0,.int .i64 0,.string ⟨#[]⟩] 36 true):=by rw[St.at_new,if_pos rfl]
 have n1:(s.new (.cells [.int .i64 0,.int .i64 0,.string ⟨#[]⟩] 36 true)).next=s.next+1:=rfl
 simp -implicitDefEqProofs only[↓Zd,(Zp),simprocAttr,Value.cells,(HEx),co86]
 generalize s.new (.cells [.int .i64 0,.int .i64 0,.string ⟨#[]⟩] 36 true)=s1 at l1 c1 n1 ⊢
 refine rzGet (h.le l1) fun s2 l2=>?_
 have n2:=l2.1
 have c2:=(l2.2 s.next (by omega)).trans c1
 have l3:s2.le ((s2.new (.cells [.int .i64 0,.int .i64 0,.string ⟨#[]⟩] 36 true)).put s2.next (.cells [.int .i64 0,.int .i64 0,.string ⟨#[]⟩] 36 true)):=(by repeat (first|exact lR _|assumption|refine lN ?_|refine lP ?_ (by first|omega|(simp only[(Sn)];omega))|refine lT ?_ (by assumption)))
 have n3:((s2.new (.cells [.int .i64 0,.int .i64 0,.string ⟨#[]⟩] 36 true)).put s2.next (.cells [.int .i64 0,.int .i64 0,.string ⟨#[]⟩] 36 true)).next=s2.next+1:=rfl
 have cv3:((s2.new (.cells [.int .i64 0,.int .i64 0,.string ⟨#[]⟩] 36 true)).put s2.next (.cells [.int .i64 0,.int .i64 0,.string ⟨#[]⟩] 36 true)).at' s2.next=some (.cells [.int .i64 0,.int .i64 0,.string ⟨#[]⟩] 36 true):=by rw[St.at_put,if_pos rfl]
 simp -implicitDefEqProofs only[↓Zd,(Zp),simprocAttr,qP,Value.cells,qC,(HEx),co87]
 generalize (s2.new (.cells [.int .i64 0,.int .i64 0,.string ⟨#[]⟩] 36 true)).put s2.next (.cells [.int .i64 0,.int .i64 0,.string ⟨#[]⟩] 36 true)=s3 at l3 n3 cv3 ⊢
 have l13:=lT l1 (lT l2 l3)
 have c3:=(l3.2 s.next (by omega)).trans c2
 have hb3:s3.at' u=some (.cells [.slice none 0 0,.int .i64 0,.int .i64 0] 106 true):=(l13.2 u hun).trans hu
 have hne1:¬ s.next=u:=by omega
 have hne2:¬ s2.next=u:=by omega
 have w1:IntKind.i64.wrap (0+1)=1:=by decide
 refine rzShape (h.le l13) ?_
 simp -implicitDefEqProofs only[↓Zd,(Zp),simprocAttr,qP,Value.cells,cut,qC,cld2,(HEx),(RTx),hb3,hne1,hne2,c3,cv3]
 refine hR _ (by simp only[St.next_put];omega) fun c hc hcu=>?_
 rw[St.at_put,if_neg (by omega),St.at_put,if_neg hcu]
 exact l13.2 c hc
theorem uzSet{a b o k n:Int}{x y:ByteArray}(h:RZ s r f)(hu:UZ s u)(hun:u<s.next)(hru:u≠r∧u≠f)(hR:∀ s',s.next≤s'.next→(∀ c,c<s.next→c≠u→s'.at' c=s.at' c)→R (.int .i64 4) s'):QC prog w0 40 #[.pointer (some ⟨u,0,none⟩),.pointer (some ⟨r,0,none⟩),.int .i64 a,.int .i64 b,.int .i64 o,.string x,.agg #[.int .i64 k,.int .i64 n,.string y]] s R:=by
 refine wfun2 hmix ok40 func40 rfl ntmps40 results40 (by simp) ?_
 have l1:s.le (s.new (.cells [.int .i64 k,.int .i64 n,.string y] 36 true)):=lN (lR _)
 have c1:(s.new (.cells [.int .i64 k,.int .i64 n,.string y] 36 true)).at' s.next=some (.cells [.int .i64 k,.int .i64 n,.string y] 36 true):=by rw[St.at_new,if_pos rfl]
 have n1:(s.new (.cells [.int .i64 k,.int .i64 n,.string y] 36 true)).next=s.next+1:=rfl
 simp -implicitDefEqProofs only[↓Zd,(Zp),simprocAttr,qP,Value.cells,(HEx),co87]
 generalize s.new (.cells [.int .i64 k,.int .i64 n,.string y] 36 true)=s1 at l1 c1 n1 ⊢
 have hb1:s1.at' u=some (.cells [.slice none 0 0,.int .i64 0,.int .i64 0] 106 true):=(l1.2 u hun).trans hu
 have hne1:¬ s.next=u:=by omega
 have w1:IntKind.i64.wrap (0+1)=1:=by decide
 have hz1:=h.le l1
 refine rzShape hz1 ?_
 simp -implicitDefEqProofs only[↓Zd,(Zp),simprocAttr,qP,Value.cells,cut,qC,cld2,(HEx),(RTx),hb1,c1,hne1,co41]
 refine rzSet (hz1.same (Nat.le_refl _) (by rw[St.at_put,if_neg (fun e=>hru.1 e.symm)]) (by rw[St.at_put,if_neg (fun e=>hru.2 e.symm)])) fun s2 hs2=>?_
 simp -implicitDefEqProofs only[↓Zd,(Zp),simprocAttr,(HEx)]
 have:=hs2.1
 simp only[St.next_put]at this
 refine hR _ (by omega) fun c hc hcu=>?_
 rw[hs2.2 c (by simp only[St.next_put];omega),St.at_put,if_neg hcu]
 exact l1.2 c hc
variable {lo p t NN N:Nat}{H:Hp}{T:Tab}{P O:Nat→Prop}
structure Tells(lo:Nat)(s:St M)(p t r f:Nat)(H:Hp)(T:Tab)(NN N:Nat)(P O:Nat→Prop):Prop where
 hp:HpAt lo s p H NN P
 ht:STab PY lo s t T N O
 PO:∀ b,P b→¬ O b
 ok:TabOk H T
 fs:0<T.fs
 rz:RZ s r f
 rO:(¬ P r∧¬ O r)∧¬ P f∧¬ O f
theorem Tells.le{s':St M}(h:Tells lo s p t r f H T NN N P O)(hs:s.le s'):Tells lo s' p t r f H T NN N P O:=⟨h.hp.le hs,h.ht.le hs,h.PO,h.ok,h.fs,h.rz.le hs,h.rO⟩
theorem Tells.mono{NN' N':Nat}(h:Tells lo s p t r f H T NN N P O)(h1:NN≤NN')(h2:N≤N'):Tells lo s p t r f H T NN' N' P O:=⟨h.hp.mono h1,h.ht.mono h2,h.PO,h.ok,h.fs,h.rz,h.rO⟩
theorem Tells.keep{s':St M}(h:Tells lo s p t r f H T NN N P O)(hn:s.next≤s'.next)(hk:∀ c,P c∨O c∨c=r∨c=f→s'.at' c=s.at' c):Tells lo s' p t r f H T NN N P O:=
 ⟨h.hp.same hn fun c hc=>hk c (.inl hc),h.ht.same hn fun c hc=>hk c (.inr (.inl hc)),h.PO,h.ok,h.fs,h.rz.same hn (hk _ (.inr (.inr (.inl rfl)))) (hk _ (.inr (.inr (.inr rfl)))),h.rO⟩
theorem Tells.step{s':St M}{H':Hp}{T':Tab}{NN' N':Nat}{P' O':Nat→Prop}(h:Tells lo s p t r f H T NN N P O)(hf:Ph s s' P O P' O')(h1:HpAt lo s' p H' NN' P')(h2:STab PY lo s' t T' N' O')(h3:TabOk H' T')(h4:T'.fs=T.fs):Tells lo s' p t r f H' T' NN' N' P' O':=by
 obtain⟨⟨a1,a2⟩,a3,a4⟩:=h.rO
 have hr:=h.rz.rn
 have hff:=h.rz.fn
 exact⟨h1,h2,hf.dis,h3,by rw[h4];exact h.fs,h.rz.same hf.next (hf.keep _ hr a1 a2) (hf.keep _ hff a3 a4),
  ⟨fun hc=>by rcases hf.oP _ hc with h5|h5;exact a1 h5;omega,fun hc=>by rcases hf.oO _ hc with h5|h5;exact a2 h5;omega⟩,fun hc=>by rcases hf.oP _ hc with h5|h5;exact a3 h5;omega,fun hc=>by rcases hf.oO _ hc with h5|h5;exact a4 h5;omega⟩
def actC(H:Hp)(T:Tab)(x:A17D)(a b:Nat):Prop:=(hasT T x.a1 x.a2∧shapeV H x.a3≠0∧(x.a0=1∨x.a0=2))∧a=x.a1.toNat∧b=x.a2.toNat
theorem MarkT.iff{T T':Tab}{c d:Nat→Nat→Prop}{w v:Bool}{x:ByteArray}(h:MarkT T T' c w x)(hc:∀ a b,d a b↔c a b)(hw:w=v):MarkT T T' d v x:=by
 subst hw
 have:d=c:=funext fun a=>funext fun b=>propext (hc a b)
 rw[this];exact h
theorem act_same{T T':Tab}{H:Hp}{x:A17D}{w:Bool}(h1:¬ (x.a0=1∨x.a0=2))(h2:T'.fs=T.fs)(h3:T'.n=T.n)(h4:T'.st=T.st):MarkT T T' (actC H T x) w x.a5:=same_mark h2 h3 h4 fun a b hc _ _=>h1 hc.1.2.2
theorem sdone0_spec(h:Tells lo s p t r f H T NN N P O)(hlo:lo≤s.next)(hu:UZ s u)(hun:u<s.next)(hur:u≠r∧u≠f)(huP:¬ P u∧¬ O u){x:A17D}(hx:Act17Ok x)(hd:x.a0≠6∧x.a0≠7)(hNN:NN+3≤1000000)(h32:32≤NN)(hN:N+1≤1000000)
  (hR:∀ s' H' T' P' O' b,Tells lo s' p t r f H' T' (NN+3) (N+1) P' O'→MarkT T T' (actC H T x) (decide (x.a0=2)) x.a5→s.next≤s'.next→(∀ c,c<s.next→¬ P c→¬ O c→c≠u→s'.at' c=s.at' c)→(∀ c,P' c→P c∨s.next≤c)→(∀ c,O' c→O c∨s.next≤c)→R (.bool b) s') :
  QC prog w0 14 #[.pointer (some ⟨t,0,none⟩),.pointer (some ⟨p,0,none⟩),.pointer (some ⟨u,0,none⟩),.pointer (some ⟨r,0,none⟩),.agg #[.int .i64 x.a0,.int .i64 x.a1,.int .i64 x.a2,.int .i64 x.a3,.int .i64 x.a4,.string x.a5,.int .i64 x.a6.1,.int .i64 x.a6.2.1,.string x.a6.2.2]] s R:=by
 obtain⟨x0,x1,x2,x3,x4,x5,v1,v2,v3⟩:=x
 obtain⟨q0,q1,q2,q3,q4,q5,q6⟩:=hx
 simp only[I64]at q0 q1 q2 q3 q4 q5 q6
 obtain⟨d6,d7⟩:=hd
 have d6:¬ x0=6:=d6
 have d7:¬ x0=7:=d7
 refine wfun2 hmix ok14 func14 rfl ntmps14 results14 (by simp) ?_
 have l1:s.le (s.new (.cells [.int .i64 x0,.int .i64 x1,.int .i64 x2,.int .i64 x3,.int .i64 x4,.string x5,.int .i64 v1,.int .i64 v2,.string v3] 38 true)):=lN (lR _)
 have c9:(s.new (.cells [.int .i64 x0,.int .i64 x1,.int .i64 x2,.int .i64 x3,.int .i64 x4,.string x5,.int .i64 v1,.int .i64 v2,.string v3] 38 true)).at' s.next=some (.cells [.int .i64 x0,.int .i64 x1,.int .i64 x2,.int .i64 x3,.int .i64 x4,.string x5,.int .i64 v1,.int .i64 v2,.string v3] 38 true):=by rw[St.at_new,if_pos rfl]
 have h1:=h.le l1
 have hn1:(s.new (.cells [.int .i64 x0,.int .i64 x1,.int .i64 x2,.int .i64 x3,.int .i64 x4,.string x5,.int .i64 v1,.int .i64 v2,.string v3] 38 true)).next=s.next+1:=rfl
 generalize hs1:s.new (.cells [.int .i64 x0,.int .i64 x1,.int .i64 x2,.int .i64 x3,.int .i64 x4,.string x5,.int .i64 v1,.int .i64 v2,.string v3] 38 true)=s1 at l1 c9 h1 hn1
 have hlo1:lo≤s1.next:=by omega
 have hPn:∀ b,P b→b<s.next:=fun b hb=>(h.hp.own b hb).2
 have hOn:∀ b,O b→b<s.next:=fun b hb=>(h.ht.own b hb).2
 have hPm:∀ b,P b→b<s1.next:=fun b hb=>by have:=hPn b hb;omega
 have hOm:∀ b,O b→b<s1.next:=fun b hb=>by have:=hOn b hb;omega
 have keep:∀ {s2:St M}{P1 O1:Nat→Prop},Ph s1 s2 P O P1 O1→s2.at' s.next=some (.cells [.int .i64 x0,.int .i64 x1,.int .i64 x2,.int .i64 x3,.int .i64 x4,.string x5,.int .i64 v1,.int .i64 v2,.string v3] 38 true):=fun hf=>(hf.keep _ (by omega) (fun hc=>by have:=hPn _ hc;omega) (fun hc=>by have:=hOn _ hc;omega)).trans c9
 have mid:∀ {s2:St M}{P1 O1:Nat→Prop}{H':Hp}{T':Tab}{NN' N':Nat},Ph s1 s2 P O P1 O1→HpAt lo s2 p H' NN' P1→STab PY lo s2 t T' N' O1→TabOk H' T'→T'.fs=T.fs→Tells lo s2 p t r f H' T' NN' N' P1 O1∧UZ s2 u∧u<s2.next∧¬ P1 u∧¬ O1 u∧(∀ c,c<s.next→¬ P c→¬ O c→s2.at' c=s.at' c)∧(∀ c,P1 c→P c∨s.next≤c)∧(∀ c,O1 c→O c∨s.next≤c):=fun f a1 a2 a3 a4=>by
  have hn:=f.next
  exact⟨h1.step f a1 a2 a3 a4,(f.keep u (by omega) huP.1 huP.2).trans ((l1.2 u hun).trans hu),by omega,fun hc=>by rcases f.oP _ hc with h5|h5;exact huP.1 h5;omega,fun hc=>by rcases f.oO _ hc with h5|h5;exact huP.2 h5;omega,fun c hc c1 c2=>(f.keep c (by omega) c1 c2).trans (l1.2 c hc),fun c hc=>by rcases f.oP c hc with h5|h5;exact .inl h5;exact .inr (by omega),fun c hc=>by rcases f.oO c hc with h5|h5;exact .inl h5;exact .inr (by omega)⟩
 have hend:∀ {s2 s3:St M}{P1 O1:Nat→Prop}{H':Hp}{T':Tab}{NN' N':Nat}(b:Bool),Tells lo s2 p t r f H' T' NN' N' P1 O1∧UZ s2 u∧u<s2.next∧¬ P1 u∧¬ O1 u∧(∀ c,c<s.next→¬ P c→¬ O c→s2.at' c=s.at' c)∧(∀ c,P1 c→P c∨s.next≤c)∧(∀ c,O1 c→O c∨s.next≤c)→s1.next≤s2.next→s2.next≤s3.next→(∀ c,c<s2.next→c≠u→s3.at' c=s2.at' c)→NN'≤NN+3→N'≤N+1→MarkT T T' (actC H T ⟨x0,x1,x2,x3,x4,x5,v1,v2,v3⟩) (decide (x0=2)) x5→R (.bool b) s3:=fun b hm n1 n2 hk a5 a6 hmk=>by
  obtain⟨g1,_,_,g4,g5,g6,g7,g8⟩:=hm
  refine hR _ _ _ _ _ b ((g1.mono a5 a6).keep n2 fun c hc=>?_) hmk (by omega) (fun c hc c1 c2 cu=>(hk c (by omega) cu).trans (g6 c hc c1 c2)) g7 g8
  have:=g1.rz.rn
  have:=g1.rz.fn
  rcases hc with hc|hc|rfl|rfl
  ·exact hk c (g1.hp.own c hc).2 fun e=>g4 (e▸hc)
  ·exact hk c (g1.ht.own c hc).2 fun e=>g5 (e▸hc)
  ·exact hk _ (by omega) hur.1.symm
  ·exact hk _ (by omega) hur.2.symm
 have hok0:=h.hp.ok
 have hpro0:=h.hp.1
 by_cases d1:x0=1
 ·subst d1
  obtain⟨ee,hr⟩:=look_total hok0 x5 x3
  simp -implicitDefEqProofs only[↓Zd,(Zp),simprocAttr,qP,Value.cells,cld2,(HEx),(HEx),(A7x),hs1,c9,ord14,co18]
  refine tget_spec h1.hp h1.ht h1.fs h1.PO h1.ok hlo1 hN q3 hr fun s2 O1 v hP1 hU1 hv=>?_
  have f1:=Ph.two hU1 h1.PO hPm
  have c92:=keep f1
  have hm:=mid f1 (h1.hp.other hU1 (fun b a c=>h1.PO b c a)).1 hP1 (get_ok hok0 hpro0 h1.ok hr) (getT_n _ _ _ _ _ _ _).1
  obtain⟨w1,w2,w3⟩:=v
  simp only[vOf,vA]
  simp -implicitDefEqProofs only[↓Zd,(Zp),simprocAttr,cld2,(HEx),(HEx),c92,co39]
  refine uzGet hm.1.rz hm.2.1 hm.2.2.1 fun s3 n3 k3=>?_
  have fin:=fun b=>hend b hm f1.next n3 k3 (by omega) (by omega) ((getT_mark H T x1 x2 x3 x5 ee).iff (fun a b=>by unfold actC;simp) (by decide))
  simp -implicitDefEqProofs only[↓Zd,(Zp),simprocAttr,(HEx),(HEx),Vsame]
  exact fin _
 by_cases d2:x0=2
 ·subst d2
  simp -implicitDefEqProofs only[↓Zd,(Zp),simprocAttr,qP,Value.cells,cut,cld2,(HEx),(HEx),(A7x),hs1,c9,ord14,co20]
  refine tset_spec (vk:=v1) (vn:=v2) (vy:=v3) h1.hp h1.ht h1.fs h1.PO h1.ok hlo1 hN hNN h32 q3 fun s2 P1 O1 hP1 hT1 g1 g2 g3 g4 g5=>?_
  have f1:Ph s1 s2 P O P1 O1:=⟨g2,g3,g4,g5,g1⟩
  have c92:=keep f1
  have hm:=mid f1 hP1 hT1 (set_tab hok0 hpro0 h1.ok _ _ _ _ _) (setT_n _ _ _ _ _ _ _).1
  simp -implicitDefEqProofs only[↓Zd,(Zp),simprocAttr,cut,cld2,(HEx),(HEx),c92,co40]
  refine uzSet hm.1.rz hm.2.1 hm.2.2.1 hur fun s3 n3 k3=>?_
  have fin:=fun b=>hend b hm f1.next n3 k3 (by omega) (by omega) ((setT_mark H T x1 x2 x3 x5 (v1,v2,v3)).iff (fun a b=>by unfold actC;simp) (by decide))
  simp -implicitDefEqProofs only[↓Zd,(Zp),simprocAttr,(HEx),(HEx)]
  exact fin _
 have hmk:∀ {T':Tab},T'.fs=T.fs→T'.n=T.n→T'.st=T.st→MarkT T T' (actC H T ⟨x0,x1,x2,x3,x4,x5,v1,v2,v3⟩) (decide (x0=2)) x5:=fun a b c=>act_same (x:=⟨x0,x1,x2,x3,x4,x5,v1,v2,v3⟩) (fun hc=>hc.elim d1 d2) a b c
 by_cases d0:x0=0
 ·subst d0
  simp -implicitDefEqProofs only[↓Zd,(Zp),simprocAttr,qP,Value.cells,cld2,(HEx),(HEx),(A7x),hs1,c9,co17]
  refine hmake_spec h1.hp hlo1 fun s2 P1 hP1 hU1=>?_
  have f1:Ph s1 s2 P O P1 O := .one hU1 h1.PO hOm
  have c92:=keep f1
  have hm:=mid f1 hP1 (h1.ht.other hU1 h1.PO).1 (h1.ok.grows hok0 hP1.ok (make_grows H)) rfl
  have hmv:∃ a b,makeV H = .tuple #[.int .i64 a,.int .i64 b]:=by unfold makeV;split<;>exact⟨_,_,rfl⟩
  obtain⟨ma,mb,hmv⟩:=hmv
  rw[hmv]
  simp -implicitDefEqProofs only[↓Zd,(Zp),simprocAttr,(HEx),(HEx),co38]
  refine rzMake hm.1.rz ?_
  have fin:=fun b=>hend b hm f1.next (Nat.le_refl _) (fun _ _ _=>rfl) (by omega) (by omega) (hmk rfl rfl rfl)
  by_cases e1:ma=0<;>by_cases e2:mb=40
  all_goals simp -implicitDefEqProofs only[↓Zd,(Zp),simprocAttr,(REx),e1,e2]
  all_goals exact fin _
 by_cases d3:x0=3
 ·subst d3
  simp -implicitDefEqProofs only[↓Zd,(Zp),simprocAttr,qP,Value.cells,cut,cld2,(HEx),(HEx),(A7x),hs1,c9,ord14,co21]
  refine hset_spec (k:=v1) (n:=v2) (y:=v3) h1.hp hlo1 hNN h32 q3 fun s2 P1 hP1 hU1=>?_
  have f1:Ph s1 s2 P O P1 O := .one hU1 h1.PO hOm
  have c92:=keep f1
  have hm:=mid f1 hP1 (h1.ht.other hU1 h1.PO).1 (h1.ok.grows hok0 hP1.ok (set_grows _ _ _ _)) rfl
  simp -implicitDefEqProofs only[↓Zd,(Zp),simprocAttr,cut,cld2,(HEx),(HEx),c92,co41]
  refine rzSet hm.1.rz fun s3 hs3=>?_
  have fin:=fun b=>hend b hm f1.next hs3.1 (fun c hc _=>hs3.2 c hc) (by omega) (by omega) (hmk rfl rfl rfl)
  simp -implicitDefEqProofs only[↓Zd,(Zp),simprocAttr,(HEx),(HEx)]
  exact fin _
 by_cases d4:x0=4
 ·subst d4
  simp -implicitDefEqProofs only[↓Zd,(Zp),simprocAttr,qP,Value.cells,cld2,(HEx),(HEx),(A7x),hs1,c9,ord14,co22]
  refine hdel_spec h1.hp hlo1 hNN h32 q3 fun s2 P1 hP1 hU1=>?_
  have f1:Ph s1 s2 P O P1 O := .one hU1 h1.PO hOm
  have c92:=keep f1
  have hm:=mid f1 hP1 (h1.ht.other hU1 h1.PO).1 (h1.ok.grows hok0 hP1.ok (del_grows _ _ _)) rfl
  simp -implicitDefEqProofs only[↓Zd,(Zp),simprocAttr,cld2,(HEx),(HEx),c92,co42]
  refine rzDelete hm.1.rz fun s3 hs3=>?_
  have fin:=fun b=>hend b hm f1.next hs3.1 (fun c hc _=>hs3.2 c hc) (by omega) (by omega) (hmk rfl rfl rfl)
  simp -implicitDefEqProofs only[↓Zd,(Zp),simprocAttr,(HEx),(HEx)]
  exact fin _
 by_cases d5:x0=5
 ·subst d5
  simp -implicitDefEqProofs only[↓Zd,(Zp),simprocAttr,qP,Value.cells,cld2,(HEx),(HEx),(A7x),hs1,c9,ord14,co23]
  refine hsetproto_spec h1.hp hlo1 hNN h32 q3 q4 fun s2 P1 hP1 hU1=>?_
  have f1:Ph s1 s2 P O P1 O := .one hU1 h1.PO hOm
  have c92:=keep f1
  have hm:=mid f1 hP1 (h1.ht.other hU1 h1.PO).1 (h1.ok.grows hok0 hP1.ok (proto_grows _ _ _)) rfl
  simp -implicitDefEqProofs only[↓Zd,(Zp),simprocAttr,cld2,(HEx),(HEx),c92,co43]
  refine rzProto hm.1.rz ?_
  have fin:=fun b=>hend b hm f1.next (Nat.le_refl _) (fun _ _ _=>rfl) (by omega) (by omega) (hmk rfl rfl rfl)
  simp -implicitDefEqProofs only[↓Zd,(Zp),simprocAttr,(HEx),(HEx)]
  exact fin _
 simp -implicitDefEqProofs only[↓Zd,(Zp),simprocAttr,qP,Value.cells,cld2,(HEx),(HEx),(A7x),hs1,c9,d0,d1,d2,d3,d4,d5,d6,d7]
 exact hR _ _ _ _ _ _ (h1.mono (by omega) (by omega)) (hmk rfl rfl rfl) (by omega) (fun c hc _ _ _=>l1.2 c hc) (fun _ h => .inl h) (fun _ h => .inl h)
end
theorem gotV_eq(o:Option V3):gotV o = .tuple #[vOf (o.getD z3),.bool o.isSome]:=by cases o<;>rfl
section
variable {lo p N:Nat}{H:Hp}{P D:Nat→Prop}
theorem stells_spec{e:Ent}{x:ByteArray}{dl:Value}(hP:HpAt lo s p H N P)(hd:DepsAt PY s D dl e.deps)(hD:∀ b,D b→b<s.next)(hok:GetOk H x e)(hR:∀ s',s.le s'→R (.bool true) s') :
  QC prog w0 16 #[.pointer (some ⟨p,0,none⟩),.agg #[.int .i64 (e.shape:Int),.int .i64 e.holder,.int .i64 e.slot,.int .i64 (e.to:Int),dl],.string x] s R:=by
 obtain⟨q1,q2,q3,q4,q5,q6⟩:=hok.small hP.ok hP.fok
 obtain⟨a1,z1,rfl⟩:∃ a c,dl=Value.slice a e.deps.length c:=by
  rcases hd.1 with ⟨e1,_,e2⟩|⟨b,_,e2,_⟩
  ·exact⟨none,0,by rw[e2,e1]⟩
  ·exact⟨_,_,e2⟩
 refine wfun2 hmix ok16 func16 rfl ntmps16 results16 (by simp) ?_
 have l1:s.le (s.new (.cells [.int .i64 (e.shape:Int),.int .i64 e.holder,.int .i64 e.slot,.int .i64 (e.to:Int),.slice a1 e.deps.length z1] 51 true)):=lN (lR _)
 have c4:(s.new (.cells [.int .i64 (e.shape:Int),.int .i64 e.holder,.int .i64 e.slot,.int .i64 (e.to:Int),.slice a1 e.deps.length z1] 51 true)).at' s.next=some (.cells [.int .i64 (e.shape:Int),.int .i64 e.holder,.int .i64 e.slot,.int .i64 (e.to:Int),.slice a1 e.deps.length z1] 51 true):=by rw[St.at_new,if_pos rfl]
 have n1:(s.new (.cells [.int .i64 (e.shape:Int),.int .i64 e.holder,.int .i64 e.slot,.int .i64 (e.to:Int),.slice a1 e.deps.length z1] 51 true)).next=s.next+1:=rfl
 have h1:=hP.le l1
 simp -implicitDefEqProofs only[↓Zd,(Zp),simprocAttr,qP,Value.cells,(STx)]
 generalize s.new (.cells [.int .i64 (e.shape:Int),.int .i64 e.holder,.int .i64 e.slot,.int .i64 (e.to:Int),.slice a1 e.deps.length z1] 51 true)=s1 at l1 c4 n1 h1 ⊢
 obtain⟨hpro,tg,pf,pn,sl,bs,hi⟩:=id h1
 have hlim:=hi.ok.lim
 refine wloop_inv hmix (fun fuel env s'=>s'=s1∧env 0 = .pointer (some ⟨p,0,none⟩)∧env 2 = .string x∧env 4 = .pointer (some ⟨s.next,0,none⟩)∧∃ d:Nat,env 7 = .int .i64 (d:Int)∧d≤e.deps.length∧fuel=e.deps.length - d∧∀ j,j<d→epochV H (e.deps.getD j (0,0)).1=(e.deps.getD j (0,0)).2) (e.deps.length - 0) ⟨rfl,rfl,rfl,rfl,0,rfl,by omega,rfl,fun j hj=>absurd hj (Nat.not_lt_zero _)⟩ ?_
 rintro fuel env s8 ⟨rfl,e0,e2,e4,d,e7,hd1,rfl,hall⟩
 by_cases hdl:d<e.deps.length
 case pos =>
  have hd':(d:Int)<(e.deps.length:Int):=by omega
  have hdd:(0:Int)≤(d:Int)∧(d:Int)<(e.deps.length:Int):=by omega
  have wd:IntKind.i64.wrap ((d:Int)+1)=((d+1:Nat):Int):=by rw[wrap_i64 (by omega)];omega
  rcases id hd.1 with ⟨h0,_,_⟩|⟨b3,j3,hv,g3b,_⟩
  ·omega
  cases hv
  have hb3n:b3<s.next:=hD _ (hd.2.1 _ _ _ rfl)
  have g3c:s8.at' b3=some (.cells (rows (fun j=>depC (e.deps.getD j (0,0))) e.deps.length++j3) 99 true):=(l1.2 _ hb3n).trans g3b
  have p3:∀ j,(rows (fun j=>depC (e.deps.getD j (0,0))) e.deps.length++j)[d*2]?=some (.int .i64 ((e.deps.getD d (0,0)).1:Int)):=fun j=>rows_get (c:=fun j=>depC (e.deps.getD j (0,0))) (k:=2) (fun _=>rfl) j hdl (j:=0) (by omega)
  have p4:∀ j,(rows (fun j=>depC (e.deps.getD j (0,0))) e.deps.length++j)[d*2+1]?=some (.int .i64 ((e.deps.getD d (0,0)).2:Int)):=fun j=>rows_get (c:=fun j=>depC (e.deps.getD j (0,0))) (k:=2) (fun _=>rfl) j hdl (j:=1) (by omega)
  have hdm:=q6 (e.deps.getD d (0,0)) (by rw[getD_at hdl];exact List.getElem_mem hdl)
  simp -implicitDefEqProofs only[↓Zd,(Zp),simprocAttr,cld2,(HEx),(STx),e0,e4,e7,c4,hd',hdd,g3c,p3,p4,Nat.add_zero,ord16,co45]
  refine hepoch_spec hi (by omega) ?_
  by_cases he:epochV H ((e.deps.getD d (0,0)).1:Int)=((e.deps.getD d (0,0)).2:Int)
  ·simp -implicitDefEqProofs only[↓Zd,(Zp),simprocAttr,cld2,(HEx),(STx),e0,e2,e4,e7,c4,g3c,p4,he,wd]
   exact⟨_,Nat.sub_lt_sub_left hdl (Nat.lt_succ_self d),d+1,rfl,by omega,rfl,fun j hj=>by
    by_cases hj':j=d
    ·subst hj';exact he
    ·exact hall j (by omega)⟩
  ·simp -implicitDefEqProofs only[↓Zd,(Zp),simprocAttr,cld2,(HEx),(STx),c4,g3c,p4,he]
   exact hR _ l1
 have hd':¬ (d:Int)<(e.deps.length:Int):=by omega
 have hh:holdsE H e=true:=by
  unfold holdsE
  refine List.all_eq_true.2 fun y hy=>decide_eq_true ?_
  obtain⟨j,hj,rfl⟩:=List.getElem_of_mem hy
  have:=hall j (by omega)
  rw[getD_at hj]at this
  exact this
 clear hall
 simp -implicitDefEqProofs only[↓Zd,(Zp),simprocAttr,cld2,(STx),e4,e7,c4,hd']
 refine wloop_inv hmix (fun fuel env s'=>env 0 = .pointer (some ⟨p,0,none⟩)∧env 2 = .string x∧env 4 = .pointer (some ⟨s.next,0,none⟩)∧s8.le s'∧∃ m:Nat,env 8 = .int .i64 ((m+1:Nat):Int)∧m≤H.obs.length∧fuel=H.obs.length - m) (H.obs.length - 0) ⟨by simp only[upd_apply];simpa using e0,by simp only[upd_apply];simpa using e2,by simp only[upd_apply];simpa using e4,lR _,0,rfl,by omega,rfl⟩ ?_
 rintro fuel env3 s3 ⟨e0,e2,e4,l3,m,e8,hm1,rfl⟩
 have n3:=l3.1
 have hi3:=hi.le l3
 have c43:=(l3.2 s.next (by omega)).trans c4
 by_cases hm:m<H.obs.length
 case neg =>
  have hm':¬ ((m+1:Nat):Int)≤(H.obs.length:Int):=by omega
  simp -implicitDefEqProofs only[↓Zd,(Zp),simprocAttr,e0,e8,co46]
  refine hlen_spec hi3 ?_
  simp -implicitDefEqProofs only[↓Zd,(Zp),simprocAttr,(HEx),hm']
  exact hR _ (lT l1 l3)
 have hm':((m+1:Nat):Int)≤(H.obs.length:Int):=by omega
 have wm:IntKind.i64.wrap (((m+1:Nat):Int)+1)=((m+1+1:Nat):Int):=by rw[wrap_i64 (by omega)];omega
 have hend:∀ {s':St M},s8.le s'→∃ f',f' < H.obs.length - m∧s8.le s'∧∃ m':Nat,Value.int .i64 ((m+1+1:Nat):Int) = .int .i64 ((m'+1:Nat):Int)∧m'≤H.obs.length∧f'=H.obs.length - m':=fun hs=>⟨_,Nat.sub_lt_sub_left hm (Nat.lt_succ_self m),hs,m+1,rfl,by omega,rfl⟩
 simp -implicitDefEqProofs only[↓Zd,(Zp),simprocAttr,e0,e8,co46]
 refine hlen_spec hi3 ?_
 simp -implicitDefEqProofs only[↓Zd,(Zp),simprocAttr,cld2,(HEx),(STx),e0,e4,e8,hm',c43,ord16,co12]
 refine hshape_spec hi3 (by omega) ?_
 by_cases hs:shapeV H ((m+1:Nat):Int)=(e.shape:Int)
 case neg =>
  simp -implicitDefEqProofs only[↓Zd,(Zp),simprocAttr,cld2,(HEx),e0,e2,e4,e8,c43,hs,wm]
  exact hend l3
 have hg:=hok.get hi.ok hpro hs hh
 have l4:s3.le ((s3.new (.cells [.int .i64 0,.int .i64 0,.string ⟨#[]⟩] 36 true)).put s3.next (.cells [.int .i64 0,.int .i64 0,.string ⟨#[]⟩] 36 true)):=(by repeat (first|exact lR _|assumption|refine lN ?_|refine lP ?_ (by first|omega|(simp only[(Sn)];omega))|refine lT ?_ (by assumption)))
 have n4:((s3.new (.cells [.int .i64 0,.int .i64 0,.string ⟨#[]⟩] 36 true)).put s3.next (.cells [.int .i64 0,.int .i64 0,.string ⟨#[]⟩] 36 true)).next=s3.next+1:=rfl
 have c9:((s3.new (.cells [.int .i64 0,.int .i64 0,.string ⟨#[]⟩] 36 true)).put s3.next (.cells [.int .i64 0,.int .i64 0,.string ⟨#[]⟩] 36 true)).at' s3.next=some (.cells [.int .i64 0,.int .i64 0,.string ⟨#[]⟩] 36 true):=by rw[St.at_put,if_pos rfl]
 have hn9:¬ s.next=s3.next:=by omega
 rcases Int.lt_trichotomy e.holder 0 with h0|h0|h0
 ·have z1:¬ e.holder=0:=by omega
  have z2:¬ 0<e.holder:=by omega
  have hv:valE H e ((m+1:Nat):Int)=z3:=by unfold valE;rw[if_neg z2,if_pos h0]
  rw[hv]at hg
  simp -implicitDefEqProofs only[↓Zd,(Zp),simprocAttr,qP,Value.cells,cut,qC,cld2,(HEx),(STx),e0,e2,e4,e8,hs,c43,hn9,z1,z2,co19]
  refine hget_spec (hi3.le l4) (by omega) fun s6 v l6 hv2=>?_
  rw[hv2.one hg]
  have c96:=(l6.2 s3.next (by omega)).trans c9
  simp only[vOf,vA,z3]
  simp -implicitDefEqProofs only[↓Zd,(Zp),simprocAttr,cut,cld2,(HEx),e0,e2,e4,e8,c96,wm,VneSelf]
  exact hend (lT l3 (lT l4 l6))
 ·have z2:¬ 0<e.holder:=by omega
  have hv:valE H e ((m+1:Nat):Int)=(slotG H ((m+1:Nat):Int) e.slot).getD z3:=by unfold valE;rw[if_neg z2,if_neg (by omega)]
  rw[hv]at hg
  simp -implicitDefEqProofs only[↓Zd,(Zp),simprocAttr,qP,Value.cells,qC,cld2,(HEx),(STx),e0,e4,e8,hs,c43,hn9,h0,co47]
  refine hslot_spec (hi3.le l4) (by omega) (by omega) fun s6 l6=>?_
  rw[gotV_eq]
  revert hg
  obtain⟨y1,y2,y3⟩:=Option.getD _ z3
  intro hg
  have l36:=lT l4 l6
  have c46:=(l36.2 s.next (by omega)).trans c43
  have c96:=(l6.2 s3.next (by omega)).trans c9
  have n6:=l6.1
  rw[n4]at n6
  have l7:s3.le (s6.put s3.next (.cells [.int .i64 y1,.int .i64 y2,.string y3] 36 true)):=lP l36 (Nat.le_refl _)
  have c97:(s6.put s3.next (.cells [.int .i64 y1,.int .i64 y2,.string y3] 36 true)).at' s3.next=some (.cells [.int .i64 y1,.int .i64 y2,.string y3] 36 true):=by rw[St.at_put,if_pos rfl]
  simp only[vOf,vA]
  simp -implicitDefEqProofs only[↓Zd,(Zp),simprocAttr,qP,Value.cells,cut,qC,cld2,(HEx),(STx),e0,e2,e4,e8,c46,hn9,c96,z2,co19]
  refine hget_spec (hi3.le l7) (by omega) fun s8 v l8 hv2=>?_
  rw[hv2.one hg]
  have c98:=(l8.2 s3.next (by simp only[St.next_put];omega)).trans c97
  simp only[vOf,vA]
  simp -implicitDefEqProofs only[↓Zd,(Zp),simprocAttr,cut,cld2,(HEx),e0,e2,e4,e8,c98,wm,VneSelf]
  exact hend (lT l3 (lT l7 l8))
 ·have z1:¬ e.holder=0:=by omega
  have hv:valE H e ((m+1:Nat):Int)=(slotG H e.holder e.slot).getD z3:=by unfold valE;rw[if_pos h0]
  rw[hv]at hg
  simp -implicitDefEqProofs only[↓Zd,(Zp),simprocAttr,qP,Value.cells,qC,cld2,(HEx),(STx),e0,e4,hs,c43,hn9,z1,h0,co47]
  refine hslot_spec (hi3.le l4) (by omega) (by omega) fun s6 l6=>?_
  rw[gotV_eq]
  revert hg
  obtain⟨y1,y2,y3⟩:=Option.getD _ z3
  intro hg
  have l36:=lT l4 l6
  have c46:=(l36.2 s.next (by omega)).trans c43
  have c96:=(l6.2 s3.next (by omega)).trans c9
  have n6:=l6.1
  rw[n4]at n6
  have l7:s3.le (s6.put s3.next (.cells [.int .i64 y1,.int .i64 y2,.string y3] 36 true)):=lP l36 (Nat.le_refl _)
  have c97:(s6.put s3.next (.cells [.int .i64 y1,.int .i64 y2,.string y3] 36 true)).at' s3.next=some (.cells [.int .i64 y1,.int .i64 y2,.string y3] 36 true):=by rw[St.at_put,if_pos rfl]
  simp only[vOf,vA]
  simp -implicitDefEqProofs only[↓Zd,(Zp),simprocAttr,qP,Value.cells,cut,qC,cld2,(HEx),e0,e2,e8,c96,co19]
  refine hget_spec (hi3.le l7) (by omega) fun s8 v l8 hv2=>?_
  rw[hv2.one hg]
  have c98:=(l8.2 s3.next (by simp only[St.next_put];omega)).trans c97
  simp only[vOf,vA]
  simp -implicitDefEqProofs only[↓Zd,(Zp),simprocAttr,cut,cld2,(HEx),e0,e2,e4,e8,c98,wm,VneSelf]
  exact hend (lT l3 (lT l7 l8))
end
end Go.Proofs.Tryz
