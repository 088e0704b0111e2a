/- Lemmas, laid one behind the other by squeeze2.py. -/
import Derived.Test.YtnkichmojbanlaaGreatzE
set_option linter.unusedSimpArgs false
set_option linter.unusedVariables false
set_option linter.unusedSectionVars false
set_option linter.defProp false
namespace Go.Proofs.Tryz
open Go.Cs
open Go.RowKit (Below)
set_option maxRecDepth 100000
attribute [local irreducible] QC WLoop WScope CRound WRange
set_option maxHeartbeats 32000000
variable {M:Type}[Mem M]{w0:World}{s:St M}{R:Value→St M→Prop}
def REx:=(And.intro (And.intro (And.intro (And.intro (And.intro (And.intro @underlying165 (And.intro @sz165 @is165)) (And.intro (And.intro @ce165 @ag165) (And.intro @ze165 @fa165x0))) (And.intro (And.intro (And.intro @fa165x1 @underlying221) (And.intro @sz221 @is221)) (And.intro (And.intro @ce221 @ag221) (And.intro @ze221 @nt221)))) (And.intro (And.intro (And.intro @nn221 (And.intro @nf221 @ng221)) (And.intro (And.intro @underlying81 @sz81) (And.intro @is81 @ce81))) (And.intro (And.intro (And.intro @ag81 @ze81) (And.intro @fa81x0 @fa81x1)) (And.intro (And.intro @fa81x2 @fa81x3) (And.intro @fa81x4 @underlying27))))) (And.intro (And.intro (And.intro (And.intro @sz27 (And.intro @is27 @ce27)) (And.intro (And.intro @ag27 @ze27) (And.intro @nt27 @nn27))) (And.intro (And.intro (And.intro @nf27 @ng27) (And.intro @underlying77 @sz77)) (And.intro (And.intro @is77 @ce77) (And.intro @ag77 @ze77)))) (And.intro (And.intro (And.intro @underlying163 (And.intro @sz163 @is163)) (And.intro (And.intro @ce163 @ag163) (And.intro @ze163 @nt163))) (And.intro (And.intro (And.intro @nn163 @nf163) (And.intro @ng163 @underlying167)) (And.intro (And.intro @sz167 @is167) (And.intro @ce167 @ag167)))))) (And.intro (And.intro (And.intro (And.intro (And.intro @ze167 (And.intro @fa167x0 @fa167x1)) (And.intro (And.intro @fa167x2 @fa167x3) (And.intro @underlying177 @sz177))) (And.intro (And.intro (And.intro @is177 @ce177) (And.intro @ag177 @ze177)) (And.intro (And.intro @fa177x0 @fa177x1) (And.intro @underlying75 @sz75)))) (And.intro (And.intro (And.intro @is75 (And.intro @ce75 @ag75)) (And.intro (And.intro @ze75 @nt75) (And.intro @nn75 @nf75))) (And.intro (And.intro (And.intro @ng75 @underlying175) (And.intro @sz175 @is175)) (And.intro (And.intro @ce175 @ag175) (And.intro @ze175 @underlying219))))) (And.intro (And.intro (And.intro (And.intro @sz219 (And.intro @is219 @ce219)) (And.intro (And.intro @ag219 @ze219) (And.intro @fa219x0 @fa219x1))) (And.intro (And.intro (And.intro @underlying79 @sz79) (And.intro @is79 @ce79)) (And.intro (And.intro @ag79 @ze79) (And.intro @fa79x0 @underlying33)))) (And.intro (And.intro (And.intro (And.intro @sz33 @is33) (And.intro @ce33 @ag33)) (And.intro (And.intro @ze33 @underlying31) (And.intro @sz31 @is31))) (And.intro (And.intro (And.intro @ce31 @ag31) (And.intro @ze31 @underlying86)) (And.intro (And.intro @sz86 @is86) (And.intro @ce86 @ag86)))))))
section
variable {r f:Nat}
structure RZ(s:St M)(r f:Nat):Prop where
 heap:s.at' r=some (.cells [.slice none 0 0,.int .i64 0,.int .i64 0,.pointer (some ⟨f,0,none⟩),.slice none 0 0] 81 true)
 forest:s.at' f=some (.cells [.slice none 0 0,.int .i64 0] 177 true)
 rn:r<s.next
 fn:f<s.next
theorem RZ.same{s':St M}(h:RZ s r f)(hn:s.next≤s'.next)(h1:s'.at' r=s.at' r)(h2:s'.at' f=s.at' f):RZ s' r f:=
 ⟨h1.trans h.heap,h2.trans h.forest,by have:=h.rn;omega,by have:=h.fn;omega⟩
theorem RZ.le{s':St M}(h:RZ s r f)(hs:s.le s'):RZ s' r f:=h.same hs.1 (hs.2 _ h.rn) (hs.2 _ h.fn)
end
section
def SlI(s:St M)(v:Value)(l:List Nat):Prop:=SlU 3 1 s v (ints l) l.length
theorem SlI.form{v:Value}{l:List Nat}(h:SlI s v l):∃ a c,v = .slice a l.length c:=by
 rcases h with ⟨e,_,rfl⟩|⟨b,_,rfl,_⟩
 ·exact⟨none,0,by rw[e]⟩
 ·exact⟨_,_,rfl⟩
theorem SlI.get{v:Value}{l:List Nat}(h:SlI s v l){k:Nat}(hk:k<l.length):∃ b vs own,v = .slice (some ⟨b,0,none⟩) l.length UNK∧s.at' b=some (.cells vs 3 own)∧vs[k]?=some (.int .i64 ((l[k]:Nat):Int)):=by
 rcases h with ⟨e,_,rfl⟩|⟨b,junk,rfl,hb,_⟩
 ·omega
 ·exact⟨b,_,_,rfl,hb,ints_get junk hk⟩
theorem rsame_spec{va vb:Value}{a b:List Nat}(ha:SlI s va a)(hb:SlI s vb b)(hla:a.length≤1000000)(hlb:b.length≤1000000)(hR:R (.bool (decide (a=b))) s):QC prog w0 153 #[va,vb] s R:=by
 refine wfun2 hmix ok153 func153 rfl ntmps153 results153 (by simp) ?_
 obtain⟨a1,ac,rfl⟩:=ha.form
 obtain⟨b1,bc,rfl⟩:=hb.form
 by_cases hl:(a.length:Int)=(b.length:Int)
 case neg =>
  have:decide (a=b)=false:=by
   simp only[decide_eq_false_iff_not]
   intro e;rw[e]at hl;exact hl rfl
  rw[this]at hR
  simp -implicitDefEqProofs only[↓Zd,(Zp),simprocAttr,(REx),hl]
  exact hR
 simp -implicitDefEqProofs only[↓Zd,(Zp),simprocAttr,(REx),hl]
 refine wloop_inv hmix (fun fuel env s1=>∃ k:Nat,fuel=a.length - k∧k≤a.length∧env 5 = .int .i64 (k:Int)∧env 0 = .slice a1 a.length ac∧env 1 = .slice b1 b.length bc∧s1=s∧a.take k=b.take k) a.length ⟨0,rfl,by omega,rfl,rfl,rfl,rfl,rfl⟩ ?_
 rintro fuel env s1 ⟨k,rfl,hk,e5,e0,e1,rfl,hpre⟩
 by_cases hkl:(k:Int)<(a.length:Int)
 case neg =>
  have hk1:k=a.length:=by omega
  have:decide (a=b)=true:=by
   rw[decide_eq_true_eq]
   rw[hk1,List.take_length,show a.length=b.length by omega,List.take_length]at hpre
   exact hpre
  rw[this]at hR
  simp -implicitDefEqProofs only[↓Zd,(Zp),simprocAttr,(REx),e5,e0,hkl]
  exact hR
 obtain⟨ba,vsa,oa,ea,hba,hga⟩:=ha.get (k:=k) (by omega)
 obtain⟨bb,vsb,ob,eb,hbb,hgb⟩:=hb.get (k:=k) (by omega)
 cases ea
 cases eb
 have hk1:(0:Int)≤(k:Int)∧(k:Int)<(a.length:Int):=by omega
 have hk2:(0:Int)≤(k:Int)∧(k:Int)<(b.length:Int):=by omega
 have w1:IntKind.i64.wrap ((k:Int)+1)=((k+1:Nat):Int):=by rw[wrap_i64 (by omega)];omega
 have hka:a[k]?=some a[k]:=List.getElem?_eq_getElem _
 have hkb:b[k]?=some (b[k]'(by omega)):=List.getElem?_eq_getElem _
 by_cases he:((a[k]:Nat):Int)=((b[k]'(by omega):Nat):Int)
 case neg =>
  have:decide (a=b)=false:=by
   simp only[decide_eq_false_iff_not]
   intro e
   subst e
   exact he rfl
  rw[this]at hR
  simp -implicitDefEqProofs only[↓Zd,(Zp),simprocAttr,cld2,(HEx),(REx),e5,e0,e1,hkl,hk1,hk2,hba,hbb,hga,hgb,he,ord153]
  exact hR
 simp -implicitDefEqProofs only[↓Zd,(Zp),simprocAttr,cld2,(HEx),(REx),e5,e0,e1,hkl,hk1,hk2,hba,hbb,hga,hgb,he,w1,ord153]
 refine⟨a.length - (k+1),by omega,k+1,rfl,by omega,rfl,?_⟩
 rw[List.take_add_one,List.take_add_one,hka,hkb,hpre]
 have:a[k]=b[k]'(by omega):=by omega
 rw[this]
def rshC(F:List Sh)(nm:Nat→Value)(i:Nat):List Value:=[.int .i64 (((F.getD i (0,[])).1:Nat):Int),nm i]
theorem rshC_len(F:List Sh)(nm:Nat→Value)(i:Nat):(rshC F nm i).length=2:=rfl
theorem rshC_at{F:List Sh}{nm:Nat→Value}{i:Nat}{t:Sh}(h:F[i]?=some t):rshC F nm i=[.int .i64 ((t.1:Nat):Int),nm i]:=by
 unfold rshC
 rw[List.getD_eq_getElem?_getD,h];rfl
structure RFAt(lo:Nat)(s:St M)(p:Nat)(F:List Sh)(most:Nat)(O:Nat→Prop):Prop where
 own:∀ b,O b→lo≤b∧b<s.next
 pin:O p
 ok:FOk F
 le:F.length≤most∧most≤150
 bl:∃ sl nm,s.at' p=some (.cells [sl,.int .i64 (most:Int)] 177 true)∧SlU 219 2 s sl (rows (rshC F nm) F.length) F.length∧(∀ q n c,sl = .slice (some q) n c→O q.block∧q.block≠p) ∧
  ∀ (i:Nat) (t:Sh),F[i]?=some t→SlI s (nm i) t.2.reverse∧∀ q n c,nm i = .slice (some q) n c→O q.block∧q.block≠p∧∀ q' n' c',sl = .slice (some q') n' c'→q.block≠q'.block
theorem RFAt.same{lo:Nat}{s s':St M}{p:Nat}{F:List Sh}{most:Nat}{O:Nat→Prop}(h:RFAt lo s p F most O)(hn:s.next≤s'.next)(hs:∀ b,O b→s'.at' b=s.at' b):RFAt lo s' p F most O:=by
 obtain⟨h1,h2,h3,h4,sl,nm,h5,h6,h7,h8⟩:=h
 exact⟨fun b hb=>⟨(h1 b hb).1,by have:=(h1 b hb).2;omega⟩,h2,h3,h4,sl,nm,by rw[hs _ h2];exact h5,h6.same fun q n c e=>hs _ (h7 q n c e).1,h7,fun i t ht=>⟨(h8 i t ht).1.same fun q n c e=>hs _ ((h8 i t ht).2 q n c e).1,(h8 i t ht).2⟩⟩
theorem RFAt.le'{lo:Nat}{s s':St M}{p:Nat}{F:List Sh}{most:Nat}{O:Nat→Prop}(h:RFAt lo s p F most O)(hs:s.le s'):RFAt lo s' p F most O:=h.same hs.1 fun b hb=>hs.2 b (h.own b hb).2
theorem RFAt.low{lo lo':Nat}{s:St M}{p:Nat}{F:List Sh}{most:Nat}{O:Nat→Prop}(h:RFAt lo s p F most O)(hl:lo'≤lo):RFAt lo' s p F most O:=
 ⟨fun b hb=>⟨by have:=(h.own b hb).1;omega,(h.own b hb).2⟩,h.pin,h.ok,h.le,h.bl⟩
def NmOf(s:St M)(p i:Nat)(v:Value):Prop:=∃ sl m b vs own n c,s.at' p=some (.cells [sl,m] 177 true)∧sl = .slice (some ⟨b,0,none⟩) n c∧s.at' b=some (.cells vs 219 own)∧vs[i*2+1]?=some v
theorem RFAt.nm{lo p i:Nat}{F:List Sh}{most:Nat}{O:Nat→Prop}{v:Value}{t:Sh}(hF:RFAt lo s p F most O)(ht:F[i]?=some t)(hv:NmOf s p i v):SlI s v t.2.reverse∧∀ q n c,v = .slice (some q) n c→O q.block:=by
 obtain⟨h1,h2,h3,h4,sl,nm,h5,h6,h7,h8⟩:=hF
 obtain⟨sl',m,b,vs,own,n,c,g1,g2,g3,g4⟩:=hv
 rw[h5]at g1
 cases g1
 have hi:=(List.getElem?_eq_some_iff.1 ht).1
 rcases h6 with ⟨e,_⟩|⟨b',junk,e,hb,hlb⟩
 ·omega
 rw[e]at g2
 cases g2
 rw[hb]at g3
 cases g3
 have f1:=rows_get (rshC_len F nm) (n:=F.length) junk hi (show 1<2 by omega)
 rw[rshC_at ht]at f1
 rw[f1]at g4
 cases g4
 exact⟨(h8 i t ht).1,fun q n c e=>((h8 i t ht).2 q n c e).1⟩
theorem NmOf.same{lo p i:Nat}{s':St M}{F:List Sh}{most:Nat}{O:Nat→Prop}{v:Value}(h:NmOf s p i v)(hF:RFAt lo s p F most O)(hs:∀ b,O b→s'.at' b=s.at' b):NmOf s' p i v:=by
 obtain⟨h1,h2,h3,h4,sl,nm,h5,h6,h7,h8⟩:=hF
 obtain⟨sl',m,b,vs,own,n,c,g1,g2,g3,g4⟩:=h
 rw[h5]at g1
 cases g1
 have hb:=(h7 ⟨b,0,none⟩ n c g2).1
 exact⟨_,_,b,vs,own,n,c,(hs p h2).trans h5,g2,(hs b hb).trans g3,g4⟩
theorem rfhas_spec{lo p:Nat}{F:List Sh}{most:Nat}{O:Nat→Prop}{i:Int}(hF:RFAt lo s p F most O)(hR:R (.bool (shAt F i).isSome) s):QC prog w0 136 #[.pointer (some ⟨p,0,none⟩),.int .i64 i] s R:=by
 refine wfun2 hmix ok136 func136 rfl ntmps136 results136 (by simp) ?_
 obtain⟨h1,h2,h3,h4,sl,nm,h5,h6,h7,h8⟩:=hF
 obtain⟨a,c,rfl⟩:∃ a c,sl = .slice a F.length c:=by
  rcases h6.form with ⟨e0,rfl⟩|⟨b,rfl⟩
  ·exact⟨none,0,by rw[e0]⟩
  ·exact⟨_,_,rfl⟩
 by_cases i1:1≤i
 ·by_cases i2:i≤(F.length:Int)
  ·have:(shAt F i).isSome=true:=by
    unfold shAt;rw[if_pos i1,List.getElem?_eq_getElem (by omega)];rfl
   rw[this]at hR
   simp -implicitDefEqProofs only[↓Zd,(Zp),simprocAttr,cld2,(REx),h5,i1,i2]
   exact hR
  ·have:(shAt F i).isSome=false:=by rw[shAt_out (by omega)];rfl
   rw[this]at hR
   simp -implicitDefEqProofs only[↓Zd,(Zp),simprocAttr,cld2,(REx),h5,i1,i2]
   exact hR
 ·have:(shAt F i).isSome=false:=by rw[shAt_out (by omega)];rfl
  rw[this]at hR
  simp -implicitDefEqProofs only[↓Zd,(Zp),simprocAttr,i1]
  exact hR
theorem rowShape(q:Nat)(v:Value)(a:Option Addr)(n c:Nat):crow prog 175 1 #[(0,.agg #[.int .i64 (q:Int),.slice a n c])]=some (.cells [.int .i64 (q:Int),.slice a n c] 219 true):=by kernel_rfl
theorem infoShape:∃ ie,prog.info? 219=some ie∧ie.size=2∧0<ie.bytes∧ie.bytes≤100:=by
 obtain⟨ie,h⟩:=Option.isSome_iff_exists.1 is219
 have h1:=ce219
 have h2:decide (0<prog.bytesOf 219∧prog.bytesOf 219≤100)=true:=by kernel_rfl
 rw[cellsOf_info h]at h1
 simp only[Program.bytesOf,h,decide_eq_true_eq]at h2
 exact⟨ie,h,h1,h2.1,h2.2⟩
theorem wch_app_shape{s:St M}{sl:Value}{cs:List Value}{k q:Nat}{a:Option Addr}{n c:Nat}{K:Value→St M→Prop}(hlen:k≤1000000)(hsl:SlU 219 2 s sl cs k)(hfr:∀ q m c,sl = .slice (some q) m c→q.block<s.next)
  (h:∀ s',s'.next=s.next+2→s'.at' (s.next+1)=some (.cells (cs ++ [.int .i64 (q:Int),.slice a n c]) 219 true)→(∀ b,b<s.next→(∀ q n c,sl = .slice (some q) n c→b≠q.block)→s'.at' b=s.at' b)→K (.slice (some ⟨s.next+1,0,none⟩) (k+1) UNK) s') :
  wch (capp prog #[175,175] #[sl,.slice (some ⟨s.next,0,none⟩) 1 1] (s.new (.cells [.int .i64 (q:Int),.slice a n c] 219 true))) K:=by
 obtain⟨ie,hie,h1,h2,h3⟩:=infoShape
 have hcapp:capp prog #[175,175] #[sl,.slice (some ⟨s.next,0,none⟩) 1 1] (s.new (.cells [.int .i64 (q:Int),.slice a n c] 219 true))=capp3 prog 219 ie sl (s.new (.cells [.int .i64 (q:Int),.slice a n c] 219 true)) (cmore ie.size (.slice (some ⟨s.next,0,none⟩) 1 1) (s.new (.cells [.int .i64 (q:Int),.slice a n c] 219 true))):=
  app_eq underlying175 underlying175 hie
 have hv:cmore ie.size (.slice (some ⟨s.next,0,none⟩) 1 1) (s.new (.cells [.int .i64 (q:Int),.slice a n c] 219 true))=some (1,[.int .i64 (q:Int),.slice a n c]):=by
  simp only[more_at,St.at_new,if_true,more2,h1];rfl
 obtain⟨s',h3,h4,h5,h6⟩:=app_rowU (n:=k) (k:=1) hie ze219 (by rw[h1];rfl) h2 hcapp (by omega) (by
  have:(k+1)*ie.bytes≤1000001*100:=Nat.mul_le_mul (by omega) h3
  omega) rfl hv (by rw[h1];exact hsl.same fun q m c e=>by rw[St.at_new,if_neg (by have:=hfr q m c e;omega)])
 refine⟨_,s',h3,h s' (by simp at h4;omega) h5 fun b hb hq=>?_⟩
 rw[h6 b (by simp;omega) hq,St.at_new,if_neg (by omega)]
theorem growF_out{F:List Sh}{most:Nat}{t:Sh}(h:t ∉ F)(hm:¬ F.length<most):growF F most t=F∧growN F most t=0:=by
 unfold growF growN
 rw[if_neg h,if_neg h,if_neg hm,if_neg hm];exact⟨rfl,rfl⟩
theorem growF_new{F:List Sh}{most:Nat}{t:Sh}(h:t ∉ F)(hm:F.length<most):growF F most t=F ++ [t]∧growN F most t=F.length+1:=by
 unfold growF growN
 rw[if_neg h,if_neg h,if_pos hm,if_pos hm];exact⟨rfl,rfl⟩
theorem growF_old{F:List Sh}{most:Nat}(hF:FOk F){t:Sh}{k:Nat}(h:F[k]?=some t):growF F most t=F∧growN F most t=k+1:=by
 have hm:=List.mem_of_getElem? h
 have:=hF.is h
 unfold shIs at this
 rw[if_pos hm]at this
 unfold growF growN
 rw[if_pos hm,if_pos hm]
 exact⟨rfl,Option.some.inj this⟩
theorem rof_spec{lo p q:Nat}{l:List Nat}{F:List Sh}{most:Nat}{O:Nat→Prop}{v:Value}(hF:RFAt lo s p F most O)(hlo:lo≤s.next)(hv:SlI s v l.reverse)(hvO:∀ q n c,v = .slice (some q) n c→lo≤q.block∧q.block<s.next∧¬ O q.block)(hnd:l.Nodup)(hl12:l.length≤12)(hup:∀ x r,l=x::r→(q,r)∈F)
  (hR:∀ s' O',RFAt lo s' p (growF F most (q,l)) most O'→s.next≤s'.next→(∀ b,b<s.next→¬ O b→s'.at' b=s.at' b)→(∀ b,O' b→O b∨s.next≤b∨∃ q n c,v = .slice (some q) n c∧b=q.block)→(∀ i v,i<F.length→NmOf s p i v→NmOf s' p i v)→R (.int .i64 (growN F most (q,l):Int)) s') :
  QC prog w0 132 #[.pointer (some ⟨p,0,none⟩),.agg #[.int .i64 (q:Int),v]] s R:=by
 obtain⟨va,vc,rfl⟩:=hv.form
 refine wfun2 hmix ok132 func132 rfl ntmps132 results132 (by simp) ?_
 have hF0:=hF
 obtain⟨h1,h2,h3,h4,sl,nm,h5,h6,h7,h8⟩:=hF
 have hpn:=(h1 p h2).2
 have hpne:¬ p=s.next:=by omega
 have l1:s.le (s.new (.cells [.int .i64 (q:Int),.slice va l.reverse.length vc] 219 true)):=lN (lR _)
 have hF1:=hF0.le' l1
 obtain⟨sa,sc,rfl⟩:∃ a c,sl = .slice a F.length c:=by
  rcases h6.form with ⟨e0,rfl⟩|⟨b,rfl⟩
  ·exact⟨none,0,by rw[e0]⟩
  ·exact⟨_,_,rfl⟩
 simp -implicitDefEqProofs only[↓Zd,(Zp),simprocAttr,qP,Value.cells,(REx)]
 refine wloop_inv hmix (fun fuel env s1=>∃ k:Nat,fuel=F.length - k∧k≤F.length∧env 5 = .int .i64 (k:Int)∧env 0 = .pointer (some ⟨p,0,none⟩)∧env 3 = .pointer (some ⟨s.next,0,none⟩)∧s1=s.new (.cells [.int .i64 (q:Int),.slice va l.reverse.length vc] 219 true)∧∀ i,i<k→F[i]?≠some (q,l)) F.length ⟨0,rfl,by omega,rfl,rfl,rfl,rfl,fun i hi=>by omega⟩ ?_
 rintro fuel env s1 ⟨k,rfl,hk,e5,e0,e3,rfl,hno⟩
 by_cases hkl:(k:Int)<(F.length:Int)
 case pos =>
  have hkF:k<F.length:=by omega
  obtain⟨t,ht⟩:∃ t,F[k]?=some t:=⟨F[k],by simp[hkF]⟩
  obtain⟨g1,g2⟩:=h8 k t ht
  rcases h6 with ⟨e,_⟩|⟨b,junk,e,hb,hlb⟩
  ·omega
  cases e
  have hbn:=(h1 _ (h7 _ _ _ rfl).1).2
  simp only at hbn
  have hbne:¬ b=s.next:=by omega
  have f0:=rows_get (rshC_len F nm) (n:=F.length) junk hkF (show 0<2 by omega)
  have f1:=rows_get (rshC_len F nm) (n:=F.length) junk hkF (show 1<2 by omega)
  rw[rshC_at ht]at f0 f1
  have hkk:(0:Int)≤(k:Int)∧(k:Int)<(F.length:Int):=by omega
  have w1:IntKind.i64.wrap ((k:Int)+1)=((k+1:Nat):Int):=by rw[wrap_i64 (by omega)];omega
  obtain⟨na,nc,hnm⟩:=g1.form
  by_cases hq:((t.1:Nat):Int)=(q:Int)
  case neg =>
   simp -implicitDefEqProofs only[↓Zd,(Zp),Zr,simprocAttr,cld2,(HEx),(REx),e5,e0,e3,h5,hpne,hkl,hkk,hb,hbne,f0,hq,w1,ord132]
   refine⟨F.length - (k+1),by omega,k+1,rfl,by omega,rfl,fun i hi=>?_⟩
   by_cases e:i=k
   ·subst e
    rw[ht]
    intro e2
    cases e2
    exact hq rfl
   ·exact hno i (by omega)
  rw[hnm]at f1
  simp -implicitDefEqProofs only[↓Zd,(Zp),Zr,simprocAttr,cld2,(HEx),(REx),e5,e0,e3,h5,hpne,hkl,hkk,hb,hbne,f0,f1,hq,ord132,co153]
  have hl1:t.2.reverse.length≤1000000:=by have:=(h3.names k t.1 t.2 ht).2;simp;omega
  refine rsame_spec (a:=t.2.reverse) (b:=l.reverse) (by rw[← hnm];exact g1.same fun q n c e=>by have:=(h1 _ (g2 q n c e).1).2;rw[St.at_new,if_neg (by omega)]) (hv.same fun q n c e=>by have:=(hvO q n c e).2.1;rw[St.at_new,if_neg (by omega)]) hl1 (by simp;omega) ?_
  by_cases hll:t.2.reverse=l.reverse
  case pos =>
   have hte:t=(q,l):=by
    obtain⟨t1,t2⟩:=t
    simp only at hll hq
    rw[List.reverse_inj.1 hll,show t1=q by omega]
   subst hte
   obtain⟨gF,gN⟩:=growF_old (most:=most) h3 ht
   rw[gF,gN]at hR
   rw[hll]
   simp -implicitDefEqProofs only[↓Zd,(Zp),simprocAttr,(HEx),e5,w1]
   exact hR _ O hF1 l1.1 (fun b hb _=>l1.2 b hb) (fun b hb => .inl hb) (fun i v _ h=>h.same hF0 fun b hb=>l1.2 b (hF0.own b hb).2)
  have hdf:decide (t.2.reverse=l.reverse)=false:=by simpa using hll
  rw[hdf]
  simp -implicitDefEqProofs only[↓Zd,(Zp),simprocAttr,(HEx),e5,e0,e3,w1]
  refine⟨F.length - (k+1),by omega,k+1,rfl,by omega,rfl,fun i hi=>?_⟩
  by_cases e:i=k
  ·subst e
   rw[ht]
   intro e2
   cases e2
   exact hll rfl
  ·exact hno i (by omega)
 have hnm:(q,l) ∉ F:=fun hm=>by
  obtain⟨i,hi⟩:=List.getElem?_of_mem hm
  exact hno i (by have:=(List.getElem?_eq_some_iff.1 hi).1;omega) hi
 by_cases hmx:(most:Int)≤(F.length:Int)
 case pos =>
  obtain⟨gF,gN⟩:=growF_out (most:=most) hnm (by omega)
  rw[gF,gN]at hR
  simp -implicitDefEqProofs only[↓Zd,(Zp),simprocAttr,cld2,(HEx),(REx),e5,e0,h5,hpne,hkl,hmx,ord132]
  exact hR _ O hF1 l1.1 (fun b hb _=>l1.2 b hb) (fun b hb => .inl hb) (fun i v _ h=>h.same hF0 fun b hb=>l1.2 b (hF0.own b hb).2)
 obtain⟨gF,gN⟩:=growF_new (most:=most) hnm (by omega)
 rw[gF,gN]at hR
 simp -implicitDefEqProofs only[↓Zd,(Zp),simprocAttr,cut,cld2,(HEx),(REx),e5,e0,e3,h5,hpne,hkl,hmx,rowShape q (.bool true) va l.reverse.length vc,ord132]
 refine wch_app_shape (by omega) (h6.same fun q n c e=>by have:=(h1 _ (h7 q n c e).1).2;rw[St.at_new,if_neg (by omega)]) (fun q n c e=>by have:=(h1 _ (h7 q n c e).1).2;simp only[St.next_new];omega) fun s5 hn5 hb5 hk5=>?_
 simp only[St.next_new]at hn5 hb5 hk5
 have hp5:s5.at' p=some (.cells [.slice sa F.length sc,.int .i64 (most:Int)] 177 true):=by
  rw[hk5 p (by omega) (fun q n c e e2=>(h7 q n c e).2 e2.symm),St.at_new,if_neg hpne];exact h5
 simp -implicitDefEqProofs only[↓Zd,(Zp),simprocAttr,qP,Value.cells,qC,cld2,(REx),e0,hp5]
 have hrow:rows (rshC (F ++ [(q,l)]) (fun i=>if i=F.length then .slice va l.reverse.length vc else nm i)) (F.length+1)=rows (rshC F nm) F.length ++ [.int .i64 (q:Int),.slice va l.reverse.length vc]:=by
  rw[rows_succ]
  congr 1
  ·apply rows_congr
   intro i hi
   have e:F[i]?=some F[i]:=List.getElem?_eq_getElem hi
   rw[rshC_at e,rshC_at (t:=F[i]) (by rw[List.getElem?_append_left hi,e]),if_neg (by omega)]
  ·rw[rshC_at (t:=(q,l)) (by simp),if_pos rfl]
 have hin:(F ++ [(q,l)]).length=F.length+1:=by simp
 refine hR _ (fun b=>O b∨b=s.next+2∨∃ q n c,Value.slice va l.reverse.length vc = .slice (some q) n c∧b=q.block) ⟨?_,.inl h2,h3.app hnm hnd hl12 hup,⟨by rw[hin];omega,h4.2⟩,.slice (some ⟨s.next+2,0,none⟩) (F.length+1) UNK,(fun i=>if i=F.length then .slice va l.reverse.length vc else nm i),?_,?_,?_,?_⟩ (by simp only[St.next_put];omega) ?_ ?_ ?_
 ·rintro b (hb|rfl|⟨q0,n0,c0,e,rfl⟩)
  ·have:=h1 b hb;simp only[St.next_put];omega
  ·simp only[St.next_put];omega
  ·have:=hvO q0 n0 c0 e;simp only[St.next_put];omega
 ·rw[St.at_put,if_pos rfl]
 ·rw[hin]
  exact .inr ⟨s.next+2,[],rfl,by rw[St.at_put,if_neg (by omega),hrow,List.append_nil];exact hb5,rows_len (rshC_len _ _) _⟩
 ·intro q0 n0 c0 e
  cases e
  exact⟨.inr (.inl rfl),by show s.next+2≠p;omega⟩
 ·intro i t ht
  have hold:∀ c,c<s.next→c≠p→(∀ q n k,Value.slice sa F.length sc = .slice (some q) n k→c≠q.block)→(s5.put p (.cells [.slice (some ⟨s.next+2,0,none⟩) (F.length+1) UNK,.int .i64 (most:Int)] 177 true)).at' c=s.at' c:=fun c hc hcp hcs=>by
   rw[St.at_put,if_neg hcp,hk5 c (by omega) hcs,St.at_new,if_neg (by omega)]
  by_cases hi:i<F.length
  ·rw[List.getElem?_append_left hi]at ht
   obtain⟨g1,g2⟩:=h8 i t ht
   simp only[if_neg (show ¬ i=F.length by omega)]
   refine⟨g1.same fun q0 n0 c0 e=>hold _ (h1 _ (g2 q0 n0 c0 e).1).2 (g2 q0 n0 c0 e).2.1 (g2 q0 n0 c0 e).2.2,fun q0 n0 c0 e=>⟨.inl (g2 q0 n0 c0 e).1,(g2 q0 n0 c0 e).2.1,fun q' n' c' e'=>?_⟩⟩
   cases e'
   have:=(h1 _ (g2 q0 n0 c0 e).1).2
   show q0.block≠s.next+2
   omega
  ·have hil:i=F.length:=by
    have:=(List.getElem?_eq_some_iff.1 ht).1
    simp at this;omega
   subst hil
   rw[List.getElem?_append_right (Nat.le_refl _),Nat.sub_self]at ht
   simp at ht
   subst ht
   simp only[if_true]
   refine⟨hv.same fun q0 n0 c0 e=>hold _ (hvO q0 n0 c0 e).2.1 (fun e2=>(hvO q0 n0 c0 e).2.2 (e2▸h2)) (fun q' n' c' e' e2=>(hvO q0 n0 c0 e).2.2 (by rw[e2];exact (h7 q' n' c' e').1)),fun q0 n0 c0 e=>⟨.inr (.inr ⟨q0,n0,c0,e,rfl⟩),fun e2=>(hvO q0 n0 c0 e).2.2 (e2▸h2),fun q' n' c' e'=>?_⟩⟩
   cases e'
   have:=(hvO q0 n0 c0 e).2.1
   show q0.block≠s.next+2
   omega
 ·intro b hb hno
  rw[St.at_put,if_neg (fun e:b=p=>hno (e▸h2)),hk5 b (by omega) (fun q n c e e2=>hno (by rw[e2];exact (h7 q n c e).1)),St.at_new,if_neg (by omega)]
 ·rintro b (hb|rfl|hb)
  ·exact .inl hb
  ·exact .inr (.inl (by omega))
  ·exact .inr (.inr hb)
 ·intro i v hi hv
  obtain⟨sl',m,b,vs,own,n,c,g1,g2,g3,g4⟩:=hv
  rw[h5]at g1
  cases g1
  rcases h6 with ⟨e,_⟩|⟨b',junk,e,hb,hlb⟩
  ·omega
  cases e
  cases g2
  rw[hb]at g3
  cases g3
  refine⟨_,_,s.next+2,_,true,_,_,by rw[St.at_put,if_pos rfl],rfl,by rw[St.at_put,if_neg (by omega)];exact hb5,?_⟩
  have f1:=rows_get (rshC_len F nm) (n:=F.length) junk hi (show 1<2 by omega)
  have f2:=rows_get (rshC_len F nm) (n:=F.length) [.int .i64 (q:Int),.slice va l.reverse.length vc] hi (show 1<2 by omega)
  rw[f2,← f1];exact g4
theorem rroot_spec{lo p q:Nat}{F:List Sh}{most:Nat}{O:Nat→Prop}(hF:RFAt lo s p F most O)(hlo:lo≤s.next)
  (hR:∀ s' O',RFAt lo s' p (growF F most (q,[])) most O'→Upd s s' O O'→(∀ i v,i<F.length→NmOf s p i v→NmOf s' p i v)→R (.int .i64 (growN F most (q,[]):Int)) s'):QC prog w0 85 #[.pointer (some ⟨p,0,none⟩),.int .i64 (q:Int)] s R:=by
 refine wfun2 hmix ok85 func85 rfl ntmps85 results85 (by simp) ?_
 have hq:¬ (q:Int)<0:=by omega
 have hbS:cbuild prog 219 #[(0,.int .i64 (q:Int))]=some (.agg #[.int .i64 (q:Int),.slice none 0 0]):=by kernel_rfl
 simp -implicitDefEqProofs only[↓Zd,(Zp),simprocAttr,hq,hbS,co132]
 refine rof_spec (l:=[]) hF hlo (.inl ⟨rfl,rfl,rfl⟩) (fun q n c e=>by cases e) List.nodup_nil (by simp) (fun x r e=>by cases e) fun s1 O1 hF1 hn1 hk1 ho1 hnm1=>?_
 simp -implicitDefEqProofs only[↓Zd,(Zp),simprocAttr,(HEx)]
 refine hR _ O1 hF1 ⟨hn1,hk1,fun b hb=>?_⟩ hnm1
 rcases ho1 b hb with h|h|⟨q,n,c,e,_⟩
 ·exact .inl h
 ·exact .inr h
 ·cases e
end
theorem slotL_of:∀ {l:List Nat},l.Nodup→∀ {k x:Nat},l.reverse[k]?=some x→slotL l x=(k:Int):=by
 intro l
 induction l with
 |nil=>intro _ k x h;simp at h
 |cons y r ih =>
  intro hn k x h
  simp only[List.nodup_cons]at hn
  rw[List.reverse_cons]at h
  unfold slotL
  by_cases hk:k<r.length
  ·rw[List.getElem?_append_left (by simpa using hk)]at h
   have hm:x∈r:=by simpa using List.mem_of_getElem? h
   rw[if_neg (fun e:y=x=>hn.1 (by rw[e];exact hm))]
   exact ih hn.2 h
  ·rw[List.getElem?_append_right (by simp;omega)]at h
   have h0:k - r.reverse.length=0:=by
    have:=(List.getElem?_eq_some_iff.1 h).1
    simp at this ⊢;omega
   rw[h0]at h
   simp at h
   rw[if_pos h]
   simp at h0
   omega
theorem ints_ok(l:List Nat):(ints l).all qC=true:=by
 simp[ints,qC]
section
variable {lo p most:Nat}{F:List Sh}{O:Nat→Prop}
theorem RFAt.get(hF:RFAt lo s p F most O){j:Nat}{t:Sh}(ht:F[j]?=some t):∃ b vs own mv nm,s.at' p=some (.cells [.slice (some ⟨b,0,none⟩) F.length UNK,.int .i64 (mv:Int)] 177 true)∧s.at' b=some (.cells vs 219 own)∧vs[j*2]?=some (.int .i64 ((t.1:Nat):Int))∧vs[j*2+1]?=some nm∧SlI s nm t.2.reverse∧(∀ q n c,nm = .slice (some q) n c→O q.block)∧O b∧NmOf s p j nm:=by
 obtain⟨h1,h2,h3,h4,sl,nm,h5,h6,h7,h8⟩:=hF
 have hj:=(List.getElem?_eq_some_iff.1 ht).1
 rcases h6 with ⟨e,_⟩|⟨b,junk,rfl,hb,hlb⟩
 ·omega
 have f0:=rows_get (rshC_len F nm) (n:=F.length) junk hj (show 0<2 by omega)
 have f1:=rows_get (rshC_len F nm) (n:=F.length) junk hj (show 1<2 by omega)
 rw[rshC_at ht]at f0 f1
 obtain⟨g1,g2⟩:=h8 j t ht
 exact⟨b,_,_,most,nm j,h5,hb,f0,f1,g1,fun q n c e=>(g2 q n c e).1,(h7 _ _ _ rfl).1,_,_,b,_,_,_,_,h5,rfl,hb,f1⟩
theorem shAt_ix{i:Int}{t:Sh}(h:shAt F i=some t):∃ j:Nat,i=((j+1:Nat):Int)∧j<F.length∧F[j]?=some t:=by
 unfold shAt at h
 split at h
 ·exact⟨i.toNat - 1,by omega,(List.getElem?_eq_some_iff.1 h).1,h⟩
 ·cases h
theorem rfslot_spec{i:Int}{x:Nat}(hF:RFAt lo s p F most O)(hi : -9223372036854775808≤i∧i≤9223372036854775807)(hR:R (.int .i64 (slotL (namesOf F i) x)) s):QC prog w0 134 #[.pointer (some ⟨p,0,none⟩),.int .i64 i,.int .i64 (x:Int)] s R:=by
 refine wfun2 hmix ok134 func134 rfl ntmps134 results134 (by simp) ?_
 simp -implicitDefEqProofs only[↓Zd,(Zp),simprocAttr,co136]
 refine rfhas_spec hF ?_
 cases ht:shAt F i with
 |none =>
  have e0:slotL (namesOf F i) x = -1:=by unfold namesOf;rw[ht];rfl
  rw[e0]at hR
  simp -implicitDefEqProofs only[↓Zd,(Zp),simprocAttr,(HEx)]
  exact hR
 |some t =>
  have e0:namesOf F i=t.2:=by unfold namesOf;rw[ht]
  rw[e0]at hR
  obtain⟨j,rfl,hj,hFj⟩:=shAt_ix ht
  obtain⟨b,vs,own,mv,nm,g1,g2,g3,g4,g5,g6,g7,g8⟩:=hF.get hFj
  obtain⟨hnd,hl12⟩:=hF.ok.names j t.1 t.2 hFj
  have w1:IntKind.i64.wrap (((j+1:Nat):Int) - 1)=(j:Int):=by rw[wrap_i64 (by omega)];omega
  have hkk:(0:Int)≤(j:Int)∧(j:Int)<(F.length:Int):=by omega
  obtain⟨a,c,rfl⟩:=g5.form
  simp -implicitDefEqProofs only[↓Zd,(Zp),simprocAttr,cld2,(HEx),(REx),g1,g2,g4,w1,hkk]
  refine wloop_inv hmix (fun fuel env s1=>∃ k:Nat,fuel=t.2.reverse.length - k∧k≤t.2.reverse.length∧env 8 = .int .i64 (k:Int)∧env 7 = .slice a t.2.reverse.length c∧env 2 = .int .i64 (x:Int)∧s1=s∧∀ i,i<k→t.2.reverse[i]?≠some x) t.2.reverse.length ⟨0,rfl,by omega,rfl,rfl,rfl,rfl,fun i hi=>by omega⟩ ?_
  rintro fuel env s1 ⟨k,rfl,hk,e8,e7,e2,rfl,hno⟩
  have hkl12:t.2.reverse.length≤12:=by simp;exact hl12
  by_cases hkl:(k:Int)<(t.2.reverse.length:Int)
  case neg =>
   have hneg:slotL t.2 x = -1:=by
    have h1:slotL t.2 x<0:=(slotL_neg t.2 x).2 fun hm=>by
     obtain⟨i,hi⟩:=List.getElem?_of_mem (List.mem_reverse.2 hm)
     exact hno i (by have:=(List.getElem?_eq_some_iff.1 hi).1;omega) hi
    have:=slotL_ge t.2 x
    omega
   rw[hneg]at hR
   simp -implicitDefEqProofs only[↓Zd,(Zp),simprocAttr,(REx),e8,e7,hkl]
   exact hR
  obtain⟨bb,vv,oo,eb,hbb,hgb⟩:=g5.get (k:=k) (by omega)
  cases eb
  have hk1:(0:Int)≤(k:Int)∧(k:Int)<(t.2.reverse.length:Int):=by omega
  have hks:t.2.reverse[k]?=some (t.2.reverse[k]'(by omega)):=List.getElem?_eq_getElem _
  by_cases he:((t.2.reverse[k]'(by omega):Nat):Int)=(x:Int)
  case pos =>
   have hx:slotL t.2 x=(k:Int):=slotL_of hnd (by rw[hks];congr 1;omega)
   rw[hx]at hR
   simp -implicitDefEqProofs only[↓Zd,(Zp),simprocAttr,cld2,(HEx),(REx),e8,e7,e2,hkl,hk1,hbb,hgb,he]
   exact hR
  have wk:IntKind.i64.wrap ((k:Int)+1)=((k+1:Nat):Int):=by rw[wrap_i64 (by omega)];omega
  simp -implicitDefEqProofs only[↓Zd,(Zp),Zr,simprocAttr,cld2,(HEx),(REx),e8,e7,e2,hkl,hk1,hbb,hgb,he,wk]
  refine⟨t.2.reverse.length - (k+1),by omega,k+1,rfl,by omega,rfl,fun i hi=>?_⟩
  by_cases e:i=k
  ·subst e
   rw[hks]
   intro e2
   have:=Option.some.inj e2
   exact he (by omega)
  ·exact hno i (by omega)
theorem wch_copy_ints{e:Nat}{v:Value}{l:List Nat}{K:Value→St M→Prop}(he:s.at' e=some (.cells [] 3 true))(hen:e<s.next)(hv:SlI s v l)(hl:l.length≤1000000)
  (h:∀ s' v',s.next≤s'.next→(∀ b,b<s.next→b≠e→s'.at' b=s.at' b)→SlC 3 1 s' v' (ints l) l.length→(∀ q n c,v' = .slice (some q) n c→(q.block=e∨s.next≤q.block)∧q.block<s'.next)→K v' s') :
  wch (capp prog #[31,31] #[.slice (some ⟨e,0,none⟩) 0 0,v] s) K:=by
 obtain⟨ie,hie,h1,h2⟩:=infoInt
 have hcapp:capp prog #[31,31] #[.slice (some ⟨e,0,none⟩) 0 0,v] s=capp3 prog 3 ie (.slice (some ⟨e,0,none⟩) 0 0) s (cmore ie.size v s):=app_eq underlying31 underlying31 hie
 have hvm:cmore ie.size v s=some (l.length,ints l):=by
  rcases hv with ⟨e1,e2,rfl⟩|⟨b,junk,rfl,hb,hlb⟩
  ·rw[more_nil,e1,e2]
  ·rw[more_at]
   simp only[hb,more2,h1]
   have:cut (ints l++junk) 0 (l.length*1)=some (ints l):=by
    unfold cut
    rw[if_pos (by rw[List.length_append,ints_len];omega),List.drop_zero,Nat.mul_one,← ints_len l,List.take_left']
    rfl
   rw[this];rfl
 by_cases h0:l.length=0
 ·refine⟨.slice (some ⟨e,0,none⟩) 0 0,s,?_,?_⟩
  ·rw[hcapp,hvm]
   unfold capp3
   simp only[ints_ok,Bool.true_eq_false,if_false,h0]
   rw[if_neg (by unfold UNK;omega)]
   simp
  ·refine h s _ (Nat.le_refl _) (fun _ _ _=>rfl) ?_ (fun q n c e2=>by cases e2;exact⟨.inl rfl,hen⟩)
   have:l=[]:=List.eq_nil_of_length_eq_zero h0
   subst this
   exact .inr ⟨e,0,rfl,.inr ⟨rfl,by unfold UNK;omega⟩,he,rfl⟩
 ·obtain⟨s',a1,a2,a3,a4⟩:=app_row (n:=0) (k:=l.length) (old:=[]) hie ze3 (by rw[h1];rfl) (by omega) hcapp h0 (by rw[h2];omega) (ints_ok l) hvm (by rw[h1];exact .inr ⟨e,0,rfl,.inr ⟨rfl,by unfold UNK;omega⟩,he,rfl⟩)
  refine⟨_,s',a1,h s' _ (by omega) (fun b hb hbe=>a4 b (by omega) (fun q m c e2=>by cases e2;exact hbe)) ?_ (fun q n c e2=>by cases e2;exact⟨.inr (Nat.le_refl _),by show s.next<s'.next;omega⟩)⟩
  rw[Nat.zero_add]
  exact .inr ⟨s.next,UNK,rfl,.inl rfl,by rw[a3];rfl,by rw[ints_len,Nat.mul_one]⟩
theorem wch_app_intC{s:St M}{sl:Value}{l:List Nat}{x:Nat}{K:Value→St M→Prop}(hlen:l.length≤1000000)(hsl:SlC 3 1 s sl (ints l) l.length)(hfr:∀ q m c,sl = .slice (some q) m c→q.block<s.next)
  (h:∀ s',s'.next=s.next+2→s'.at' (s.next+1)=some (.cells (ints (l ++ [x])) 3 true)→(∀ b,b<s.next→(∀ q m c,sl = .slice (some q) m c→b≠q.block)→s'.at' b=s.at' b)→K (.slice (some ⟨s.next+1,0,none⟩) (l.length+1) UNK) s') :
  wch (capp prog #[31,31] #[sl,.slice (some ⟨s.next,0,none⟩) 1 1] (s.new (.cells [.int .i64 (x:Int)] 3 true))) K:=by
 obtain⟨ie,hie,h1,h2⟩:=infoInt
 have hcapp:capp prog #[31,31] #[sl,.slice (some ⟨s.next,0,none⟩) 1 1] (s.new (.cells [.int .i64 (x:Int)] 3 true))=capp3 prog 3 ie sl (s.new (.cells [.int .i64 (x:Int)] 3 true)) (cmore ie.size (.slice (some ⟨s.next,0,none⟩) 1 1) (s.new (.cells [.int .i64 (x:Int)] 3 true))):=
  app_eq underlying31 underlying31 hie
 have hv:cmore ie.size (.slice (some ⟨s.next,0,none⟩) 1 1) (s.new (.cells [.int .i64 (x:Int)] 3 true))=some (1,[.int .i64 (x:Int)]):=by
  simp only[more_at,St.at_new,if_true,more2,h1];rfl
 obtain⟨s',a1,a2,a3,a4⟩:=app_row (n:=l.length) (k:=1) hie ze3 (by rw[h1];rfl) (by omega) hcapp (by omega) (by rw[h2];omega) rfl hv (by rw[h1];exact hsl.same fun q m c e=>by rw[St.at_new,if_neg (by have:=hfr q m c e;omega)])
 refine⟨_,s',a1,h s' (by simp at a2;omega) (by simpa [ints] using a3) fun b hb hq=>?_⟩
 rw[a4 b (by simp;omega) hq,St.at_new,if_neg (by omega)]
theorem bShape(q:Int)(a:Option Addr)(n c:Nat):cbuild prog 219 #[(0,.int .i64 q),(1,.slice a n c)]=some (.agg #[.int .i64 q,.slice a n c]):=by kernel_rfl
theorem row0:crow prog 31 0 #[]=some (.cells [] 3 true):=by kernel_rfl
theorem rfadd_spec{i:Int}{x:Nat}(hF:RFAt lo s p F most O)(hlo:lo≤s.next)(hi : -9223372036854775808≤i∧i≤9223372036854775807)
  (hR:∀ s' O',RFAt lo s' p (addF F most i x) most O'→Upd s s' O O'→(∀ i v,i<F.length→NmOf s p i v→NmOf s' p i v)→R (.int .i64 (addN F most i x:Int)) s'):QC prog w0 137 #[.pointer (some ⟨p,0,none⟩),.int .i64 i,.int .i64 (x:Int)] s R:=by
 refine wfun2 hmix ok137 func137 rfl ntmps137 results137 (by simp) ?_
 simp -implicitDefEqProofs only[↓Zd,(Zp),simprocAttr,co136]
 refine rfhas_spec hF ?_
 cases ht:shAt F i with
 |none =>
  have hf:addF F most i x=F:=by unfold addF;rw[ht]
  have hg:addN F most i x=0:=by unfold addN;rw[ht]
  rw[hf,hg]at hR
  simp -implicitDefEqProofs only[↓Zd,(Zp),simprocAttr,(HEx)]
  exact hR _ O hF .refl (fun _ _ _ h=>h)
 |some t =>
  have hf:addF F most i x=if 12≤t.2.length∨x∈t.2 then F else growF F most (t.1,x::t.2):=by unfold addF;rw[ht]
  have hg:addN F most i x=if 12≤t.2.length∨x∈t.2 then 0 else growN F most (t.1,x::t.2):=by unfold addN;rw[ht]
  rw[hf,hg]at hR
  have hno:namesOf F i=t.2:=by unfold namesOf;rw[ht]
  obtain⟨j,rfl,hj,hFj⟩:=shAt_ix ht
  obtain⟨b,vs,own,mv,nm,g1,g2,g3,g4,g5,g6,g7,g8⟩:=hF.get hFj
  obtain⟨hnd,hl12⟩:=hF.ok.names j t.1 t.2 hFj
  have hle:=hF.le
  have w1:IntKind.i64.wrap (((j+1:Nat):Int) - 1)=(j:Int):=by rw[wrap_i64 (by omega)];omega
  have hkk:(0:Int)≤(j:Int)∧(j:Int)<(F.length:Int):=by omega
  obtain⟨a,c,rfl⟩:=g5.form
  by_cases h12:(12:Int)≤(t.2.reverse.length:Int)
  ·have h12':12≤t.2.length:=by simp at h12;omega
   rw[if_pos (.inl h12'),if_pos (.inl h12')]at hR
   simp -implicitDefEqProofs only[↓Zd,(Zp),simprocAttr,cld2,(HEx),(REx),g1,g2,g4,w1,hkk,h12]
   exact hR _ O hF .refl (fun _ _ _ h=>h)
  ·have h12':¬ 12≤t.2.length:=by simp at h12;omega
   simp -implicitDefEqProofs only[↓Zd,(Zp),simprocAttr,cld2,(HEx),(REx),g1,g2,g4,w1,hkk,h12,co134]
   refine rfslot_spec hF hi ?_
   rw[hno]
   by_cases hx:(0:Int)≤slotL t.2 x
   ·have hm:x∈t.2:=by
     by_cases hm:x∈t.2
     ·exact hm
     ·have:=(slotL_neg t.2 x).2 hm;omega
    rw[if_pos (.inr hm),if_pos (.inr hm)]at hR
    simp -implicitDefEqProofs only[↓Zd,(Zp),simprocAttr,(HEx),hx]
    exact hR _ O hF .refl (fun _ _ _ h=>h)
   ·have hm:x ∉ t.2:=(slotL_neg t.2 x).1 (by omega)
    have hor:¬ (12≤t.2.length∨x∈t.2):=by rintro (g|g);exact h12' g;exact hm g
    rw[if_neg hor,if_neg hor]at hR
    have hpn:=(hF.own p hF.pin).2
    have hbn:=(hF.own b g7).2
    have hpne:¬ p=s.next:=by omega
    have hbne:¬ b=s.next:=by omega
    simp -implicitDefEqProofs only[↓Zd,(Zp),simprocAttr,cld2,(HEx),(REx),hx,g1,g2,g4,w1,hkk,row0,hpne,hbne]
    have hv1:SlI (s.new (.cells [] 3 true)) (.slice a t.2.reverse.length c) t.2.reverse:=g5.same fun q n c e=>by
     have:=(hF.own _ (g6 q n c e)).2
     rw[St.at_new,if_neg (by omega)]
    refine wch_copy_ints (e:=s.next) (by rw[St.at_new,if_pos rfl]) (by simp only[St.next_new];omega) hv1 (by simp;omega) fun s2 v2 hn2 hk2 hs2 hf2=>?_
    simp only[St.next_new]at hn2 hk2 hf2
    have hold2:∀ c,c<s.next→s2.at' c=s.at' c:=fun c hc=>by rw[hk2 c (by omega) (by omega),St.at_new,if_neg (by omega)]
    have g12:=(hold2 p hpn).trans g1
    have g22:=(hold2 b hbn).trans g2
    have hF2:RFAt lo s2 p F most O:=hF.same (by omega) fun c hc=>hold2 c (hF.own c hc).2
    obtain⟨a2,c2,rfl⟩:∃ a c,v2 = .slice a t.2.reverse.length c:=by
     rcases hs2 with ⟨e1,_,rfl⟩|⟨b2,c2,rfl,_⟩
     ·exact⟨none,0,by rw[e1]⟩
     ·exact⟨_,_,rfl⟩
    have g30:vs[j*2+0]?=some (.int .i64 ((t.1:Nat):Int)):=g3
    simp -implicitDefEqProofs only[↓Zd,(Zp),simprocAttr,cld2,(HEx),(REx),g12,g22,g30,w1,hkk,rowInt,ord137]
    refine wch_app_intC (l:=t.2.reverse) (x:=x) (by simp;omega) hs2 (fun q m c e=>(hf2 q m c e).2) fun s3 hn3 hb3 hk3=>?_
    have hold3:∀ c,c<s.next→s3.at' c=s.at' c:=fun c hc=>by
     rw[hk3 c (by omega) (fun q m k e e2=>by rcases (hf2 q m k e).1 with h|h<;>omega),hold2 c hc]
    have g13:=(hold3 p hpn).trans g1
    have g23:=(hold3 b hbn).trans g2
    have hF3:RFAt lo s3 p F most O:=hF.same (by omega) fun c hc=>hold3 c (hF.own c hc).2
    simp -implicitDefEqProofs only[↓Zd,(Zp),simprocAttr,cld2,(HEx),(REx),g13,g23,g30,bShape,co132]
    have hl:(x::t.2).reverse=t.2.reverse ++ [x]:=List.reverse_cons
    refine rof_spec (l:=x::t.2) hF3 (by omega) (by rw[hl];exact .inr ⟨s2.next+1,[],by simp,by rw[hb3,List.append_nil],by rw[ints_len];simp⟩) (fun q n c e=>by cases e;exact⟨by show lo≤s2.next+1;omega,by show s2.next+1<s3.next;omega,fun hc=>by have:=(hF.own _ hc).2;simp only at this;omega⟩) (List.nodup_cons.2 ⟨hm,hnd⟩) (by simp only[List.length_cons];omega) (fun y r e=>by cases e;exact List.mem_of_getElem? hFj) fun s4 O4 hF4 hn4 hk4 ho4 hm4=>?_
    simp -implicitDefEqProofs only[↓Zd,(Zp),simprocAttr,(HEx)]
    refine hR _ O4 hF4 ⟨by omega,fun c hc hno=>by rw[hk4 c (by omega) hno,hold3 c hc],fun c hc=>?_⟩ (fun i v hi hv=>hm4 i v hi (hv.same hF fun c hc=>hold3 c (hF.own c hc).2))
    rcases ho4 c hc with h|h|⟨q,n,k,e,rfl⟩
    ·exact .inl h
    ·exact .inr (by omega)
    ·cases e
     exact .inr (by show s.next≤s2.next+1;omega)
theorem moveL_zero(most:Nat):∀ (xs:List Nat) (F:List Sh),moveL most xs F 0=(F,0):=by
 intro xs
 induction xs with
 |nil=>intro F;rfl
 |cons x r ih =>
  intro F
  have h0:shAt F ((0:Nat):Int)=none:=shAt_out (by omega)
  have h1:addF F most ((0:Nat):Int) x=F:=by unfold addF;rw[h0]
  have h2:addN F most ((0:Nat):Int) x=0:=by unfold addN;rw[h0]
  show moveL most r (addF F most ((0:Nat):Int) x) (addN F most ((0:Nat):Int) x)=_
  rw[h1,h2,ih]
theorem rfmove_spec{i:Int}{q:Nat}(hF:RFAt lo s p F most O)(hlo:lo≤s.next)(hi : -9223372036854775808≤i∧i≤9223372036854775807)
  (hR:∀ s' O',RFAt lo s' p (moveF F most i q) most O'→Upd s s' O O'→R (.int .i64 (moveN F most i q:Int)) s'):QC prog w0 101 #[.pointer (some ⟨p,0,none⟩),.int .i64 i,.int .i64 (q:Int)] s R:=by
 refine wfun2 hmix ok101 func101 rfl ntmps101 results101 (by simp) ?_
 simp -implicitDefEqProofs only[↓Zd,(Zp),simprocAttr,co136]
 refine rfhas_spec hF ?_
 cases ht:shAt F i with
 |none =>
  have hf:moveF F most i q=F:=by unfold moveF;rw[ht]
  have hg:moveN F most i q=0:=by unfold moveN;rw[ht]
  rw[hf,hg]at hR
  simp -implicitDefEqProofs only[↓Zd,(Zp),simprocAttr,(HEx)]
  exact hR _ O hF .refl
 |some t =>
  have hf:moveF F most i q=(moveL most t.2.reverse (growF F most (q,[])) (growN F most (q,[]))).1:=by unfold moveF;rw[ht]
  have hg:moveN F most i q=(moveL most t.2.reverse (growF F most (q,[])) (growN F most (q,[]))).2:=by unfold moveN;rw[ht]
  rw[hf,hg]at hR
  obtain⟨j,rfl,hj,hFj⟩:=shAt_ix ht
  obtain⟨b,vs,own,mv,nm,g1,g2,g3,g4,g5,g6,g7,g8⟩:=hF.get hFj
  obtain⟨hnd,hl12⟩:=hF.ok.names j t.1 t.2 hFj
  have hle:=hF.le
  have w1:IntKind.i64.wrap (((j+1:Nat):Int) - 1)=(j:Int):=by rw[wrap_i64 (by omega)];omega
  have hkk:(0:Int)≤(j:Int)∧(j:Int)<(F.length:Int):=by omega
  obtain⟨a,c,rfl⟩:=g5.form
  simp -implicitDefEqProofs only[↓Zd,(Zp),simprocAttr,cld2,(HEx),(REx),g1,g2,g4,w1,hkk,co85]
  refine rroot_spec hF hlo fun s1 O1 hF1 hU1 hm1=>?_
  have hn1:=hU1.next
  have hg150:=growN_le (q,[]) hle
  have hl12r:t.2.reverse.length≤12:=by simp;exact hl12
  simp -implicitDefEqProofs only[↓Zd,(Zp),simprocAttr,(HEx)]
  refine wloop_inv hmix (fun fuel env s3=>∃ (k u:Nat) (F3:List Sh) (O3:Nat→Prop),fuel=t.2.reverse.length - k∧k≤t.2.reverse.length∧env 9 = .int .i64 (k:Int)∧env 8 = .int .i64 (u:Int)∧env 7 = .slice a t.2.reverse.length c∧env 0 = .pointer (some ⟨p,0,none⟩)∧u≤150∧RFAt lo s3 p F3 most O3∧Upd s s3 O O3∧NmOf s3 p j (.slice a t.2.reverse.length c)∧F3[j]?=some t ∧
   moveL most (t.2.reverse.drop k) F3 u=moveL most t.2.reverse (growF F most (q,[])) (growN F most (q,[]))) t.2.reverse.length ⟨0,growN F most (q,[]),growF F most (q,[]),O1,rfl,by omega,rfl,rfl,rfl,rfl,hg150,hF1,hU1,hm1 _ _ hj g8,growF_pre hFj,rfl⟩ ?_
  rintro fuel env s3 ⟨k,u,F3,O3,rfl,hk,e9,e8,e7,e0,hu,hF3,hU3,hnm3,hFj3,hmv⟩
  have hfin:t.2.reverse.length≤k∨u=0→R (.int .i64 (u:Int)) s3:=fun hd=>by
   have hmv2:moveL most (t.2.reverse.drop k) F3 u=(F3,u):=by
    rcases hd with h|h
    ·rw[List.drop_eq_nil_of_le h];rfl
    ·rw[h];exact moveL_zero _ _ _
   rw[hmv2]at hmv
   rw[← hmv]at hR
   exact hR _ O3 hF3 hU3
  by_cases hkl:(k:Int)<(t.2.reverse.length:Int)
  ·by_cases hu0:(0:Int)<(u:Int)
   ·obtain⟨gs,_⟩:=hF3.nm hFj3 hnm3
    obtain⟨bb,vv,oo,eb,hbb,hgb⟩:=gs.get (k:=k) (by omega)
    cases eb
    have hk1:(0:Int)≤(k:Int)∧(k:Int)<(t.2.reverse.length:Int):=by omega
    have wk:IntKind.i64.wrap ((k:Int)+1)=((k+1:Nat):Int):=by rw[wrap_i64 (by omega)];omega
    simp -implicitDefEqProofs only[↓Zd,(Zp),simprocAttr,cld2,(HEx),(REx),e9,e8,e7,e0,hkl,hu0,hk1,hbb,hgb,co137]
    refine rfadd_spec (i:=(u:Int)) hF3 (by have:=hU3.next;omega) (by omega) fun s4 O4 hF4 hU4 hm4=>?_
    have hle3:=hF3.le
    simp -implicitDefEqProofs only[↓Zd,(Zp),simprocAttr,(HEx),e9,e7,e0,wk]
    refine⟨t.2.reverse.length - (k+1),by omega,k+1,addN F3 most (u:Int) (t.2.reverse[k]'(by omega)),addF F3 most (u:Int) (t.2.reverse[k]'(by omega)),O4,rfl,by omega,rfl,rfl,addN_le _ _ hle3,hF4,hU3.trans hU4,hm4 _ _ (List.getElem?_eq_some_iff.1 hFj3).1 hnm3,addF_get hFj3,?_⟩
    rw[← hmv]
    have:t.2.reverse.drop k=t.2.reverse[k]'(by omega)::t.2.reverse.drop (k+1):=List.drop_eq_getElem_cons (by omega)
    rw[this];rfl
   ·simp -implicitDefEqProofs only[↓Zd,(Zp),simprocAttr,(REx),e9,e8,e7,hkl,hu0]
    exact hfin (.inr (by omega))
  ·simp -implicitDefEqProofs only[↓Zd,(Zp),simprocAttr,(REx),e9,e8,e7,hkl]
   exact hfin (.inl (by omega))
end
section
variable {lo p most:Nat}{F:List Sh}{O:Nat→Prop}
end
theorem idx_drop:∀ (T:List ByteArray) (x:ByteArray) (i:Nat),(∀ j,j<i→T[j]?≠some x)→idxOf T x=(idxOf (T.drop i) x).map (·+i):=by
 intro T;induction T with
 |nil=>intro x i _;simp[idxOf]
 |cons y T ih =>
  intro x i h
  cases i with
  |zero=>simp
  |succ i =>
   have h0:¬ y=x:=by have:=h 0 (by omega);simpa using this
   rw[idxOf,if_neg h0,ih x i (fun j hj=>by have:=h (j+1) (by omega);simpa using this),List.drop_succ_cons]
   cases idxOf (T.drop i) x with
   |none=>rfl
   |some j=>simp;omega
theorem idx_pos{T:List ByteArray}{x:ByteArray}{i:Nat}(hlt:i<T.length)(hno:∀ j,j<i→T[j]?≠some x)(he:T[i]=x):idxOf T x=some i:=by
 rw[idx_drop T x i hno,List.drop_eq_getElem_cons hlt,idxOf,if_pos he];simp
theorem idx_end{T:List ByteArray}{x:ByteArray}{i:Nat}(hlt:¬ i<T.length)(hno:∀ j,j<i→T[j]?≠some x):idxOf T x=none:=by
 rw[idx_drop T x i hno,List.drop_eq_nil_of_le (by omega)];rfl
theorem no_more{T:List ByteArray}{x:ByteArray}{i:Nat}(hlt:i<T.length)(hno:∀ j,j<i→T[j]?≠some x)(he:¬ T[i]=x):∀ j,j<i+1→T[j]?≠some x:=by
 intro j hj
 rcases Nat.lt_or_ge j i with h'|h'
 ·exact hno j h'
 ·have:j=i:=by omega
  subst this
  simp[hlt,he]
section
theorem slc_form{e:TypeId}{sz:Nat}{v:Value}{cs:List Value}{n:Nat}(h:SlC e sz s v cs n):∃ a c,v = .slice a n c:=by
 rcases h with ⟨e,_,rfl⟩|⟨b,c,rfl,_⟩
 ·exact⟨none,0,by rw[e]⟩
 ·exact⟨_,_,rfl⟩
theorem slc_str{v:Value}{T:List ByteArray}(h:SlC 9 1 s v (T.map .string) T.length){k:Nat}(hk:k<T.length):∃ b c,v = .slice (some ⟨b,0,none⟩) T.length c∧s.at' b=some (.cells (T.map .string) 9 true)∧(T.map Value.string)[k]?=some (.string T[k]):=by
 rcases h with ⟨e,_,rfl⟩|⟨b,c,rfl,_,h9,_⟩
 ·omega
 ·exact⟨b,c,rfl,h9,by simp[hk]⟩
theorem rtfind_spec{p:Nat}{T:List ByteArray}{x:ByteArray}{a b c d sl:Value}(hlen:T.length≤1000000)(h3:s.at' p=some (.cells [a,b,c,d,sl] 81 true))(h7:SlC 9 1 s sl (T.map .string) T.length)
  (h:R (match idxOf T x with|some j => .tuple #[.int .i64 ((j+1:Nat):Int),.bool true]|none => .tuple #[.int .i64 0,.bool false]) s) :
  QC prog w0 133 #[.pointer (some ⟨p,4,none⟩),.string x] s R:=by
 refine wfun2 hmix ok133 func133 rfl ntmps133 results133 (by simp) ?_
 obtain⟨q,cap,rfl⟩:=slc_form h7
 simp -implicitDefEqProofs only[↓Zd,(Zp),simprocAttr]
 refine wloop_inv hmix (fun fuel env s'=>∃ i:Nat,fuel=T.length - i∧i≤T.length∧env 6 = .int .i64 (i:Int)∧env 0 = .pointer (some ⟨p,4,none⟩)∧env 1 = .string x∧s'=s∧∀ j,j<i→T[j]?≠some x) T.length ⟨0,rfl,by omega,rfl,rfl,rfl,rfl,fun j hj=>by omega⟩ ?_
 rintro fuel env s' ⟨i,rfl,hi,e6,e0,e1,rfl,hno⟩
 by_cases hlt:(i:Int)<(T.length:Int)
 ·have hlt0:i<T.length:=by omega
  have hk:(0:Int)≤(i:Int)∧(i:Int)<(T.length:Int):=by omega
  have w7:IntKind.i64.wrap ((i:Int)+1)=((i+1:Nat):Int):=by rw[wrap_i64 (by omega)];omega
  obtain⟨bb,cc,eb,h9,hx⟩:=slc_str h7 (k:=i) hlt0
  cases eb
  by_cases he:T[i]=x
  ·rw[idx_pos hlt0 hno he]at h
   simp -implicitDefEqProofs only[↓Zd,(Zp),simprocAttr,cld2,(HEx),(REx),e0,e1,e6,h3,h9,hlt,hk,hx,he,w7]
   exact h
  ·simp -implicitDefEqProofs only[↓Zd,(Zp),Zr,simprocAttr,cld2,(HEx),(REx),e0,e1,e6,h3,h9,hlt,hk,hx,he,w7]
   exact⟨T.length - (i+1),by omega,i+1,rfl,by omega,rfl,no_more hlt0 hno he⟩
 ·rw[idx_end (by omega) hno]at h
  simp -implicitDefEqProofs only[↓Zd,(Zp),simprocAttr,cld2,(REx),e0,e6,h3,hlt]
  exact h
theorem rtof_spec{p:Nat}{T:List ByteArray}{x:ByteArray}{a b c d sl:Value}(hp:p<s.next)(hlen:T.length≤1000000)(h3:s.at' p=some (.cells [a,b,c,d,sl] 81 true))(h7:SlC 9 1 s sl (T.map .string) T.length)(h8:∀ q n c,sl = .slice (some q) n c→q.block<s.next∧q.block≠p)
  (h:∀ s' sl',s'.at' p=some (.cells [a,b,c,d,sl'] 81 true)→SlC 9 1 s' sl' ((ofT T x).map .string) (ofT T x).length→s.next≤s'.next→(∀ b,b<s.next→b≠p→(∀ q n c,sl = .slice (some q) n c→b≠q.block)→s'.at' b=s.at' b) →
   (∀ q n c,sl' = .slice (some q) n c→sl=sl'∨(s.next≤q.block∧q.block<s'.next))→R (.int .i64 (ofI T x:Int)) s') :
  QC prog w0 138 #[.pointer (some ⟨p,4,none⟩),.string x] s R:=by
 refine wfun2 hmix ok138 func138 rfl ntmps138 results138 (by simp) ?_
 simp -implicitDefEqProofs only[↓Zd,(Zp),simprocAttr,co133]
 refine rtfind_spec hlen h3 h7 ?_
 cases hi:idxOf T x with
 |some j =>
  have e1:ofI T x=j+1:=by unfold ofI;rw[hi]
  rw[ofT_some hi,e1]at h
  simp -implicitDefEqProofs only[↓Zd,(Zp),simprocAttr,(HEx)]
  exact h s _ h3 h7 (Nat.le_refl _) (fun _ _ _ _=>rfl) (fun q n c e => .inl rfl)
 |none =>
  have e1:ofI T x=T.length+1:=by unfold ofI;rw[hi]
  rw[ofT_none hi,e1]at h
  obtain⟨s3,happ,hn3,hat3,hk3⟩:=app_str (x:=x) (by omega) h7 (fun q n c e=>(h8 q n c e).1)
  have hp3:s3.at' p=some (.cells [a,b,c,d,sl] 81 true):=by rw[hk3 p hp (fun q n c e=>(h8 q n c e).2.symm)];exact h3
  simp -implicitDefEqProofs only[↓Zd,(Zp),simprocAttr,qP,Value.cells,qC,cld2,(HEx),(REx),h3,rowStr,happ,hp3]
  refine h _ (.slice (some ⟨s.next+1,0,none⟩) (T.length+1) UNK) ?_ ?_ ?_ ?_ ?_
  ·rw[St.at_put,if_pos rfl]
  ·refine .inr ⟨s.next+1,UNK,by simp,.inl rfl,?_,by simp⟩
   rw[St.at_put,if_neg (by omega)]
   exact hat3
  ·simp only[St.next_put];omega
  ·intro b hb hbp hq
   rw[St.at_put,if_neg hbp]
   exact hk3 b hb hq
  ·intro q n c e
   cases e
   exact .inr ⟨by show s.next≤s.next+1;omega,by show s.next+1<_;simp only[St.next_put];omega⟩
end
def atT(T:List ByteArray)(x:ByteArray):Int:=match idxOf T x with
 |some j=>(j:Int)
 |none => -1
def keysP(L:List (ByteArray×V3)):List ByteArray:=L.map (·.1)
theorem keysP_len(L:List (ByteArray×V3)):(keysP L).length=L.length:=by simp[keysP]
theorem getP_at:∀ {L:List (ByteArray×V3)}{x:ByteArray}{j:Nat},idxOf (keysP L) x=some j→∃ v,L[j]?=some (x,v)∧getP L x=some v:=by
 intro L
 induction L with
 |nil=>intro x j h;cases h
 |cons p L ih =>
  intro x j h
  obtain⟨y,w⟩:=p
  have h:(if y=x then some 0 else (idxOf (keysP L) x).map (·+1))=some j:=h
  unfold getP
  by_cases e:y=x
  ·rw[if_pos e]at h
   cases h
   rw[if_pos e]
   exact⟨w,by simp[e],rfl⟩
  ·rw[if_neg e]at h
   rw[if_neg e]
   obtain⟨k,hk,rfl⟩:=Option.map_eq_some_iff.1 h
   obtain⟨v,h1,h2⟩:=ih hk
   exact⟨v,by simpa using h1,h2⟩
theorem getP_no{L:List (ByteArray×V3)}{x:ByteArray}(h:idxOf (keysP L) x=none):getP L x=none:=getP_none.2 (idx_none h)
section
structure ROb(s:St M)(b:Nat)(L:List (ByteArray×V3))(a e f ns vs:Value):Prop where
 bl:s.at' b=some (.cells [a,ns,vs,e,f] 167 true)
 nm:SlC 9 1 s ns ((keysP L).map .string) (keysP L).length
 vl:SlU 36 3 s vs (valsC L) L.length
 few:L.length≤1000
theorem ROb.same{s':St M}{b:Nat}{L:List (ByteArray×V3)}{a e f ns vs:Value}(h:ROb s b L a e f ns vs)(h1:s'.at' b=s.at' b)(h2:∀ q n c,ns = .slice (some q) n c→s'.at' q.block=s.at' q.block)(h3:∀ q n c,vs = .slice (some q) n c→s'.at' q.block=s.at' q.block):ROb s' b L a e f ns vs:=
 ⟨h1.trans h.bl,h.nm.same h2,h.vl.same h3,h.few⟩
structure RFr(s:St M)(b:Nat)(ns vs:Value):Prop where
 bn:b<s.next
 n:∀ q n c,ns = .slice (some q) n c→q.block<s.next∧q.block≠b
 v:∀ q n c,vs = .slice (some q) n c→q.block<s.next∧q.block≠b
 nv:∀ q n c q' n' c',ns = .slice (some q) n c→vs = .slice (some q') n' c'→q.block≠q'.block
theorem ROb.le{s':St M}{b:Nat}{L:List (ByteArray×V3)}{a e f ns vs:Value}(h:ROb s b L a e f ns vs)(hf:RFr s b ns vs)(hs:s.le s'):ROb s' b L a e f ns vs:=
 h.same (hs.2 _ hf.bn) (fun q n c e=>hs.2 _ (hf.n q n c e).1) (fun q n c e=>hs.2 _ (hf.v q n c e).1)
theorem ROb.vform{b:Nat}{L:List (ByteArray×V3)}{a e f ns vs:Value}(h:ROb s b L a e f ns vs):∃ q c,vs = .slice q L.length c:=by
 rcases h.vl with ⟨e0,_,rfl⟩|⟨b,_,rfl,_⟩
 ·exact⟨none,0,by rw[e0]⟩
 ·exact⟨_,_,rfl⟩
theorem rdat_spec{b:Nat}{L:List (ByteArray×V3)}{x:ByteArray}{a e f ns vs:Value}(ho:ROb s b L a e f ns vs)(h:R (.int .i64 (atT (keysP L) x)) s) :
  QC prog w0 135 #[.pointer (some ⟨b,1,none⟩),.string x] s R:=by
 refine wfun2 hmix ok135 func135 rfl ntmps135 results135 (by simp) ?_
 obtain⟨h3,h7,h8,h9⟩:=ho
 have hlen:(keysP L).length≤1000:=by rw[keysP_len];exact h9
 generalize keysP L=T at *
 obtain⟨q,cap,rfl⟩:=slc_form h7
 unfold atT at h
 simp -implicitDefEqProofs only[↓Zd,(Zp),simprocAttr]
 refine wloop_inv hmix (fun fuel env s'=>∃ i:Nat,fuel=T.length - i∧i≤T.length∧env 5 = .int .i64 (i:Int)∧env 0 = .pointer (some ⟨b,1,none⟩)∧env 1 = .string x∧s'=s∧∀ j,j<i→T[j]?≠some x) T.length ⟨0,rfl,by omega,rfl,rfl,rfl,rfl,fun j hj=>by omega⟩ ?_
 rintro fuel env s' ⟨i,rfl,hi,e5,e0,e1,rfl,hno⟩
 by_cases hlt:(i:Int)<(T.length:Int)
 ·have hlt0:i<T.length:=by omega
  have hk:(0:Int)≤(i:Int)∧(i:Int)<(T.length:Int):=by omega
  have w7:IntKind.i64.wrap ((i:Int)+1)=((i+1:Nat):Int):=by rw[wrap_i64 (by omega)];omega
  obtain⟨bb,cc,eb,h9,hx⟩:=slc_str h7 (k:=i) hlt0
  cases eb
  by_cases he:T[i]=x
  ·rw[idx_pos hlt0 hno he]at h
   simp -implicitDefEqProofs only[↓Zd,(Zp),simprocAttr,cld2,(HEx),(REx),e0,e1,e5,h3,h9,hlt,hk,hx,he]
   exact h
  ·simp -implicitDefEqProofs only[↓Zd,(Zp),Zr,simprocAttr,cld2,(HEx),(REx),e0,e1,e5,h3,h9,hlt,hk,hx,he,w7]
   exact⟨T.length - (i+1),by omega,i+1,rfl,by omega,rfl,no_more hlt0 hno he⟩
 ·rw[idx_end (by omega) hno]at h
  simp -implicitDefEqProofs only[↓Zd,(Zp),simprocAttr,cld2,(REx),e0,e5,h3,hlt]
  exact h
theorem rdget_spec{b:Nat}{L:List (ByteArray×V3)}{x:ByteArray}{a e f ns vs:Value}(ho:ROb s b L a e f ns vs)(hf:RFr s b ns vs)(h:∀ s',s.le s'→R (gotV (getP L x)) s') :
  QC prog w0 95 #[.pointer (some ⟨b,1,none⟩),.string x] s R:=by
 refine wfun2 hmix ok95 func95 rfl ntmps95 results95 (by simp) ?_
 have l1:s.le (s.new (.cells [.int .i64 0,.int .i64 0,.string ⟨#[]⟩] 36 true)):=lN (lR _)
 simp -implicitDefEqProofs only[↓Zd,(Zp),simprocAttr,Value.cells,(HEx),co135]
 refine rdat_spec (ho.le hf l1) ?_
 cases hi:idxOf (keysP L) x with
 |none =>
  rw[getP_no hi]at h
  unfold gotV at h
  have e1:atT (keysP L) x = -1:=by unfold atT;rw[hi]
  rw[e1]
  simp -implicitDefEqProofs only[↓Zd,(Zp),simprocAttr,qP,Value.cells,cut,qC,cld2,(HEx)]
  exact h _ (by repeat (first|exact lR _|assumption|refine lN ?_|refine lP ?_ (by first|omega|(simp only[(Sn)];omega))|refine lT ?_ (by assumption)))
 |some j =>
  obtain⟨⟨k,n,y⟩,hj,hg⟩:=getP_at hi
  rw[hg]at h
  simp only[gotV,vOf,vA]at h
  have e1:atT (keysP L) x=(j:Int):=by unfold atT;rw[hi]
  rw[e1]
  have hlt:=(List.getElem?_eq_some_iff.1 hj).1
  have hk:(0:Int)≤(j:Int)∧(j:Int)<(L.length:Int):=by omega
  have hn:¬ (j:Int)<0:=by omega
  have h1:=ho.bl
  have hbn:¬ b=s.next:=by have:=hf.bn;omega
  rcases ho.vl with ⟨e0,_⟩|⟨b2,junk,rfl,hb2,_⟩
  ·omega
  have hb2n:¬ b2=s.next:=by have:=(hf.v _ _ _ rfl).1;simp only at this;omega
  obtain⟨c1,c2⟩:=valsC_cut L j _ _ junk hj
  simp -implicitDefEqProofs only[↓Zd,(Zp),simprocAttr,qP,Value.cells,cut,qC,cld2,(HEx),(REx),h1,hbn,hn,hk,hb2,hb2n,c1,c2]
  exact h _ (by repeat (first|exact lR _|assumption|refine lN ?_|refine lP ?_ (by first|omega|(simp only[(Sn)];omega))|refine lT ?_ (by assumption)))
end
def Hang(b:Nat)(ns vs:Value)(c:Nat):Prop:=c=b∨(∃ q n k,ns = .slice (some q) n k∧c=q.block)∨(∃ q n k,vs = .slice (some q) n k∧c=q.block)
section
theorem RFr.lt{b:Nat}{ns vs:Value}(h:RFr s b ns vs):∀ c,Hang b ns vs c→c<s.next:=by
 rintro c (rfl|⟨q,n,k,e,rfl⟩|⟨q,n,k,e,rfl⟩)
 ·exact h.bn
 ·exact (h.n _ _ _ e).1
 ·exact (h.v _ _ _ e).1
theorem RFr.le{s':St M}{b:Nat}{ns vs:Value}(h:RFr s b ns vs)(hn:s.next≤s'.next):RFr s' b ns vs:=
 ⟨by have:=h.bn;omega,fun q n c e=>⟨by have:=(h.n q n c e).1;omega,(h.n q n c e).2⟩,fun q n c e=>⟨by have:=(h.v q n c e).1;omega,(h.v q n c e).2⟩,h.nv⟩
theorem rdset_spec{b:Nat}{L:List (ByteArray×V3)}{x:ByteArray}{k n:Int}{y:ByteArray}{a e f ns vs:Value}(ho:ROb s b L a e f ns vs)(hf:RFr s b ns vs)(hnd:(L.map (·.1)).Nodup)(hfew:L.length<1000)
  (h:∀ s' ns' vs',ROb s' b (setP L x (k,n,y)) a e f ns' vs'→RFr s' b ns' vs'→Upd s s' (Hang b ns vs) (Hang b ns' vs')→R (.bool (getP L x).isNone) s') :
  QC prog w0 97 #[.pointer (some ⟨b,1,none⟩),.string x,vA k n y] s R:=by
 refine wfun2 hmix ok97 func97 rfl ntmps97 results97 (by simp) ?_
 have l1:s.le (s.new (.cells [.int .i64 k,.int .i64 n,.string y] 36 true)):=lN (lR _)
 have ho1:=ho.le hf l1
 have c7:(s.new (.cells [.int .i64 k,.int .i64 n,.string y] 36 true)).at' s.next=some (.cells [.int .i64 k,.int .i64 n,.string y] 36 true):=by rw[St.at_new,if_pos rfl]
 have n7:(s.new (.cells [.int .i64 k,.int .i64 n,.string y] 36 true)).next=s.next+1:=by simp
 simp -implicitDefEqProofs only[↓Zd,(Zp),simprocAttr,qP,Value.cells,(HEx),vA,co135]
 refine rdat_spec ho1 ?_
 generalize s.new (.cells [.int .i64 k,.int .i64 n,.string y] 36 true)=s1 at *
 have hf1:=hf.le l1.1
 cases hi:idxOf (keysP L) x with
 |some j =>
  obtain⟨w,hj,hg⟩:=getP_at hi
  rw[hg,setP_some hnd hj]at h
  have e1:atT (keysP L) x=(j:Int):=by unfold atT;rw[hi]
  rw[e1]
  have hlt:=(List.getElem?_eq_some_iff.1 hj).1
  have hk:(0:Int)≤(j:Int)∧(j:Int)<(L.length:Int):=by omega
  have hn:(0:Int)≤(j:Int):=by omega
  have h1:=ho1.bl
  have ho1':=ho1
  rcases ho1.vl with ⟨e0,_⟩|⟨b2,junk,rfl,hb2,hl2⟩
  ·omega
  obtain⟨g1,g2⟩:=hf.v _ _ _ rfl
  simp only at g1 g2
  have hset:=valsC_set L j x (k,n,y) _ junk hj
  obtain⟨c1,c2⟩:=valsC_cut L j _ _ junk hj
  have hne:¬ b2=s.next:=by omega
  simp -implicitDefEqProofs only[↓Zd,(Zp),simprocAttr,qP,Value.cells,cut,qC,cld2,(HEx),(REx),vA,h1,hn,hk,hb2,c1,c7,hset,ord97]
  refine h _ ns (.slice (some ⟨b2,0,none⟩) L.length UNK) ⟨?_,?_,?_,?_⟩ (hf1.le (Nat.le_refl _)) ⟨?_,fun c hc ho=>?_,fun c hc => .inl hc⟩
  ·rw[St.at_put,if_neg (fun e=>g2 e.symm)];exact h1
  ·have hke:keysP (L.set j (x,k,n,y))=keysP L:=keys_set hj
   rw[hke]
   exact ho1.nm.same fun q m c e=>by rw[St.at_put,if_neg (fun e2=>hf.nv _ _ _ _ _ _ e rfl e2)]
  ·rw[List.length_set]
   refine .inr ⟨b2,junk,rfl,?_,?_⟩
   ·rw[St.at_put,if_pos rfl]
   ·rw[valsC_len,List.length_set]
  ·rw[List.length_set];exact ho.few
  ·simp only[St.next_put];omega
  ·rw[St.at_put,if_neg (fun e=>ho (.inr (.inr ⟨_,_,_,rfl,e⟩)))]
   exact l1.2 c hc
 |none =>
  rw[getP_no hi,setP_none _ _ _ (getP_no hi)]at h
  have e1:atT (keysP L) x = -1:=by unfold atT;rw[hi]
  rw[e1]
  have h1:=ho1.bl
  have hkl:=keysP_len L
  obtain⟨s3,happ,hn3,hat3,hk3⟩:=app_str (x:=x) (by omega) ho1.nm (fun q n c e=>(hf1.n q n c e).1)
  have hb3:s3.at' b=some (.cells [a,ns,vs,e,f] 167 true):=by rw[hk3 b hf1.bn (fun q n c e=>(hf.n q n c e).2.symm)];exact h1
  have c73:s3.at' s.next=some (.cells [.int .i64 k,.int .i64 n,.string y] 36 true):=by rw[hk3 _ (by omega) (fun q n c e e2=>by have:=(hf.n q n c e).1;omega)];exact c7
  have hbn:=hf.bn
  have hbne:¬ s.next=b:=by omega
  simp -implicitDefEqProofs only[↓Zd,(Zp),simprocAttr,qP,Value.cells,cut,qC,cld2,(HEx),(REx),vA,h1,rowStr,happ,hb3,c73,hbne,rowVal,ord97]
  have hv3:SlU 36 3 (s3.put b (.cells [a,.slice (some ⟨s1.next+1,0,none⟩) ((keysP L).length+1) UNK,vs,e,f] 167 true)) vs (valsC L) L.length:=ho1.vl.same fun q m c e=>by
   rw[St.at_put,if_neg (hf1.v q m c e).2,hk3 _ (hf1.v q m c e).1 (fun q' m' c' e' e2=>hf.nv _ _ _ _ _ _ e' e e2.symm)]
  have hput:(s3.put b (.cells [a,.slice (some ⟨s1.next+1,0,none⟩) ((keysP L).length+1) UNK,vs,e,f] 167 true)).next=s3.next:=by simp
  refine wch_app_val (by omega) hv3 (fun q m c e=>by have:=(hf1.v q m c e).1;rw[hput];omega) fun s5 hn5 hat5 hk5=>?_
  rw[hput]at hn5 hat5 hk5
  have hb5:s5.at' b=some (.cells [a,.slice (some ⟨s1.next+1,0,none⟩) ((keysP L).length+1) UNK,vs,e,f] 167 true):=by
   rw[hk5 b (by omega) (fun q m c e=>(hf.v q m c e).2.symm),St.at_put,if_pos rfl]
  have hold:∀ c,c<s1.next→c≠b→(∀ q m k,ns = .slice (some q) m k→c≠q.block)→(∀ q m k,vs = .slice (some q) m k→c≠q.block)→s5.at' c=s1.at' c:=fun c hc h1 h2 h3=>by
   rw[hk5 c (by omega) h3,St.at_put,if_neg h1,hk3 c hc h2]
  have hns5:s5.at' (s1.next+1)=some (.cells (List.map Value.string (keysP L ++ [x])) 9 true):=by
   rw[hk5 _ (by omega) (fun q m c e e2=>by have:=(hf1.v q m c e).1;omega),St.at_put,if_neg (by omega),hat3]
  simp -implicitDefEqProofs only[↓Zd,(Zp),simprocAttr,qP,Value.cells,qC,(HEx),(REx),hb5]
  have hke:keysP (L ++ [(x,k,n,y)])=keysP L ++ [x]:=by simp[keysP]
  refine h _ (.slice (some ⟨s1.next+1,0,none⟩) ((keysP L).length+1) UNK) (.slice (some ⟨s3.next+1,0,none⟩) (L.length+1) UNK) ⟨?_,?_,?_,?_⟩ ⟨?_,fun q m c e=>?_,fun q m c e=>?_,fun q m c q' m' c' e e'=>?_⟩ ⟨?_,fun c hc ho=>?_,fun c hc=>?_⟩
  ·rw[St.at_put,if_pos rfl]
  ·rw[hke]
   refine .inr ⟨s1.next+1,UNK,by simp,.inl rfl,?_,by simp⟩
   rw[St.at_put,if_neg (by omega)]
   exact hns5
  ·rw[List.length_append]
   refine .inr ⟨s3.next+1,[],rfl,?_,by rw[valsC_len];simp⟩
   rw[St.at_put,if_neg (by omega),hat5,valsC_app,List.append_nil]
   rfl
  ·rw[List.length_append];simp only[List.length_cons,List.length_nil];omega
  ·simp only[St.next_put];omega
  ·cases e
   exact⟨by simp only[St.next_put];omega,by show s1.next+1≠b;omega⟩
  ·cases e
   exact⟨by simp only[St.next_put];omega,by show s3.next+1≠b;omega⟩
  ·cases e
   cases e'
   show s1.next+1≠s3.next+1
   omega
  ·simp only[St.next_put];omega
  ·rw[St.at_put,if_neg (fun e=>ho (.inl e)),hold c (by omega) (fun e=>ho (.inl e)) (fun q m k e e2=>ho (.inr (.inl ⟨q,m,k,e,e2⟩))) (fun q m k e e2=>ho (.inr (.inr ⟨q,m,k,e,e2⟩)))]
   exact l1.2 c hc
  ·rcases hc with rfl|⟨q,m,k,e,rfl⟩|⟨q,m,k,e,rfl⟩
   ·exact .inl (.inl rfl)
   ·cases e;exact .inr (by show s.next≤s1.next+1;omega)
   ·cases e;exact .inr (by show s.next≤s3.next+1;omega)
end
theorem delP_at:∀ {L:List (ByteArray×V3)}{x:ByteArray}{j:Nat},idxOf (keysP L) x=some j→delP L x=L.eraseIdx j:=by
 intro L
 induction L with
 |nil=>intro x j h;cases h
 |cons p L ih =>
  intro x j h
  obtain⟨y,w⟩:=p
  have h:(if y=x then some 0 else (idxOf (keysP L) x).map (·+1))=some j:=h
  unfold delP
  by_cases e:y=x
  ·rw[if_pos e]at h
   cases h
   rw[if_pos e];rfl
  ·rw[if_neg e]at h
   rw[if_neg e]
   obtain⟨k,hk,rfl⟩:=Option.map_eq_some_iff.1 h
   rw[ih hk];rfl
theorem er_skip{α:Type}{L:List α}{j:Nat}(h:j<L.length):(L.take (j+1)).eraseIdx j=(L.take j).eraseIdx j:=by
 have e1:(L.take j).eraseIdx j=L.take j:=List.eraseIdx_of_length_le (by rw[List.length_take];omega)
 rw[e1,List.take_add_one,List.getElem?_eq_getElem h]
 show (L.take j ++ [L[j]]).eraseIdx j=_
 rw[List.eraseIdx_append_of_length_le (by rw[List.length_take];omega),List.length_take,show j - min j L.length=0 by omega];simp
theorem er_more{α:Type}{L:List α}{i j:Nat}{u:α}(h:L[i]?=some u)(hne:i≠j):(L.take (i+1)).eraseIdx j=(L.take i).eraseIdx j ++ [u]:=by
 have hi:=(List.getElem?_eq_some_iff.1 h).1
 rw[List.take_add_one,h]
 show (L.take i ++ [u]).eraseIdx j=_
 rcases Nat.lt_or_ge j i with h1|h1
 ·rw[List.eraseIdx_append_of_lt_length (by rw[List.length_take];omega)]
 ·rw[List.eraseIdx_of_length_le (by rw[List.length_append,List.length_take];simp;omega),List.eraseIdx_of_length_le (by rw[List.length_take];omega)]
section
structure DelI(s s':St M)(b:Nat)(E:List (ByteArray×V3))(n6 v7:Value):Prop where
 le:s.le s'
 nm:SlC 9 1 s' n6 ((keysP E).map .string) (keysP E).length
 vl:SlU 36 3 s' v7 (valsC E) E.length
 fr:RFr s' b n6 v7
 nn:∀ q n c,n6 = .slice (some q) n c→s.next≤q.block
 nv:∀ q n c,v7 = .slice (some q) n c→s.next≤q.block
theorem rddel_spec{b j:Nat}{L:List (ByteArray×V3)}{x:ByteArray}{a e f ns vs:Value}(ho:ROb s b L a e f ns vs)(hf:RFr s b ns vs)(hj:idxOf (keysP L) x=some j)
  (h:∀ s' ns' vs',ROb s' b (delP L x) a e f ns' vs'→RFr s' b ns' vs'→Upd s s' (Hang b ns vs) (Hang b ns' vs')→R (.bool true) s') :
  QC prog w0 99 #[.pointer (some ⟨b,1,none⟩),.string x] s R:=by
 refine wfun2 hmix ok99 func99 rfl ntmps99 results99 (by simp) ?_
 rw[delP_at hj]at h
 obtain⟨w,hjL,_⟩:=getP_at hj
 have hjlt:=(List.getElem?_eq_some_iff.1 hjL).1
 have hkl:=keysP_len L
 have hfew:=ho.few
 simp -implicitDefEqProofs only[↓Zd,(Zp),simprocAttr,co135]
 refine rdat_spec ho ?_
 have e1:atT (keysP L) x=(j:Int):=by unfold atT;rw[hj]
 rw[e1]
 obtain⟨qn,cn,en⟩:=slc_form ho.nm
 obtain⟨qv,cv,ev⟩:=ho.vform
 have hbn:=hf.bn
 simp -implicitDefEqProofs only[↓Zd,(Zp),simprocAttr,(HEx)]
 refine wloop_inv hmix (fun fuel env s'=>∃ (i:Nat) (n6 v7:Value),fuel=L.length - i∧i≤L.length∧env 8 = .int .i64 (i:Int)∧env 5 = .int .i64 (j:Int)∧env 0 = .pointer (some ⟨b,1,none⟩)∧env 6=n6∧env 7=v7∧DelI s s' b ((L.take i).eraseIdx j) n6 v7) L.length
  ⟨0,.slice none 0 0,.slice none 0 0,rfl,by omega,rfl,rfl,rfl,rfl,rfl,lR _,.inl ⟨by simp[keysP],by simp[keysP],rfl⟩,.inl ⟨by simp,by simp[valsC],rfl⟩,⟨hbn,(fun q n c e=>by cases e),(fun q n c e=>by cases e),(fun q n c q' n' c' e=>by cases e)⟩,(fun q n c e=>by cases e),(fun q n c e=>by cases e)⟩ ?_
 rintro fuel env s1 ⟨i,n6,v7,rfl,hi,e8,e5,e0,e6,e7,hD⟩
 have ho1:=ho.le hf hD.le
 have h1:=ho1.bl
 by_cases hlt:(i:Int)<((keysP L).length:Int)
 case neg =>
  have hil:i=L.length:=by omega
  rw[hil,List.take_length]at hD
  rw[en]at h1
  have hj0:(0:Int)≤(j:Int):=by omega
  have hb1:=hD.fr.bn
  obtain⟨q6,c6,rfl⟩:=slc_form hD.nm
  obtain⟨q7,c7,rfl⟩:∃ q c,v7 = .slice q (L.eraseIdx j).length c:=by
   rcases hD.vl.form with ⟨e0,rfl⟩|⟨b2,rfl⟩
   ·exact⟨none,0,by rw[e0]⟩
   ·exact⟨_,_,rfl⟩
  simp -implicitDefEqProofs only[↓Zd,(Zp),simprocAttr,qP,Value.cells,qC,cld2,(HEx),(REx),e8,e5,e0,e6,e7,h1,hlt,hj0]
  refine h _ _ _ ⟨?_,hD.nm.same fun q m c e=>?_,hD.vl.same fun q m c e=>?_,?_⟩ (hD.fr.le ?_) ⟨?_,fun c hc ho=>?_,fun c hc=>?_⟩
  ·rw[St.at_put,if_pos rfl]
  ·rw[St.at_put,if_neg (hD.fr.n q m c e).2,St.at_put,if_neg (hD.fr.n q m c e).2]
  ·rw[St.at_put,if_neg (hD.fr.v q m c e).2,St.at_put,if_neg (hD.fr.v q m c e).2]
  ·have:=List.length_eraseIdx_le L j;omega
  ·simp only[St.next_put];omega
  ·have:=hD.le.1;simp only[St.next_put];omega
  ·have hcb:¬ c=b:=fun e=>ho (.inl e)
   rw[St.at_put,if_neg hcb,St.at_put,if_neg hcb]
   exact hD.le.2 c hc
  ·rcases hc with rfl|⟨q,m,k,e,rfl⟩|⟨q,m,k,e,rfl⟩
   ·exact .inl (.inl rfl)
   ·exact .inr (hD.nn _ _ _ e)
   ·exact .inr (hD.nv _ _ _ e)
 have hlt0:i<(keysP L).length:=by omega
 have hiL:i<L.length:=by omega
 have w8:IntKind.i64.wrap ((i:Int)+1)=((i+1:Nat):Int):=by rw[wrap_i64 (by omega)];omega
 by_cases hij:(i:Int)=(j:Int)
 ·have hij':i=j:=by omega
  subst hij'
  rw[en]at h1
  simp -implicitDefEqProofs only[↓Zd,(Zp),simprocAttr,cld2,(REx),e8,e5,e0,e6,e7,h1,hlt,w8]
  exact⟨L.length - (i+1),by omega,i+1,n6,v7,rfl,by omega,rfl,rfl,rfl,by rw[er_skip hiL];exact hD⟩
 ·obtain⟨u,hu⟩:∃ u,L[i]?=some u:=⟨L[i],by simp[hiL]⟩
  obtain⟨z,k,n,y⟩:=u
  have her:=er_more hu (show i≠j by omega)
  have hel:((L.take i).eraseIdx j).length≤i:=by have:=List.length_eraseIdx_le (L.take i) j;rw[List.length_take]at this;omega
  generalize (L.take i).eraseIdx j=E at *
  have hkE:=keysP_len E
  obtain⟨bn,cn',eb,hbnm,hx⟩:=slc_str ho1.nm (k:=i) hlt0
  have hz:(keysP L)[i]=z:=by
   have h2:(keysP L)[i]?=some z:=by unfold keysP;rw[List.getElem?_map,hu];rfl
   rw[List.getElem?_eq_getElem hlt0]at h2
   exact Option.some.inj h2
  rw[hz]at hx
  rcases ho1.vl with ⟨e9,_⟩|⟨bv,junk,ev2,hbv,hvl⟩
  ·omega
  subst eb
  subst ev2
  obtain⟨c1,c2⟩:=valsC_cut L i _ _ junk hu
  have hk:(0:Int)≤(i:Int)∧(i:Int)<((keysP L).length:Int):=by omega
  have hk2:(0:Int)≤(i:Int)∧(i:Int)<(L.length:Int):=by omega
  have hs1:=hD.le.1
  have hbn1:=(hf.n _ _ _ rfl).1
  have hbv1:=(hf.v _ _ _ rfl).1
  simp only at hbn1 hbv1
  obtain⟨s3,happ,hn3,hat3,hk3⟩:=app_str (x:=z) (by omega) hD.nm (fun q n c e=>(hD.fr.n q n c e).1)
  have hold3:∀ c,c<s.next→s3.at' c=s1.at' c:=fun c hc=>hk3 c (by omega) (fun q m k e e2=>by have:=hD.nn _ _ _ e;omega)
  have h13:=(hold3 b hbn).trans h1
  have hbv3:=(hold3 bv hbv1).trans hbv
  have hvl3:SlU 36 3 s3 v7 (valsC E) E.length:=hD.vl.same fun q m c e=>hk3 _ (hD.fr.v q m c e).1 (fun q' m' c' e' e2=>hD.fr.nv _ _ _ _ _ _ e' e e2.symm)
  simp -implicitDefEqProofs only[↓Zd,(Zp),simprocAttr,cut,cld2,(HEx),(REx),e8,e5,e0,e6,e7,h1,hlt,hk,hk2,hij,hbnm,hx,rowStr,happ,h13,hbv3,c1,c2,rowVal]
  refine wch_app_val (by omega) hvl3 (fun q m c e=>by have:=(hD.fr.v q m c e).1;omega) fun s5 hn5 hat5 hk5=>?_
  have hold5:∀ c,c<s.next→s5.at' c=s1.at' c:=fun c hc=>by
   rw[hk5 c (by omega) (fun q m k e e2=>by have:=hD.nv _ _ _ e;omega),hold3 c hc]
  have hns5:s5.at' (s1.next+1)=some (.cells (List.map Value.string (keysP E ++ [z])) 9 true):=by
   rw[hk5 _ (by omega) (fun q m c e e2=>by have:=(hD.fr.v q m c e).1;omega),hat3]
  simp -implicitDefEqProofs only[↓Zd,(Zp),simprocAttr,e8,e5,e0,w8]
  have hke:keysP (E ++ [(z,k,n,y)])=keysP E ++ [z]:=by simp[keysP]
  refine⟨L.length - (i+1),by omega,i+1,_,_,rfl,by omega,rfl,rfl,rfl,?_⟩
  rw[her]
  refine⟨⟨by omega,fun c hc=>by rw[hold5 c hc];exact hD.le.2 c hc⟩,?_,?_,⟨?_,fun q m c e=>?_,fun q m c e=>?_,fun q m c q' m' c' e e'=>?_⟩,fun q m c e=>?_,fun q m c e=>?_⟩
  ·rw[hke]
   exact .inr ⟨s1.next+1,UNK,by simp,.inl rfl,hns5,by simp⟩
  ·rw[List.length_append]
   refine .inr ⟨s3.next+1,[],rfl,?_,by rw[valsC_len];simp⟩
   rw[hat5,valsC_app,List.append_nil]
   rfl
  ·omega
  ·cases e
   exact⟨by show s1.next+1<s5.next;omega,by show s1.next+1≠b;omega⟩
  ·cases e
   exact⟨by show s3.next+1<s5.next;omega,by show s3.next+1≠b;omega⟩
  ·cases e
   cases e'
   show s1.next+1≠s3.next+1
   omega
  ·cases e
   show s.next≤s1.next+1
   omega
  ·cases e
   show s.next≤s3.next+1
   omega
end
section
structure RObAt(lo:Nat)(s:St M)(N:Nat)(b:Nat)(o:Ob)(O:Nat→Prop):Prop where
 own:∀ c,O c→lo≤c∧c<s.next
 pin:O b
 ep:o.epoch≤N
 bl:∃ ns vs,ROb s b o.L (.int .i64 (o.proto:Int)) (.int .i64 (o.epoch:Int)) (.int .i64 (o.shape:Int)) ns vs∧RFr s b ns vs∧∀ c,Hang b ns vs c→O c
theorem Hang.b{b:Nat}{ns vs:Value}:Hang b ns vs b := .inl rfl
theorem Hang.n{b:Nat}{ns vs:Value}{q:Addr}{n c:Nat}(e:ns = .slice (some q) n c):Hang b ns vs q.block := .inr (.inl ⟨q,n,c,e,rfl⟩)
theorem Hang.v{b:Nat}{ns vs:Value}{q:Addr}{n c:Nat}(e:vs = .slice (some q) n c):Hang b ns vs q.block := .inr (.inr ⟨q,n,c,e,rfl⟩)
theorem RObAt.same{lo:Nat}{s s':St M}{N b:Nat}{o:Ob}{O:Nat→Prop}(h:RObAt lo s N b o O)(hn:s.next≤s'.next)(hs:∀ c,O c→s'.at' c=s.at' c):RObAt lo s' N b o O:=by
 obtain⟨h1,h2,h3,ns,vs,h4,h5,h6⟩:=h
 exact⟨fun c hc=>⟨(h1 c hc).1,by have:=(h1 c hc).2;omega⟩,h2,h3,ns,vs,h4.same (hs _ (h6 _ .b)) (fun q n c e=>hs _ (h6 _ (.n e))) (fun q n c e=>hs _ (h6 _ (.v e))),h5.le hn,h6⟩
theorem RObAt.mono{lo:Nat}{s:St M}{N N' b:Nat}{o:Ob}{O:Nat→Prop}(h:RObAt lo s N b o O)(hN:N≤N'):RObAt lo s N' b o O:=
 ⟨h.own,h.pin,by have:=h.ep;omega,h.bl⟩
structure RHpIn(lo:Nat)(s:St M)(p:Nat)(H:Hp)(N:Nat)(O:Nat→Prop)(tg:Nat→Nat)(pf:Nat)(sl tl:Value)(bs:List Nat):Prop where
 own:∀ b,O b→lo≤b∧b<s.next
 ok:HOk H
 tn:H.T.length≤N
 pin:O p∧tg p=0
 bl:s.at' p=some (.cells [sl,.int .i64 (H.maxO:Int),.int .i64 (H.maxP:Int),.pointer (some ⟨pf,0,none⟩),tl] 81 true)
 row:SlU 163 1 s sl (ptrs bs) bs.length
 rowO:∀ q n c,sl = .slice (some q) n c→O q.block∧tg q.block=0∧q.block≠p
 fo:RFAt lo s pf H.F H.most (fun b=>O b∧tg b=1)
 ta:SlC 9 1 s tl (H.T.map .string) H.T.length
 taO:∀ q n c,tl = .slice (some q) n c→O q.block∧tg q.block=2
 len:bs.length=H.obs.length
 obj:∀ (i b:Nat) (o:Ob),bs[i]?=some b→H.obs[i]?=some o→RObAt lo s N b o (fun c=>O c∧tg c=i+3)
def RHpAt(lo:Nat)(s:St M)(p:Nat)(H:Hp)(N:Nat)(O:Nat→Prop):Prop:=HPro H∧∃ tg pf sl tl bs,RHpIn lo s p H N O tg pf sl tl bs
theorem RHpIn.same{lo:Nat}{s s':St M}{p:Nat}{H:Hp}{N:Nat}{O:Nat→Prop}{tg:Nat→Nat}{pf:Nat}{sl tl:Value}{bs:List Nat}(h:RHpIn lo s p H N O tg pf sl tl bs)(hn:s.next≤s'.next)(hs:∀ c,O c→s'.at' c=s.at' c):RHpIn lo s' p H N O tg pf sl tl bs:=
 ⟨fun b hb=>⟨(h.own b hb).1,by have:=(h.own b hb).2;omega⟩,h.ok,h.tn,h.pin,by rw[hs _ h.pin.1];exact h.bl,h.row.same fun q n c e=>hs _ (h.rowO q n c e).1,h.rowO,h.fo.same hn fun b hb=>hs b hb.1,h.ta.same fun q n c e=>hs _ (h.taO q n c e).1,h.taO,h.len,fun i b o h1 h2=>(h.obj i b o h1 h2).same hn fun c hc=>hs c hc.1⟩
theorem RHpIn.le{lo:Nat}{s s':St M}{p:Nat}{H:Hp}{N:Nat}{O:Nat→Prop}{tg:Nat→Nat}{pf:Nat}{sl tl:Value}{bs:List Nat}(h:RHpIn lo s p H N O tg pf sl tl bs)(hs:s.le s'):RHpIn lo s' p H N O tg pf sl tl bs:=h.same hs.1 fun c hc=>hs.2 c (h.own c hc).2
theorem RHpIn.mono{lo:Nat}{s:St M}{p:Nat}{H:Hp}{N N':Nat}{O:Nat→Prop}{tg:Nat→Nat}{pf:Nat}{sl tl:Value}{bs:List Nat}(h:RHpIn lo s p H N O tg pf sl tl bs)(hN:N≤N'):RHpIn lo s p H N' O tg pf sl tl bs:=
 ⟨h.own,h.ok,by have:=h.tn;omega,h.pin,h.bl,h.row,h.rowO,h.fo,h.ta,h.taO,h.len,fun i b o h1 h2=>(h.obj i b o h1 h2).mono hN⟩
theorem RHpAt.same{lo:Nat}{s s':St M}{p:Nat}{H:Hp}{N:Nat}{O:Nat→Prop}(h:RHpAt lo s p H N O)(hn:s.next≤s'.next)(hs:∀ c,O c→s'.at' c=s.at' c):RHpAt lo s' p H N O:=by
 obtain⟨hp,tg,pf,sl,tl,bs,h⟩:=h
 exact⟨hp,tg,pf,sl,tl,bs,h.same hn hs⟩
theorem RHpAt.own{lo:Nat}{s:St M}{p:Nat}{H:Hp}{N:Nat}{O:Nat→Prop}(h:RHpAt lo s p H N O):∀ b,O b→lo≤b∧b<s.next:=by
 obtain⟨hp,tg,pf,sl,tl,bs,h⟩:=h
 exact h.own
theorem RHpAt.ok{lo:Nat}{s:St M}{p:Nat}{H:Hp}{N:Nat}{O:Nat→Prop}(h:RHpAt lo s p H N O):HOk H:=by
 obtain⟨hp,tg,pf,sl,tl,bs,h⟩:=h
 exact h.ok
theorem RHpAt.le{lo:Nat}{s s':St M}{p:Nat}{H:Hp}{N:Nat}{O:Nat→Prop}(h:RHpAt lo s p H N O)(hs:s.le s'):RHpAt lo s' p H N O:=h.same hs.1 fun c hc=>hs.2 c (h.own c hc).2
theorem RHpAt.mono{lo:Nat}{s:St M}{p:Nat}{H:Hp}{N N':Nat}{O:Nat→Prop}(h:RHpAt lo s p H N O)(hN:N≤N'):RHpAt lo s p H N' O:=by
 obtain⟨hp,tg,pf,sl,tl,bs,h⟩:=h
 exact⟨hp,tg,pf,sl,tl,bs,h.mono hN⟩
theorem RHpIn.newF{lo:Nat}{s s':St M}{p:Nat}{H:Hp}{N:Nat}{O O':Nat→Prop}{tg:Nat→Nat}{pf:Nat}{sl tl:Value}{bs:List Nat}{F':List Sh}(h:RHpIn lo s p H N O tg pf sl tl bs)(hU:Upd s s' (fun b=>O b∧tg b=1) O')(hF:RFAt lo s' pf F' H.most O')(hok:HOk { H with F:=F' }) :
  RHpIn lo s' p { H with F:=F' } N (reO O tg 1 O') (reT tg 1 O') pf sl tl bs:=by
 have hO:∀ b,O b→b<s.next:=fun b hb=>(h.own b hb).2
 have hw:∀ b,O' b→(O b∧tg b=1)∨s.next≤b:=hU.own
 have hk:=re_keep h.own hU
 refine⟨re_own h.own hU.next hF.own,hok,h.tn,re_tag hO hw (by omega) h.pin,?_,h.row.same fun q n c e=>?_,fun q n c e=>?_,?_,h.ta.same fun q n c e=>?_,fun q n c e=>re_tag hO hw (by omega) (h.taO q n c e),h.len,fun i b o h1 h2=>?_⟩
 ·rw[hk p h.pin.1 (by rw[h.pin.2];omega)];exact h.bl
 ·have:=h.rowO q n c e
  exact hk _ this.1 (by rw[this.2.1];omega)
 ·have:=h.rowO q n c e
  have h2:=re_tag hO hw (j:=0) (by omega) ⟨this.1,this.2.1⟩
  exact⟨h2.1,h2.2,this.2.2⟩
 ·rw[re_same];exact hF
 ·have:=h.taO q n c e
  exact hk _ this.1 (by rw[this.2];omega)
 ·rw[re_other hO hw (by omega)]
  exact (h.obj i b o h1 h2).same hU.next fun c hc=>hk c hc.1 (by rw[hc.2];omega)
theorem RHpIn.newO{lo:Nat}{s s':St M}{p:Nat}{H:Hp}{N:Nat}{O O':Nat→Prop}{tg:Nat→Nat}{pf:Nat}{sl tl:Value}{bs:List Nat}{j b:Nat}{o':Ob}(h:RHpIn lo s p H N O tg pf sl tl bs)(hj:j<H.obs.length)(hb:bs[j]?=some b)(hU:Upd s s' (fun b=>O b∧tg b=j+3) O')(hB:RObAt lo s' N b o' O')(hok:HOk { H with obs:=H.obs.set j o' }) :
  RHpIn lo s' p { H with obs:=H.obs.set j o' } N (reO O tg (j+3) O') (reT tg (j+3) O') pf sl tl bs:=by
 have hO:∀ b,O b→b<s.next:=fun b hb=>(h.own b hb).2
 have hw:∀ b,O' b→(O b∧tg b=j+3)∨s.next≤b:=hU.own
 have hk:=re_keep h.own hU
 refine⟨re_own h.own hU.next hB.own,hok,h.tn,re_tag hO hw (by omega) h.pin,?_,h.row.same fun q n c e=>?_,fun q n c e=>?_,?_,h.ta.same fun q n c e=>?_,fun q n c e=>re_tag hO hw (by omega) (h.taO q n c e),by simpa using h.len,fun i b2 o h1 h2=>?_⟩
 ·rw[hk p h.pin.1 (by rw[h.pin.2];omega)];exact h.bl
 ·have:=h.rowO q n c e
  exact hk _ this.1 (by rw[this.2.1];omega)
 ·have:=h.rowO q n c e
  have h2:=re_tag hO hw (j:=0) (by omega) ⟨this.1,this.2.1⟩
  exact⟨h2.1,h2.2,this.2.2⟩
 ·rw[re_other hO hw (by omega)]
  exact h.fo.same hU.next fun b hb=>hk b hb.1 (by rw[hb.2];omega)
 ·have:=h.taO q n c e
  exact hk _ this.1 (by rw[this.2];omega)
 ·by_cases e:j=i
  ·subst e
   rw[hb]at h1
   cases h1
   simp only[List.getElem?_set,if_true,hj]at h2
   cases h2
   rw[re_same];exact hB
  ·simp only[List.getElem?_set,e,if_false]at h2
   rw[re_other hO hw (by omega)]
   exact (h.obj i b2 o h1 h2).same hU.next fun c hc=>hk c hc.1 (by rw[hc.2];omega)
theorem RHpIn.newT{lo:Nat}{s s':St M}{p:Nat}{H:Hp}{N:Nat}{O:Nat→Prop}{tg:Nat→Nat}{pf:Nat}{sl tl tl':Value}{bs:List Nat}{T':List ByteArray}(h:RHpIn lo s p H N O tg pf sl tl bs)(hlo:lo≤s.next)
  (hbl:s'.at' p=some (.cells [sl,.int .i64 (H.maxO:Int),.int .i64 (H.maxP:Int),.pointer (some ⟨pf,0,none⟩),tl'] 81 true))(hta:SlC 9 1 s' tl' (T'.map .string) T'.length)(hn:s.next≤s'.next)
  (hkeep:∀ b,b<s.next→b≠p→(∀ q n c,tl = .slice (some q) n c→b≠q.block)→s'.at' b=s.at' b)(hnew:∀ q n c,tl' = .slice (some q) n c→tl=tl'∨(s.next≤q.block∧q.block<s'.next))(hok:HOk { H with T:=T' })(hTN:T'.length≤N) :
  ∃ O',RHpIn lo s' p { H with T:=T' } N (reO O tg 2 O') (reT tg 2 O') pf sl tl' bs∧Upd s s' O (reO O tg 2 O'):=by
 have hO:∀ b,O b→b<s.next:=fun b hb=>(h.own b hb).2
 have hw:∀ b,(∃ q n c,tl' = .slice (some q) n c∧b=q.block)→(O b∧tg b=2)∨s.next≤b:=by
  rintro b ⟨q,n,c,e,rfl⟩
  rcases hnew q n c e with h1|h1
  ·exact .inl (h.taO q n c (h1.trans e))
  ·exact .inr h1.1
 have hl:∀ b,(∃ q n c,tl' = .slice (some q) n c∧b=q.block)→lo≤b∧b<s'.next:=by
  rintro b ⟨q,n,c,e,rfl⟩
  rcases hnew q n c e with h1|h1
  ·have:=h.own _ (h.taO q n c (h1.trans e)).1;omega
  ·omega
 have hk:∀ b,O b→tg b≠2→b≠p→s'.at' b=s.at' b:=fun b hb ht hp=>hkeep b (hO b hb) hp fun q n c e e2=>ht (e2▸(h.taO q n c e).2)
 refine⟨fun b=>∃ q n c,tl' = .slice (some q) n c∧b=q.block,⟨re_own h.own hn hl,hok,hTN,re_tag hO hw (by omega) h.pin,hbl,h.row.same fun q n c e=>?_,fun q n c e=>?_,?_,hta,fun q n c e=>?_,h.len,fun i b o h1 h2=>?_⟩,hn,fun b hb ho=>?_,fun b hb=>?_⟩
 ·have:=h.rowO q n c e
  exact hk _ this.1 (by rw[this.2.1];omega) this.2.2
 ·have:=h.rowO q n c e
  have h2:=re_tag hO hw (j:=0) (by omega) ⟨this.1,this.2.1⟩
  exact⟨h2.1,h2.2,this.2.2⟩
 ·rw[re_other hO hw (by omega)]
  exact h.fo.same hn fun b hb=>hk b hb.1 (by rw[hb.2];omega) (fun e=>by have:=h.pin.2;rw[← e,hb.2]at this;omega)
 ·have h3:=congrFun (re_same O tg 2 (fun b=>∃ q n c,tl' = .slice (some q) n c∧b=q.block)) q.block
  exact h3.mpr ⟨q,n,c,e,rfl⟩
 ·rw[re_other hO hw (by omega)]
  exact (h.obj i b o h1 h2).same hn fun c hc=>hk c hc.1 (by rw[hc.2];omega) (fun e=>by have:=h.pin.2;rw[← e,hc.2]at this;omega)
 ·exact hkeep b hb (fun e=>ho (e▸h.pin.1)) fun q n c e e2=>ho (e2▸(h.taO q n c e).1)
 ·rcases hb with ⟨h1,_⟩|h1
  ·exact .inl h1
  ·rcases hw b h1 with h2|h2
   ·exact .inl h2.1
   ·exact .inr h2
theorem RHpIn.at{lo:Nat}{s:St M}{p:Nat}{H:Hp}{N:Nat}{O:Nat→Prop}{tg:Nat→Nat}{pf:Nat}{sl tl:Value}{bs:List Nat}(h:RHpIn lo s p H N O tg pf sl tl bs){j:Nat}{o:Ob}(ho:H.obs[j]?=some o) :
  ∃ b br vs own ns vv,bs[j]?=some b∧RObAt lo s N b o (fun c=>O c∧tg c=j+3)∧sl = .slice (some ⟨br,0,none⟩) bs.length UNK∧s.at' br=some (.cells vs 163 own)∧vs[j]?=some (.pointer (some ⟨b,0,none⟩))∧br<s.next ∧
   ROb s b o.L (.int .i64 (o.proto:Int)) (.int .i64 (o.epoch:Int)) (.int .i64 (o.shape:Int)) ns vv∧RFr s b ns vv∧∀ c,Hang b ns vv c→O c∧tg c=j+3:=by
 have hj:=(List.getElem?_eq_some_iff.1 ho).1
 have hb:bs[j]?=some (bs[j]'(by have:=h.len;omega)):=List.getElem?_eq_getElem _
 have hB:=h.obj j _ o hb ho
 obtain⟨ns,vv,h1,h2,h3⟩:=hB.bl
 rcases h.row with ⟨e0,_⟩|⟨br,junk,e,hbr,_⟩
 ·have:=h.len;omega
 ·exact⟨_,br,_,_,ns,vv,hb,hB,e,hbr,ptrs_get junk hb,(h.own _ (h.rowO _ _ _ e).1).2,h1,h2,h3⟩
theorem RHpIn.form{lo:Nat}{s:St M}{p:Nat}{H:Hp}{N:Nat}{O:Nat→Prop}{tg:Nat→Nat}{pf:Nat}{sl tl:Value}{bs:List Nat}(h:RHpIn lo s p H N O tg pf sl tl bs):∃ q c,sl = .slice q H.obs.length c:=by
 rw[← h.len]
 rcases h.row.form with ⟨e0,rfl⟩|⟨b,rfl⟩
 ·exact⟨none,0,by rw[e0]⟩
 ·exact⟨_,_,rfl⟩
end
section
variable {lo p N pf:Nat}{H:Hp}{O:Nat→Prop}{tg:Nat→Nat}{sl tl:Value}{bs:List Nat}
theorem rhas_spec(h:RHpIn lo s p H N O tg pf sl tl bs){i:Int}(hR:R (.bool (obAt H i).isSome) s):QC prog w0 94 #[.pointer (some ⟨p,0,none⟩),.int .i64 i] s R:=by
 refine wfun2 hmix ok94 func94 rfl ntmps94 results94 (by simp) ?_
 have h1:=h.bl
 obtain⟨q,c,rfl⟩:=h.form
 by_cases h0:1≤i
 ·by_cases h2:i≤(H.obs.length:Int)
  ·have e:(obAt H i).isSome=true:=by
    cases hc:obAt H i with
    |none=>exact absurd ⟨h0,h2⟩ (obAt_none.1 hc)
    |some o=>rfl
   rw[e]at hR
   simp -implicitDefEqProofs only[↓Zd,(Zp),simprocAttr,cld2,(REx),h1,h0,h2]
   exact hR
  ·have e:(obAt H i).isSome=false:=by rw[obAt_none.2 (by omega)];rfl
   rw[e]at hR
   simp -implicitDefEqProofs only[↓Zd,(Zp),simprocAttr,cld2,(REx),h1,h0,h2]
   exact hR
 ·have e:(obAt H i).isSome=false:=by rw[obAt_none.2 (by omega)];rfl
  rw[e]at hR
  simp -implicitDefEqProofs only[↓Zd,(Zp),simprocAttr,h0]
  exact hR
theorem ix_ok{j n:Nat}(h:j<n):(0:Int)≤(j:Int)∧(j:Int)<(n:Int):=by omega
theorem RHpIn.w(h:RHpIn lo s p H N O tg pf sl tl bs){j:Nat}(hj:j<H.obs.length):IntKind.i64.wrap (((j+1:Nat):Int) - 1)=(j:Int):=by
 have:=h.ok.lim
 rw[wrap_i64 (by omega)];omega
theorem rproto_spec(h:RHpIn lo s p H N O tg pf sl tl bs){i:Int}(hR:R (.int .i64 (protoV H i)) s):QC prog w0 100 #[.pointer (some ⟨p,0,none⟩),.int .i64 i] s R:=by
 refine wfun2 hmix ok100 func100 rfl ntmps100 results100 (by simp) ?_
 unfold protoV at hR
 simp -implicitDefEqProofs only[↓Zd,(Zp),simprocAttr,co94]
 refine rhas_spec h ?_
 cases ho:obAt H i with
 |none =>
  rw[ho]at hR
  simp -implicitDefEqProofs only[↓Zd,(Zp),simprocAttr,(HEx)]
  exact hR
 |some o =>
  rw[ho]at hR
  obtain⟨j,rfl,hj,hjo⟩:=obAt_some ho
  obtain⟨b,br,vs,own,ns,vv,hb,hB,rfl,hbr,hg,hbrn,hob,hfr,hO⟩:=h.at hjo
  have h1:=h.bl
  have h2:=hob.bl
  have hk:=ix_ok (n:=bs.length) (j:=j) (by rw[h.len];exact hj)
  have w1:=h.w hj
  simp -implicitDefEqProofs only[↓Zd,(Zp),simprocAttr,cld2,(HEx),(REx),h1,h2,w1,hk,hbr,hg]
  exact hR
theorem rown_spec(h:RHpIn lo s p H N O tg pf sl tl bs){i:Int}{x:ByteArray}(hR:∀ s',s.le s'→R (gotV ((obAt H i).bind fun o=>getP o.L x)) s'):QC prog w0 98 #[.pointer (some ⟨p,0,none⟩),.int .i64 i,.string x] s R:=by
 refine wfun2 hmix ok98 func98 rfl ntmps98 results98 (by simp) ?_
 have l1:s.le (s.new (.cells [.int .i64 0,.int .i64 0,.string ⟨#[]⟩] 36 true)):=lN (lR _)
 simp -implicitDefEqProofs only[↓Zd,(Zp),simprocAttr,Value.cells,(HEx),co94]
 refine rhas_spec (h.le l1) ?_
 cases ho:obAt H i with
 |none =>
  rw[ho]at hR
  simp only[Option.bind_none,gotV]at hR
  simp -implicitDefEqProofs only[↓Zd,(Zp),simprocAttr,qP,Value.cells,cut,qC,cld2,(HEx)]
  exact hR _ (by repeat (first|exact lR _|assumption|refine lN ?_|refine lP ?_ (by first|omega|(simp only[(Sn)];omega))|refine lT ?_ (by assumption)))
 |some o =>
  rw[ho]at hR
  simp only[Option.bind_some]at hR
  obtain⟨j,rfl,hj,hjo⟩:=obAt_some ho
  obtain⟨b,br,vs,own,ns,vv,hb,hB,rfl,hbr,hg,hbrn,hob,hfr,hO⟩:=h.at hjo
  have h1:=h.bl
  have hk:=ix_ok (n:=bs.length) (j:=j) (by rw[h.len];exact hj)
  have w1:=h.w hj
  have hpn:¬ p=s.next:=by have:=(h.own p h.pin.1).2;omega
  have hbrn':¬ br=s.next:=by omega
  simp -implicitDefEqProofs only[↓Zd,(Zp),simprocAttr,cld2,(HEx),(REx),h1,hpn,hbrn',w1,hk,hbr,hg,co95]
  refine rdget_spec (hob.le hfr l1) (hfr.le l1.1) fun s2 hs2=>?_
  have hn2:=hs2.1
  simp only[St.next_new]at hn2
  have hle:s.le s2:=lT l1 hs2
  have c6:s2.at' s.next=some (.cells [.int .i64 0,.int .i64 0,.string ⟨#[]⟩] 36 true):=by rw[hs2.2 _ (by simp only[St.next_new];omega),St.at_new,if_pos rfl]
  unfold gotV vOf at *
  cases hgp:getP o.L x with
  |none =>
   rw[hgp]at hR
   simp only at hR
   simp -implicitDefEqProofs only[↓Zd,(Zp),simprocAttr,qP,Value.cells,cut,qC,cld2,(HEx),vA,c6]
   exact hR _ (lP hle (by omega))
  |some v =>
   obtain⟨a1,a2,a3⟩:=v
   rw[hgp]at hR
   simp only[vA]at hR
   simp -implicitDefEqProofs only[↓Zd,(Zp),simprocAttr,qP,Value.cells,cut,qC,cld2,(HEx),vA,c6]
   exact hR _ (lP hle (by omega))
theorem rslotof_spec(h:RHpIn lo s p H N O tg pf sl tl bs)(hN:N≤1000000){i:Int}{x:ByteArray}(hi : -9223372036854775808≤i∧i≤9223372036854775807)(hR:R (.int .i64 (slotOf H i x)) s) :
  QC prog w0 93 #[.pointer (some ⟨p,0,none⟩),.int .i64 i,.string x] s R:=by
 refine wfun2 hmix ok93 func93 rfl ntmps93 results93 (by simp) ?_
 have hb:=h.bl
 unfold slotOf at hR
 simp -implicitDefEqProofs only[↓Zd,(Zp),simprocAttr,(REx),co133]
 refine rtfind_spec (by have:=h.tn;omega) hb h.ta ?_
 cases hx:idxOf H.T x with
 |none =>
  rw[hx]at hR
  simp -implicitDefEqProofs only[↓Zd,(Zp),simprocAttr,(HEx)]
  exact hR
 |some j =>
  rw[hx]at hR
  simp -implicitDefEqProofs only[↓Zd,(Zp),simprocAttr,cld2,(HEx),(REx),hb,co134]
  refine rfslot_spec h.fo hi ?_
  simp -implicitDefEqProofs only[↓Zd,(Zp),simprocAttr,(HEx)]
  exact hR
end
section
variable {lo p N pf:Nat}{H:Hp}{O:Nat→Prop}{tg:Nat→Nat}{sl tl:Value}{bs:List Nat}
theorem rget_spec(h:RHpIn lo s p H N O tg pf sl tl bs){i:Int}{x:ByteArray}
  (hR:∀ s' v,s.le s'→GetR H x i v→R (vOf v) s'):QC prog w0 86 #[.pointer (some ⟨p,0,none⟩),.int .i64 i,.string x] s R:=by
 refine wfun2 hmix ok86 func86 rfl ntmps86 results86 (by simp) ?_
 have l1:s.le (s.new (.cells [.int .i64 0,.int .i64 0,.string ⟨#[]⟩] 36 true)):=lN (lR _)
 obtain⟨d,hd,hfew⟩:=deep_few h.ok
 have hlim:=h.ok.lim
 simp -implicitDefEqProofs only[↓Zd,(Zp),simprocAttr,Value.cells,(HEx)]
 refine wloop_inv hmix (fun fuel env s1=>∃ (k:Nat) (i':Int),fuel=H.obs.length+1 - k∧k≤H.obs.length∧env 7 = .int .i64 (k:Int)∧env 1 = .int .i64 i'∧env 0 = .pointer (some ⟨p,0,none⟩)∧env 2 = .string x∧env 6 = .pointer (some ⟨s.next,0,none⟩)∧(s.new (.cells [.int .i64 0,.int .i64 0,.string ⟨#[]⟩] 36 true)).le s1∧(∀ v,GetR H x i' v→GetR H x i v)∧∀ j:Nat,j<H.obs.length→i'=((j+1:Nat):Int)→d (j+1)+k<H.obs.length) (H.obs.length+1)
  ⟨0,i,rfl,by omega,rfl,rfl,rfl,rfl,rfl,lR _,fun v hv=>hv,fun j hj _=>by have:=hfew j hj;omega⟩ ?_
 rintro fuel env s1 ⟨k,i',rfl,hk,e7,e1,e0,e2,e6,hs1,himp,hdk⟩
 have hle1:=lT l1 hs1
 have h1:=(h.le hle1)
 have hb1:=h1.bl
 have hn1:=hs1.1
 simp only[St.next_new]at hn1
 have hkl:(k:Int)≤(H.obs.length:Int):=by omega
 have c6:s1.at' s.next=some (.cells [.int .i64 0,.int .i64 0,.string ⟨#[]⟩] 36 true):=by rw[hs1.2 _ (by simp only[St.next_new];omega),St.at_new,if_pos rfl]
 obtain⟨qs,cs,es⟩:=h.form
 have hb1':=hb1
 rw[es]at hb1'
 simp -implicitDefEqProofs only[↓Zd,(Zp),simprocAttr,cld2,(REx),e7,e1,e0,hb1',hkl,co94]
 refine rhas_spec h1 ?_
 cases ho:obAt H i' with
 |none =>
  simp -implicitDefEqProofs only[↓Zd,(Zp),simprocAttr,qP,Value.cells,cut,qC,cld2,(HEx),e6,c6]
  exact hR _ (0,0,⟨#[]⟩) (lP hle1 (by omega)) (himp _ (.none ho))
 |some o =>
  obtain⟨j,rfl,hj,hjo⟩:=obAt_some ho
  simp -implicitDefEqProofs only[↓Zd,(Zp),simprocAttr,(HEx),e1,e0,e2,co98]
  refine rown_spec h1 fun s2 hs2=>?_
  rw[ho]
  simp only[Option.bind_some]
  have hn2:=hs2.1
  have hle2:=lT hle1 hs2
  have c62:s2.at' s.next=some (.cells [.int .i64 0,.int .i64 0,.string ⟨#[]⟩] 36 true):=by rw[hs2.2 _ (by omega)];exact c6
  have hne:¬ s.next=s2.next:=by omega
  cases hg:getP o.L x with
  |some v =>
   obtain⟨a1,a2,a3⟩:=v
   unfold gotV vOf
   simp -implicitDefEqProofs only[↓Zd,(Zp),simprocAttr,qP,Value.cells,cut,qC,cld2,(HEx),vA,e6,c62,hne]
   exact hR _ (a1,a2,a3) (lP (lP (lN hle2) (by omega)) (by omega)) (himp _ (.own ho hg))
  |none =>
   obtain⟨b,br,vs,own,ns,vv,hb,hB,esl,hbr,hgj,hbrn,hob,hfr,hO⟩:=(h.le hle2).at hjo
   have g1:=(h.le hle2).bl
   rw[esl]at g1
   have g2:=hob.bl
   have hp2:¬ p=s2.next:=by have:=((h.le hle2).own p h.pin.1).2;omega
   have hbr2:¬ br=s2.next:=by omega
   have hb2:¬ b=s2.next:=by have:=hfr.bn;omega
   have hk2:=ix_ok (n:=bs.length) (j:=j) (by rw[h.len];exact hj)
   have w1:=h.w hj
   have wk:IntKind.i64.wrap ((k:Int)+1)=((k+1:Nat):Int):=by rw[wrap_i64 (by omega)];omega
   have hdj:=hdk j hj rfl
   unfold gotV
   simp -implicitDefEqProofs only[↓Zd,(Zp),simprocAttr,qP,Value.cells,qC,cld2,(HEx),(REx),vA,e7,e1,e0,e2,e6,g1,g2,hp2,hbr2,hb2,hbr,hgj,hk2,w1,wk]
   refine⟨H.obs.length+1 - (k+1),by omega,k+1,(o.proto:Int),rfl,by omega,rfl,rfl,?_,fun v hv=>himp v (.up ho hg hv),fun j2 hj2 e=>?_⟩
   ·exact lP (lN (lT hs1 hs2)) (by simp only[St.next_new];omega)
   ·rcases hd j o hjo with h0|⟨_,h0⟩
    ·omega
    ·have:o.proto=j2+1:=by omega
     rw[this]at h0
     omega
theorem rnext_spec(h:RHpIn lo s p H N O tg pf sl tl bs)(hlo:lo≤s.next){i:Int}{x:ByteArray}(hN:N+1≤1000000)(hi : -9223372036854775808≤i∧i≤9223372036854775807)
  (hR:∀ s' O' tg' tl',RHpIn lo s' p (nextH H i x) (N+1) O' tg' pf sl tl' bs→Upd s s' O O'→R (.int .i64 (nextN H i x:Int)) s'):QC prog w0 96 #[.pointer (some ⟨p,0,none⟩),.int .i64 i,.string x] s R:=by
 refine wfun2 hmix ok96 func96 rfl ntmps96 results96 (by simp) ?_
 have hb:=h.bl
 have hm:=h.mono (N':=N+1) (by omega)
 simp -implicitDefEqProofs only[↓Zd,(Zp),simprocAttr,cld2,(REx),hb,co136]
 refine rfhas_spec h.fo ?_
 cases hsh:shAt H.F i with
 |none =>
  have e1:nextH H i x=H:=by unfold nextH;rw[hsh];rfl
  have e2:nextN H i x=0:=by unfold nextN;rw[hsh];rfl
  rw[e1,e2]at hR
  simp -implicitDefEqProofs only[↓Zd,(Zp),simprocAttr,(HEx)]
  exact hR _ _ _ _ hm .refl
 |some t =>
  have e1:nextH H i x={ H with F:=addF H.F H.most i (ofI H.T x),T:=ofT H.T x }:=by unfold nextH;rw[hsh];rfl
  have e2:nextN H i x=addN H.F H.most i (ofI H.T x):=by unfold nextN;rw[hsh];rfl
  have hok:=next_ok h.ok i x
  rw[e1]at hR hok
  rw[e2]at hR
  have htn:=h.tn
  simp -implicitDefEqProofs only[↓Zd,(Zp),simprocAttr,cld2,(HEx),(REx),hb,ord96,co138]
  refine rtof_spec (h.own p h.pin.1).2 (by omega) hb h.ta (fun q n c e=>⟨(h.own _ (h.taO q n c e).1).2,fun e2=>by have:=(h.taO q n c e).2;rw[e2,h.pin.2]at this;omega⟩) fun s1 tl1 hb1 hta1 hn1 hk1 hnew1=>?_
  obtain⟨O1,h1,hU1⟩:=hm.newT hlo hb1 hta1 hn1 hk1 hnew1 (text_ok h.ok x) (by have:=ofT_len H.T x;omega)
  simp -implicitDefEqProofs only[↓Zd,(Zp),simprocAttr,cld2,(HEx),(REx),hb1,co137]
  refine rfadd_spec h1.fo (by omega) hi fun s2 O2 hF2 hU2 _=>?_
  have h2:=h1.newF hU2 hF2 hok
  simp -implicitDefEqProofs only[↓Zd,(Zp),simprocAttr,(HEx)]
  exact hR _ _ _ _ h2 (hU1.trans (re_upd hU2))
end
section
variable {M:Type}[Mem M]{w0:World}{s s':St M}{R:Value→St M→Prop}{lo p N pf:Nat}{H:Hp}{O:Nat→Prop}{tg:Nat→Nat}{sl tl:Value}{bs:List Nat}
theorem ROb.head{b:Nat}{L:List (ByteArray×V3)}{a e f ns vs:Value}(h:ROb s b L a e f ns vs)(hf:RFr s b ns vs)(a' e' f':Value):ROb (s.put b (.cells [a',ns,vs,e',f'] 167 true)) b L a' e' f' ns vs:=
 ⟨by rw[St.at_put,if_pos rfl],h.nm.same fun q n c e=>by rw[St.at_put,if_neg (hf.n q n c e).2],h.vl.same fun q n c e=>by rw[St.at_put,if_neg (hf.v q n c e).2],h.few⟩
theorem RFr.put{b c:Nat}{ns vs:Value}{B:Blk}(h:RFr s b ns vs):RFr (s.put c B) b ns vs:=h.le (by simp)
theorem hang_put{b c:Nat}{ns vs:Value}{B:Blk}(hc:Hang b ns vs c):Upd s (s.put c B) (Hang b ns vs) (Hang b ns vs):=
 ⟨by simp,fun d hd ho=>by rw[St.at_put,if_neg (fun e=>ho (by rw[e];exact hc))],fun d hd => .inl hd⟩
theorem RHpIn.setO(h:RHpIn lo s p H N O tg pf sl tl bs)(hlo:lo≤s.next){i:Int}{j b:Nat}{o':Ob}{ns vv ns' vv':Value}(hij:i=((j+1:Nat):Int))(hj:j<H.obs.length)(hb:bs[j]?=some b)(hO:∀ c,Hang b ns vv c→O c∧tg c=j+3)(hU:Upd s s' (Hang b ns vv) (Hang b ns' vv'))
  (hob:ROb s' b o'.L (.int .i64 (o'.proto:Int)) (.int .i64 (o'.epoch:Int)) (.int .i64 (o'.shape:Int)) ns' vv')(hfr:RFr s' b ns' vv')(hep:o'.epoch≤N)(hok:HOk (putO H i o')) :
  ∃ O' tg',RHpIn lo s' p (putO H i o') N O' tg' pf sl tl bs∧Upd s s' O O':=by
 subst hij
 have e:(((j+1:Nat):Int).toNat - 1)=j:=by omega
 unfold putO at *
 rw[e]at hok ⊢
 have hU2:Upd s s' (fun c=>O c∧tg c=j+3) (Hang b ns' vv'):=⟨hU.next,fun c hc ho=>hU.keep c hc fun h=>ho (hO c h),fun c hc=>(hU.own c hc).imp (hO c) id⟩
 have hB:RObAt lo s' N b o' (Hang b ns' vv'):=⟨fun c hc=>⟨by rcases hU.own c hc with h1|h1;exact (h.own c (hO c h1).1).1;omega,hfr.lt c hc⟩,.b,hep,ns',vv',hob,hfr,fun c hc=>hc⟩
 exact⟨_,_,h.newO hj hb hU2 hB hok,re_upd hU2⟩
theorem rdel_spec(h:RHpAt lo s p H N O)(hlo:lo≤s.next){i:Int}{x:ByteArray}(hN:N+3≤1000000)
  (hR:∀ s' O',RHpAt lo s' p (delH H i x) (N+3) O'→Upd s s' O O'→R (.bool (delB H i x)) s'):QC prog w0 42 #[.pointer (some ⟨p,0,none⟩),.int .i64 i,.string x] s R:=by
 refine wfun2 hmix ok42 func42 rfl ntmps42 results42 (by simp) ?_
 have hok:=del_ok h.ok i x
 have hpr:=del_pro h.1 i x
 obtain⟨hpro,tg,pf,sl,tl,bs,h⟩:=h
 simp -implicitDefEqProofs only[↓Zd,(Zp),simprocAttr,co98]
 refine rown_spec h fun s1 hs1=>?_
 have hn1:=hs1.1
 cases hgg:(obAt H i).bind fun o=>getP o.L x with
 |none =>
  have e1:delH H i x=H:=by
   unfold delH
   cases ho:obAt H i with
   |none=>rfl
   |some o =>
    rw[ho]at hgg
    have hgg:getP o.L x=none:=hgg
    simp only[hgg,Option.isSome_none,Bool.false_eq_true,if_false]
  have e2:delB H i x=false:=by unfold delB;rw[hgg];rfl
  rw[e1,e2]at hR
  simp only[gotV]
  simp -implicitDefEqProofs only[↓Zd,(Zp),simprocAttr,qP,Value.cells,qC,(HEx),vA]
  have l2:s.le ((s1.new (.cells [.int .i64 0,.int .i64 0,.string ⟨#[]⟩] 36 true)).put s1.next (.cells [.int .i64 0,.int .i64 0,.string ⟨#[]⟩] 36 true)):=lP (lN hs1) (by omega)
  exact hR _ _ ⟨hpro,tg,pf,sl,tl,bs,(h.le l2).mono (by omega)⟩ (.of_le l2)
 |some w =>
  obtain⟨o,hat,hgo⟩:=Option.bind_eq_some_iff.1 hgg
  have e1:delH H i x=putO H i { L:=delP o.L x,shape:=0,proto:=o.proto,epoch:=o.epoch+1 }:=by unfold delH;rw[hat];simp only[hgo,Option.isSome_some,if_true]
  have e2:delB H i x=true:=by unfold delB;rw[hgg];rfl
  rw[e1]at hok hpr
  rw[e1,e2]at hR
  obtain⟨w1,w2,w3⟩:=w
  obtain⟨j,rfl,hj,hjo⟩:=obAt_some hat
  have l2:s.le ((s1.new (.cells [.int .i64 0,.int .i64 0,.string ⟨#[]⟩] 36 true)).put s1.next (.cells [.int .i64 w1,.int .i64 w2,.string w3] 36 true)):=lP (lN hs1) (by omega)
  obtain⟨b,br,vs,own,ns,vv,hb,hB,esl,hbr,hg,hbrn,hob,hfr,hO⟩:=(h.le l2).at hjo
  have h1:=(h.le hs1).bl
  rw[esl]at h1
  have hpn:=(h.own p h.pin.1).2
  have hp2:¬ p=s1.next:=by omega
  have hbro:=(h.own _ (h.rowO _ _ _ esl).1).2
  simp only at hbro
  have hbr2:¬ br=s1.next:=by omega
  have hbra:s1.at' br=some (.cells vs 163 own):=by rw[St.at_put,if_neg hbr2,St.at_new,if_neg hbr2]at hbr;exact hbr
  have hk2:=ix_ok (n:=bs.length) (j:=j) (by rw[h.len];exact hj)
  have wj:=h.w hj
  have hep:=hB.ep
  have we:IntKind.i64.wrap ((o.epoch:Int)+1)=((o.epoch+1:Nat):Int):=by rw[wrap_i64 (by omega)];omega
  obtain⟨jx,hjx⟩:∃ jx,idxOf (keysP o.L) x=some jx:=by
   cases hx:idxOf (keysP o.L) x with
   |none=>rw[getP_no hx]at hgo;cases hgo
   |some jx=>exact⟨jx,rfl⟩
  simp only[gotV,vOf]
  simp -implicitDefEqProofs only[↓Zd,(Zp),simprocAttr,qP,Value.cells,qC,cld2,(HEx),(REx),vA,h1,hbra,hp2,hbr2,hg,hk2,wj,co99]
  refine rddel_spec hob hfr hjx fun s3 ns3 vs3 hob3 hfr3 hU3=>?_
  have g3:=hob3.bl
  simp -implicitDefEqProofs only[↓Zd,(Zp),simprocAttr,qP,Value.cells,qC,cld2,(HEx),(REx),g3,we]
  have hob4:=(hob3.head hfr3 (.int .i64 (o.proto:Int)) (.int .i64 ((o.epoch+1:Nat):Int)) (.int .i64 (o.shape:Int))).head hfr3.put (.int .i64 (o.proto:Int)) (.int .i64 ((o.epoch+1:Nat):Int)) (.int .i64 0)
  obtain⟨O',tg',h4,hU4⟩:=((h.le l2).mono (N':=N+3) (by omega)).setO (o':={ L:=delP o.L x,shape:=0,proto:=o.proto,epoch:=o.epoch+1 }) (by have:=l2.1;omega) rfl hj hb hO ((hU3.trans (hang_put .b)).trans (hang_put .b)) hob4 hfr3.put.put (by show o.epoch+1≤_;omega) hok
  exact hR _ _ ⟨hpr,_,_,_,_,_,h4⟩ ((Upd.of_le l2).trans hU4)
end
theorem next_zero(H:Hp)(x:ByteArray):nextH H ((0:Nat):Int) x=H∧nextN H ((0:Nat):Int) x=0:=by
 have h0:shAt H.F ((0:Nat):Int)=none:=shAt_out (by omega)
 unfold nextH nextN
 rw[h0]
 exact⟨rfl,rfl⟩
theorem setH_new{H:Hp}{i:Int}{x:ByteArray}{v:V3}{o:Ob}(ho:obAt H i=some o)(hg:getP o.L x=none)(hl:¬ H.maxP≤o.L.length) :
  setH H i x v=putO (nextH H (o.shape:Int) x) i { L:=setP o.L x v,shape:=nextN H (o.shape:Int) x,proto:=o.proto,epoch:=o.epoch+1 }:=by
 unfold setH
 rw[ho]
 simp only[hg,Option.isSome_none,Bool.false_eq_true,if_false,if_neg hl]
 split
 ·rename_i hs
  rw[hs,(next_zero H x).1,(next_zero H x).2]
 ·rfl
section
variable {M:Type}[Mem M]{w0:World}{s s':St M}{R:Value→St M→Prop}{lo p N pf:Nat}{H:Hp}{O:Nat→Prop}{tg:Nat→Nat}{sl tl:Value}{bs:List Nat}
theorem rset_spec(h:RHpAt lo s p H N O)(hlo:lo≤s.next){i:Int}{x y:ByteArray}{k n:Int}(hN:N+3≤1000000)
  (hR:∀ s' O',RHpAt lo s' p (setH H i x (k,n,y)) (N+3) O'→Upd s s' O O'→R (.int .i64 (setE H i x)) s'):QC prog w0 41 #[.pointer (some ⟨p,0,none⟩),.int .i64 i,.string x,vA k n y] s R:=by
 refine wfun2 hmix ok41 func41 rfl ntmps41 results41 (by simp) ?_
 have hok:=set_ok h.ok i x (k,n,y)
 have hpr:=set_pro h.ok h.1 i x (k,n,y)
 obtain⟨hpro,tg,pf,sl,tl,bs,h⟩:=h
 have l1:s.le (s.new (.cells [.int .i64 k,.int .i64 n,.string y] 36 true)):=lN (lR _)
 simp -implicitDefEqProofs only[↓Zd,(Zp),simprocAttr,qP,Value.cells,(HEx),vA,co94]
 refine rhas_spec (h.le l1) ?_
 cases hat:obAt H i with
 |none =>
  have e1:setH H i x (k,n,y)=H:=by unfold setH;rw[hat]
  have e2:setE H i x=4:=by unfold setE;rw[hat]
  rw[e1,e2]at hR
  simp -implicitDefEqProofs only[↓Zd,(Zp),simprocAttr,(HEx),vA]
  exact hR _ _ ⟨hpro,tg,pf,sl,tl,bs,(h.le l1).mono (by omega)⟩ (.of_le l1)
 |some o =>
  obtain⟨j,hij,hj,hjo⟩:=obAt_some hat
  obtain⟨b,br,vs,own,ns,vv,hb,hB,esl,hbr,hg,hbrn,hob,hfr,hO⟩:=h.at hjo
  have hk2:=ix_ok (n:=bs.length) (j:=j) (by rw[h.len];exact hj)
  have wj:=h.w hj
  have h1:=h.bl
  rw[esl]at h1
  have hpn:=(h.own p h.pin.1).2
  have hp0:¬ p=s.next:=by omega
  have hbr0:¬ br=s.next:=by omega
  subst hij
  simp -implicitDefEqProofs only[↓Zd,(Zp),simprocAttr,cld2,(HEx),(REx),vA,h1,hp0,hbr0,hbr,hg,hk2,wj,co95]
  refine rdget_spec (hob.le hfr l1) (hfr.le l1.1) fun s1 hs1=>?_
  have hle1:=lT l1 hs1
  have hn1:=hs1.1
  simp only[St.next_new]at hn1
  have c7:s1.at' s.next=some (.cells [.int .i64 k,.int .i64 n,.string y] 36 true):=by rw[hs1.2 _ (by simp only[St.next_new];omega),St.at_new,if_pos rfl]
  have hs2:¬ s.next=s1.next:=by omega
  have hep:=hB.ep
  cases hgp:getP o.L x with
  |some w =>
   obtain⟨w1,w2,w3⟩:=w
   have e1:setH H ((j+1:Nat):Int) x (k,n,y)=putO H ((j+1:Nat):Int) { o with L:=setP o.L x (k,n,y) }:=by unfold setH;rw[hat];simp only[hgp,Option.isSome_some,if_true]
   have e2:setE H ((j+1:Nat):Int) x=0:=by unfold setE;rw[hat];simp only[hgp,Option.isSome_some,if_true]
   rw[e1]at hok hpr hR
   rw[e2]at hR
   have l2:s.le ((s1.new (.cells [.int .i64 0,.int .i64 0,.string ⟨#[]⟩] 36 true)).put s1.next (.cells [.int .i64 w1,.int .i64 w2,.string w3] 36 true)):=lP (lN hle1) (by omega)
   simp only[gotV,vOf]
   simp -implicitDefEqProofs only[↓Zd,(Zp),simprocAttr,qP,Value.cells,cut,qC,cld2,(HEx),(REx),vA,c7,hs2,ord41,co97]
   refine rdset_spec (hob.le hfr l2) (hfr.le l2.1) (h.ok.keys j o hjo) (by have:=h.ok.lens j o hjo;have:=h.ok.lim;omega) fun s3 ns3 vs3 hob3 hfr3 hU3=>?_
   simp -implicitDefEqProofs only[↓Zd,(Zp),simprocAttr,(HEx)]
   obtain⟨O',tg',h4,hU4⟩:=((h.le l2).mono (N':=N+3) (by omega)).setO (o':={ o with L:=setP o.L x (k,n,y) }) (by have:=l2.1;omega) rfl hj hb hO hU3 hob3 hfr3 (by show o.epoch≤_;omega) hok
   exact hR _ _ ⟨hpr,_,_,_,_,_,h4⟩ ((Upd.of_le l2).trans hU4)
  |none =>
   have hob1:=hob.le hfr hle1
   obtain⟨qn,cn,en⟩:=slc_form hob.nm
   have g1:=hob1.bl
   rw[en]at g1
   have hkl:=keysP_len o.L
   have hbn:=hfr.bn
   have hb1:¬ b=s1.next:=by omega
   have hp1:¬ p=s1.next:=by omega
   have h11:=(h.le hle1).bl
   rw[esl]at h11
   have l2:s.le ((s1.new (.cells [.int .i64 0,.int .i64 0,.string ⟨#[]⟩] 36 true)).put s1.next (.cells [.int .i64 0,.int .i64 0,.string ⟨#[]⟩] 36 true)):=lP (lN hle1) (by omega)
   simp only[gotV]
   by_cases hl:(H.maxP:Int)≤((keysP o.L).length:Int)
   ·have hl':H.maxP≤o.L.length:=by omega
    have e1:setH H ((j+1:Nat):Int) x (k,n,y)=H:=by unfold setH;rw[hat];simp only[hgp,Option.isSome_none,Bool.false_eq_true,if_false,if_pos hl']
    have e2:setE H ((j+1:Nat):Int) x=42:=by unfold setE;rw[hat];simp only[hgp,Option.isSome_none,Bool.false_eq_true,if_false,if_pos hl']
    rw[e1,e2]at hR
    simp -implicitDefEqProofs only[↓Zd,(Zp),simprocAttr,qP,Value.cells,qC,cld2,(HEx),(REx),vA,g1,hb1,hp1,h11,hl,ord41]
    exact hR _ _ ⟨hpro,tg,pf,sl,tl,bs,(h.le l2).mono (by omega)⟩ (.of_le l2)
   ·have hl':¬ H.maxP≤o.L.length:=by omega
    rw[setH_new hat hgp hl']at hok hpr hR
    have e2:setE H ((j+1:Nat):Int) x=0:=by unfold setE;rw[hat];simp only[hgp,Option.isSome_none,Bool.false_eq_true,if_false,if_neg hl']
    rw[e2]at hR
    have we:IntKind.i64.wrap ((o.epoch:Int)+1)=((o.epoch+1:Nat):Int):=by rw[wrap_i64 (by omega)];omega
    have hsh:o.shape≤150:=by
     by_cases h0:o.shape=0
     ·omega
     ·obtain⟨q0,l,h1,_⟩:=h.ok.fits j o hjo (by omega)
      have:=(List.getElem?_eq_some_iff.1 h1).1
      have:=h.fo.le
      omega
    simp -implicitDefEqProofs only[↓Zd,(Zp),simprocAttr,qP,Value.cells,qC,cld2,(HEx),(REx),vA,g1,hb1,hp1,h11,hl,we,ord41,co96]
    have hob2:=hob.le hfr l2
    have hfr2:=hfr.le l2.1
    obtain⟨O3,tg3,h3,hU3⟩:=((h.le l2).mono (N':=N+1) (by omega)).setO (o':={ o with epoch:=o.epoch+1 }) (by have:=l2.1;omega) rfl hj hb hO (hang_put .b) (hob2.head hfr2 (.int .i64 (o.proto:Int)) (.int .i64 ((o.epoch+1:Nat):Int)) (.int .i64 (o.shape:Int))) hfr2.put (by show o.epoch+1≤_;omega) (bump_ok h.ok hat (o.epoch+1))
    rw[en]at h3 hU3
    refine rnext_spec h3 (by simp only[(Sn)];omega) (by omega) (by omega) fun s5 O5 tg5 tl5 h5 hU5=>?_
    rw[next_put]at h5
    have hj5:j<(nextH H (o.shape:Int) x).obs.length:=by rw[(next_obs H _ x).1];exact hj
    have ho5:=putO_at (H:=nextH H (o.shape:Int) x) (i:=((j+1:Nat):Int)) (o:=o) (a:={ o with epoch:=o.epoch+1 }) rfl hj5
    obtain⟨b',br',vs',own',ns5,vv5,hb',hB5,_,_,_,_,hob5,hfr5,hO5⟩:=h5.at ho5
    rw[hb]at hb'
    cases hb'
    have g5:=hob5.bl
    have hN3:nextN (putO H ((j+1:Nat):Int) { o with epoch:=o.epoch+1 }) (o.shape:Int) x=nextN H (o.shape:Int) x:=rfl
    have hn5:=hU5.next
    simp only[(Sn)]at hn5
    have hsne:¬ s.next=b:=by omega
    have c75:s5.at' s.next=some (.cells [.int .i64 k,.int .i64 n,.string y] 36 true):=by
     rw[hU5.keep _ (by simp only[(Sn)];omega) (fun hc=>?_),St.at_put,if_neg hsne,St.at_put,if_neg hs2,St.at_new,if_neg hs2]
     ·exact c7
     ·rcases hU3.own _ hc with g|g
      ·have:=(h.own _ g).2;omega
      ·simp only[(Sn)]at g;omega
    rw[hN3]
    simp -implicitDefEqProofs only[↓Zd,(Zp),simprocAttr,qP,Value.cells,cut,qC,cld2,(HEx),(REx),g5,c75,hsne,co97]
    refine rdset_spec (hob5.head hfr5 (.int .i64 (o.proto:Int)) (.int .i64 ((o.epoch+1:Nat):Int)) (.int .i64 ((nextN H (o.shape:Int) x:Nat):Int))) hfr5.put (h.ok.keys j o hjo) (by have:=h.ok.lens j o hjo;have:=h.ok.lim;show o.L.length<_;omega) fun s7 ns7 vs7 hob7 hfr7 hU7=>?_
    simp -implicitDefEqProofs only[↓Zd,(Zp),simprocAttr,(HEx)]
    obtain⟨O',tg',h8,hU8⟩:=(h5.mono (N':=N+3) (by omega)).setO (o':={ L:=setP o.L x (k,n,y),shape:=nextN H (o.shape:Int) x,proto:=o.proto,epoch:=o.epoch+1 }) (by omega) rfl (by show j<(List.set _ _ _).length;rw[List.length_set];exact hj5) hb hO5 ((hang_put .b).trans hU7) hob7 hfr7 (by show o.epoch+1≤_;omega) (by rw[putO_put];exact hok)
    rw[putO_put]at h8
    exact hR _ _ ⟨hpr,_,_,_,_,_,h8⟩ ((((Upd.of_le l2).trans hU3).trans hU5).trans hU8)
end
section
variable {M:Type}[Mem M]{w0:World}{s s':St M}{R:Value→St M→Prop}{lo p N pf:Nat}{H:Hp}{O:Nat→Prop}{tg:Nat→Nat}{sl tl:Value}{bs:List Nat}
theorem rsetproto_spec(h:RHpAt lo s p H N O)(hlo:lo≤s.next){i q:Int}(hN:N+3≤1000000)
  (hR:∀ s' O',RHpAt lo s' p (protoH H i q) (N+3) O'→Upd s s' O O'→R (.int .i64 (protoE H i q)) s'):QC prog w0 43 #[.pointer (some ⟨p,0,none⟩),.int .i64 i,.int .i64 q] s R:=by
 refine wfun2 hmix ok43 func43 rfl ntmps43 results43 (by simp) ?_
 obtain⟨hpro,tg,pf,sl,tl,bs,h⟩:=h
 have hmono:=h.mono (N':=N+3) (by omega)
 have hno4:protoE H i q=4→R (.int .i64 4) s:=fun e=>by
  have:=hR s O
  rw[e]at this
  have e1:protoH H i q=H:=by unfold protoH;rw[if_neg (by omega)]
  rw[e1]at this
  exact this ⟨hpro,_,_,_,_,_,hmono⟩ .refl
 have hno32:protoE H i q=32→R (.int .i64 32) s:=fun e=>by
  have:=hR s O
  rw[e]at this
  have e1:protoH H i q=H:=by unfold protoH;rw[if_neg (by omega)]
  rw[e1]at this
  exact this ⟨hpro,_,_,_,_,_,hmono⟩ .refl
 cases hat:obAt H i with
 |none =>
  have e:protoE H i q=4:=by unfold protoE;rw[if_pos (.inl hat)]
  simp -implicitDefEqProofs only[↓Zd,(Zp),simprocAttr,co94]
  refine rhas_spec h ?_
  rw[hat]
  simp -implicitDefEqProofs only[↓Zd,(Zp),simprocAttr,(HEx)]
  exact hno4 e
 |some o =>
  obtain⟨j,rfl,hj,ho⟩:=obAt_some hat
  obtain⟨b,br,vs,own,ns,vv,hb,hB,esl,hbr,hg,hbrn,hob,hfr,hO⟩:=h.at ho
  have hk2:=ix_ok (n:=bs.length) (j:=j) (by rw[h.len];exact hj)
  have wj:=h.w hj
  have h1:=h.bl
  rw[esl]at h1
  have g1:=hob.bl
  have hep:=hB.ep
  have w1:IntKind.i64.wrap ((o.epoch:Int)+1)=((o.epoch+1:Nat):Int):=by rw[wrap_i64 (by omega)];omega
  have hlim:=h.ok.lim
  obtain⟨d,hd,hfew⟩:=deep_few h.ok
  by_cases q0:q=0
  ·obtain rfl:q=((0:Nat):Int):=by omega
   simp -implicitDefEqProofs only[↓Zd,(Zp),simprocAttr,co94]
   refine rhas_spec h ?_
   rw[hat]
   have hqok:¬ (obAt H ((j+1:Nat):Int)=none∨(((0:Nat):Int)≠0∧obAt H ((0:Nat):Int)=none)):=by rintro (h|h);rw[hat]at h;cases h;exact h.1 rfl
   have hup:onB H ((j+1:Nat):Int) ((0:Nat):Int)=false→HOk (putO H ((j+1:Nat):Int) { o with proto:=0,epoch:=o.epoch+1 }):=fun hon=>by
    unfold putO
    rw[show ((j+1:Nat):Int).toNat - 1=j by omega]
    exact h.ok.upd (F':=H.F) (T':=H.T) ho (fun _ _ h=>h) (fun _ _ _=>rfl) (Nat.le_refl _) h.ok.nodup h.ok.ids (fun h2=>h.ok.fits j o ho h2) (h.ok.keys j o ho) (h.ok.lens j o ho) (proto_up h.ok ho (.inl rfl) hon rfl)
   have hst:0=0∨∃ u,H.obs[0 - 1]?=some u∧d 0+0<H.obs.length := .inl rfl
   simp -implicitDefEqProofs only[↓Zd,(Zp),simprocAttr,(HEx)]
   refine wloop_inv hmix (fun fuel env s1=>∃ (k a:Nat),fuel=H.obs.length+1 - k∧k≤H.obs.length∧env 8 = .int .i64 (k:Int)∧env 7 = .int .i64 (a:Int)∧env 0 = .pointer (some ⟨p,0,none⟩)∧env 1 = .int .i64 ((j+1:Nat):Int)∧env 2 = .int .i64 ((0:Nat):Int)∧s1=s∧(∀ v,OnR H ((j+1:Nat):Int) (a:Int) v→OnR H ((j+1:Nat):Int) ((0:Nat):Int) v)∧(a=0∨∃ u,H.obs[a - 1]?=some u∧d a+k<H.obs.length)) (H.obs.length+1) ⟨0,0,rfl,by omega,rfl,rfl,rfl,rfl,rfl,rfl,fun v hv=>hv,hst⟩ ?_
   rintro fuel env s1 ⟨k,a,rfl,hk,e8,e7,e0,e1,e2,rfl,himp,hda⟩
   have hkl:(k:Int)≤(bs.length:Int):=by have:=h.len;omega
   by_cases a0:(a:Int)=0
   ·have hon:onB H ((j+1:Nat):Int) ((0:Nat):Int)=false:=(himp false (by rw[a0];exact .zero (by omega))).eq
    have e:protoE H ((j+1:Nat):Int) ((0:Nat):Int)=0:=by unfold protoE;rw[if_neg hqok,if_neg (by rw[hon];simp)]
    have hok:=proto_ok h.ok ((j+1:Nat):Int) ((0:Nat):Int)
    have hpr:=proto_pro h.ok hpro ((j+1:Nat):Int) ((0:Nat):Int)
    have hob2:=(hob.head hfr (.int .i64 ((0:Nat):Int)) (.int .i64 (o.epoch:Int)) (.int .i64 (o.shape:Int))).head hfr.put (.int .i64 ((0:Nat):Int)) (.int .i64 ((o.epoch+1:Nat):Int)) (.int .i64 (o.shape:Int))
    obtain⟨O2,tg2,h2,hU2⟩:=hmono.setO (o':={ o with proto:=0,epoch:=o.epoch+1 }) hlo rfl hj hb hO ((hang_put .b).trans (hang_put .b)) hob2 hfr.put.put (by show o.epoch+1≤_;omega) (hup hon)
    by_cases hsp:(0:Int)<(o.shape:Int)
    ·have h0:¬ o.shape=0:=by omega
     have e3:protoH H ((j+1:Nat):Int) ((0:Nat):Int)=putO { H with F:=moveF H.F H.most o.shape (0) } ((j+1:Nat):Int) { o with proto:=0,epoch:=o.epoch+1,shape:=moveN H.F H.most o.shape (0) }:=by unfold protoH;rw[if_pos e,hat];simp only[if_neg h0];rfl
     rw[e3]at hok hpr hR
     rw[e]at hR
     have hsh:o.shape≤150:=by
      obtain⟨q0,l,h1,_⟩:=h.ok.fits j o ho (by omega)
      have:=(List.getElem?_eq_some_iff.1 h1).1
      have:=h.fo.le
      omega
     have hpb:¬ p=b:=fun e=>by have h1:=h.pin.2;have h2:=(hO _ .b).2;rw[e]at h1;omega
     have hbrb:¬ br=b:=fun e=>by have h1:=(h.rowO _ _ _ esl).2.1;have h2:=(hO _ .b).2;simp only at h1;rw[e]at h1;omega
     simp -implicitDefEqProofs only[↓Zd,(Zp),simprocAttr,qP,Value.cells,qC,cld2,(HEx),(REx),e8,e7,e0,e1,e2,h1,hkl,a0,hbr,hg,hk2,wj,g1,w1,hsp,hpb,ord43,co101]
     refine rfmove_spec (q:=0) h2.fo (by simp only[St.next_put];omega) (by omega) fun s4 O4 hF4 hU4=>?_
     have h4:=h2.newF hU4 hF4 (move_ok h2.ok o.shape (0))
     have hj4:(putO H ((j+1:Nat):Int) { o with proto:=0,epoch:=o.epoch+1 }).obs[j]?=some { o with proto:=0,epoch:=o.epoch+1 }:=putO_at (o:=o) rfl hj
     obtain⟨b',br',vs',own',ns5,vv5,hb',hB5,_,_,_,_,hob5,hfr5,hO5⟩:=h4.at hj4
     rw[hb]at hb'
     cases hb'
     have g5:=hob5.bl
     have hn4:=hU4.next
     simp only[St.next_put]at hn4
     simp -implicitDefEqProofs only[↓Zd,(Zp),simprocAttr,qP,Value.cells,qC,(HEx),(REx),g5]
     obtain⟨O',tg',h8,hU8⟩:=h4.setO (o':={ o with proto:=0,epoch:=o.epoch+1,shape:=moveN H.F H.most o.shape (0) }) (by omega) rfl (by show j<(List.set _ _ _).length;rw[List.length_set];exact hj) hb hO5 (hang_put .b) (hob5.head hfr5 (.int .i64 ((0:Nat):Int)) (.int .i64 ((o.epoch+1:Nat):Int)) (.int .i64 ((moveN H.F H.most o.shape (0):Nat):Int))) hfr5.put (by show o.epoch+1≤_;omega) (by rw[putO_putF];exact hok)
     rw[putO_putF]at h8
     exact hR _ _ ⟨hpr,_,_,_,_,_,h8⟩ ((hU2.trans (re_upd hU4)).trans hU8)
    ·have h0:o.shape=0:=by omega
     have e3:protoH H ((j+1:Nat):Int) ((0:Nat):Int)=putO H ((j+1:Nat):Int) { o with proto:=0,epoch:=o.epoch+1 }:=by unfold protoH;rw[if_pos e,hat];simp only[if_pos h0];rfl
     rw[e3]at hok hpr hR
     rw[e]at hR
     simp -implicitDefEqProofs only[↓Zd,(Zp),simprocAttr,qP,Value.cells,qC,cld2,(HEx),(REx),e8,e7,e0,e1,e2,h1,hkl,a0,hbr,hg,hk2,wj,g1,w1,hsp]
     exact hR _ _ ⟨hpr,_,_,_,_,_,h2⟩ hU2
   ·rcases hda with hda|⟨u,hu,hdu⟩
    ·omega
    by_cases ai:(a:Int)=((j+1:Nat):Int)
    ·have hon:onB H ((j+1:Nat):Int) ((0:Nat):Int)=true:=(himp true (by rw[ai];exact .here)).eq
     have e:protoE H ((j+1:Nat):Int) ((0:Nat):Int)=32:=by unfold protoE;rw[if_neg hqok,if_pos hon]
     have aj:¬ ((j+1:Nat):Int)=0:=by omega
     simp -implicitDefEqProofs only[↓Zd,(Zp),simprocAttr,cld2,(REx),e8,e7,e0,e1,h1,hkl,ai,aj]
     exact hno32 e
    ·have wk:IntKind.i64.wrap ((k:Int)+1)=((k+1:Nat):Int):=by rw[wrap_i64 (by omega)];omega
     have hau:obAt H (a:Int)=some u:=by
      obtain⟨a',rfl⟩:∃ a',a=a'+1:=⟨a - 1,by omega⟩
      rw[obAt_get];exact hu
     have hpv:protoV H (a:Int)=(u.proto:Int):=by unfold protoV;rw[hau]
     simp -implicitDefEqProofs only[↓Zd,(Zp),simprocAttr,cld2,(REx),e8,e7,e0,e1,h1,hkl,a0,ai,co100]
     refine rproto_spec h ?_
     rw[hpv]
     simp -implicitDefEqProofs only[↓Zd,(Zp),simprocAttr,(HEx),e8,e0,e1,e2,wk]
     refine⟨H.obs.length+1 - (k+1),by omega,k+1,u.proto,rfl,by omega,rfl,rfl,fun v hv=>himp v (.up a0 ai (by rw[hpv];exact hv)),?_⟩
     rcases hd (a - 1) u hu with h0|⟨h3,h4⟩
     ·exact .inl h0
     ·by_cases hz:u.proto=0
      ·exact .inl hz
      ·refine .inr ⟨H.obs[u.proto - 1]'(by omega),List.getElem?_eq_getElem _,?_⟩
       rw[show a - 1+1=a by omega]at h4
       omega
  ·simp -implicitDefEqProofs only[↓Zd,(Zp),simprocAttr,co94]
   refine rhas_spec h ?_
   rw[hat]
   simp -implicitDefEqProofs only[↓Zd,(Zp),simprocAttr,(HEx),q0,co94]
   refine rhas_spec h ?_
   cases hat2:obAt H q with
   |none =>
    have e:protoE H ((j+1:Nat):Int) q=4:=by unfold protoE;rw[if_pos (.inr ⟨q0,hat2⟩)]
    simp -implicitDefEqProofs only[↓Zd,(Zp),simprocAttr,(HEx)]
    exact hno4 e
   |some o2 =>
    obtain⟨j2,rfl,hj2,ho2⟩:=obAt_some hat2
    have hqok:¬ (obAt H ((j+1:Nat):Int)=none∨(((j2+1:Nat):Int)≠0∧obAt H ((j2+1:Nat):Int)=none)):=by rintro (h|h);rw[hat]at h;cases h;rw[hat2]at h;cases h.2
    have hup:onB H ((j+1:Nat):Int) ((j2+1:Nat):Int)=false→HOk (putO H ((j+1:Nat):Int) { o with proto:=j2+1,epoch:=o.epoch+1 }):=fun hon=>by
     unfold putO
     rw[show ((j+1:Nat):Int).toNat - 1=j by omega]
     exact h.ok.upd (F':=H.F) (T':=H.T) ho (fun _ _ h=>h) (fun _ _ _=>rfl) (Nat.le_refl _) h.ok.nodup h.ok.ids (fun h2=>h.ok.fits j o ho h2) (h.ok.keys j o ho) (h.ok.lens j o ho) (proto_up h.ok ho (.inr (by omega)) hon rfl)
    have hst:j2+1=0∨∃ u,H.obs[j2+1 - 1]?=some u∧d (j2+1)+0<H.obs.length := .inr ⟨o2,ho2,by have:=hfew j2 hj2;omega⟩
    simp -implicitDefEqProofs only[↓Zd,(Zp),simprocAttr,(HEx)]
    refine wloop_inv hmix (fun fuel env s1=>∃ (k a:Nat),fuel=H.obs.length+1 - k∧k≤H.obs.length∧env 8 = .int .i64 (k:Int)∧env 7 = .int .i64 (a:Int)∧env 0 = .pointer (some ⟨p,0,none⟩)∧env 1 = .int .i64 ((j+1:Nat):Int)∧env 2 = .int .i64 ((j2+1:Nat):Int)∧s1=s∧(∀ v,OnR H ((j+1:Nat):Int) (a:Int) v→OnR H ((j+1:Nat):Int) ((j2+1:Nat):Int) v)∧(a=0∨∃ u,H.obs[a - 1]?=some u∧d a+k<H.obs.length)) (H.obs.length+1) ⟨0,j2+1,rfl,by omega,rfl,rfl,rfl,rfl,rfl,rfl,fun v hv=>hv,hst⟩ ?_
    rintro fuel env s1 ⟨k,a,rfl,hk,e8,e7,e0,e1,e2,rfl,himp,hda⟩
    have hkl:(k:Int)≤(bs.length:Int):=by have:=h.len;omega
    by_cases a0:(a:Int)=0
    ·have hon:onB H ((j+1:Nat):Int) ((j2+1:Nat):Int)=false:=(himp false (by rw[a0];exact .zero (by omega))).eq
     have e:protoE H ((j+1:Nat):Int) ((j2+1:Nat):Int)=0:=by unfold protoE;rw[if_neg hqok,if_neg (by rw[hon];simp)]
     have hok:=proto_ok h.ok ((j+1:Nat):Int) ((j2+1:Nat):Int)
     have hpr:=proto_pro h.ok hpro ((j+1:Nat):Int) ((j2+1:Nat):Int)
     have hob2:=(hob.head hfr (.int .i64 ((j2+1:Nat):Int)) (.int .i64 (o.epoch:Int)) (.int .i64 (o.shape:Int))).head hfr.put (.int .i64 ((j2+1:Nat):Int)) (.int .i64 ((o.epoch+1:Nat):Int)) (.int .i64 (o.shape:Int))
     obtain⟨O2,tg2,h2,hU2⟩:=hmono.setO (o':={ o with proto:=j2+1,epoch:=o.epoch+1 }) hlo rfl hj hb hO ((hang_put .b).trans (hang_put .b)) hob2 hfr.put.put (by show o.epoch+1≤_;omega) (hup hon)
     by_cases hsp:(0:Int)<(o.shape:Int)
     ·have h0:¬ o.shape=0:=by omega
      have e3:protoH H ((j+1:Nat):Int) ((j2+1:Nat):Int)=putO { H with F:=moveF H.F H.most o.shape (j2+1) } ((j+1:Nat):Int) { o with proto:=j2+1,epoch:=o.epoch+1,shape:=moveN H.F H.most o.shape (j2+1) }:=by unfold protoH;rw[if_pos e,hat];simp only[if_neg h0];rfl
      rw[e3]at hok hpr hR
      rw[e]at hR
      have hsh:o.shape≤150:=by
       obtain⟨q0,l,h1,_⟩:=h.ok.fits j o ho (by omega)
       have:=(List.getElem?_eq_some_iff.1 h1).1
       have:=h.fo.le
       omega
      have hpb:¬ p=b:=fun e=>by have h1:=h.pin.2;have h2:=(hO _ .b).2;rw[e]at h1;omega
      have hbrb:¬ br=b:=fun e=>by have h1:=(h.rowO _ _ _ esl).2.1;have h2:=(hO _ .b).2;simp only at h1;rw[e]at h1;omega
      simp -implicitDefEqProofs only[↓Zd,(Zp),simprocAttr,qP,Value.cells,qC,cld2,(HEx),(REx),e8,e7,e0,e1,e2,h1,hkl,a0,hbr,hg,hk2,wj,g1,w1,hsp,hpb,ord43,co101]
      refine rfmove_spec (q:=j2+1) h2.fo (by simp only[St.next_put];omega) (by omega) fun s4 O4 hF4 hU4=>?_
      have h4:=h2.newF hU4 hF4 (move_ok h2.ok o.shape (j2+1))
      have hj4:(putO H ((j+1:Nat):Int) { o with proto:=j2+1,epoch:=o.epoch+1 }).obs[j]?=some { o with proto:=j2+1,epoch:=o.epoch+1 }:=putO_at (o:=o) rfl hj
      obtain⟨b',br',vs',own',ns5,vv5,hb',hB5,_,_,_,_,hob5,hfr5,hO5⟩:=h4.at hj4
      rw[hb]at hb'
      cases hb'
      have g5:=hob5.bl
      have hn4:=hU4.next
      simp only[St.next_put]at hn4
      simp -implicitDefEqProofs only[↓Zd,(Zp),simprocAttr,qP,Value.cells,qC,(HEx),(REx),g5]
      obtain⟨O',tg',h8,hU8⟩:=h4.setO (o':={ o with proto:=j2+1,epoch:=o.epoch+1,shape:=moveN H.F H.most o.shape (j2+1) }) (by omega) rfl (by show j<(List.set _ _ _).length;rw[List.length_set];exact hj) hb hO5 (hang_put .b) (hob5.head hfr5 (.int .i64 ((j2+1:Nat):Int)) (.int .i64 ((o.epoch+1:Nat):Int)) (.int .i64 ((moveN H.F H.most o.shape (j2+1):Nat):Int))) hfr5.put (by show o.epoch+1≤_;omega) (by rw[putO_putF];exact hok)
      rw[putO_putF]at h8
      exact hR _ _ ⟨hpr,_,_,_,_,_,h8⟩ ((hU2.trans (re_upd hU4)).trans hU8)
     ·have h0:o.shape=0:=by omega
      have e3:protoH H ((j+1:Nat):Int) ((j2+1:Nat):Int)=putO H ((j+1:Nat):Int) { o with proto:=j2+1,epoch:=o.epoch+1 }:=by unfold protoH;rw[if_pos e,hat];simp only[if_pos h0];rfl
      rw[e3]at hok hpr hR
      rw[e]at hR
      simp -implicitDefEqProofs only[↓Zd,(Zp),simprocAttr,qP,Value.cells,qC,cld2,(HEx),(REx),e8,e7,e0,e1,e2,h1,hkl,a0,hbr,hg,hk2,wj,g1,w1,hsp]
      exact hR _ _ ⟨hpr,_,_,_,_,_,h2⟩ hU2
    ·rcases hda with hda|⟨u,hu,hdu⟩
     ·omega
     by_cases ai:(a:Int)=((j+1:Nat):Int)
     ·have hon:onB H ((j+1:Nat):Int) ((j2+1:Nat):Int)=true:=(himp true (by rw[ai];exact .here)).eq
      have e:protoE H ((j+1:Nat):Int) ((j2+1:Nat):Int)=32:=by unfold protoE;rw[if_neg hqok,if_pos hon]
      have aj:¬ ((j+1:Nat):Int)=0:=by omega
      simp -implicitDefEqProofs only[↓Zd,(Zp),simprocAttr,cld2,(REx),e8,e7,e0,e1,h1,hkl,ai,aj]
      exact hno32 e
     ·have wk:IntKind.i64.wrap ((k:Int)+1)=((k+1:Nat):Int):=by rw[wrap_i64 (by omega)];omega
      have hau:obAt H (a:Int)=some u:=by
       obtain⟨a',rfl⟩:∃ a',a=a'+1:=⟨a - 1,by omega⟩
       rw[obAt_get];exact hu
      have hpv:protoV H (a:Int)=(u.proto:Int):=by unfold protoV;rw[hau]
      simp -implicitDefEqProofs only[↓Zd,(Zp),simprocAttr,cld2,(REx),e8,e7,e0,e1,h1,hkl,a0,ai,co100]
      refine rproto_spec h ?_
      rw[hpv]
      simp -implicitDefEqProofs only[↓Zd,(Zp),simprocAttr,(HEx),e8,e0,e1,e2,wk]
      refine⟨H.obs.length+1 - (k+1),by omega,k+1,u.proto,rfl,by omega,rfl,rfl,fun v hv=>himp v (.up a0 ai (by rw[hpv];exact hv)),?_⟩
      rcases hd (a - 1) u hu with h0|⟨h3,h4⟩
      ·exact .inl h0
      ·by_cases hz:u.proto=0
       ·exact .inl hz
       ·refine .inr ⟨H.obs[u.proto - 1]'(by omega),List.getElem?_eq_getElem _,?_⟩
        rw[show a - 1+1=a by omega]at h4
        omega
end
theorem rowRPtr(a:Option Addr):crow prog 77 1 #[(0,.pointer a)]=some (.cells [.pointer a] 163 true):=by kernel_rfl
theorem infoRPtr:∃ ie,prog.info? 163=some ie∧ie.size=1∧0<ie.bytes∧ie.bytes≤100:=by
 obtain⟨ie,h⟩:=Option.isSome_iff_exists.1 is163
 have h1:=ce163
 have h2:decide (0<prog.bytesOf 163∧prog.bytesOf 163≤100)=true:=by kernel_rfl
 rw[cellsOf_info h]at h1
 simp only[Program.bytesOf,h,decide_eq_true_eq]at h2
 exact⟨ie,h,h1,h2.1,h2.2⟩
section
variable {lo p N:Nat}{H:Hp}{O:Nat→Prop}
theorem wch_app_rptr{s:St M}{sl:Value}{l:List Nat}{a:Nat}{K:Value→St M→Prop}(hlen:l.length≤1000000)(hsl:SlU 163 1 s sl (ptrs l) l.length)(hfr:∀ q m c,sl = .slice (some q) m c→q.block<s.next)
  (h:∀ s',s'.next=s.next+2→s'.at' (s.next+1)=some (.cells (ptrs (l ++ [a])) 163 true)→(∀ b,b<s.next→(∀ q n c,sl = .slice (some q) n c→b≠q.block)→s'.at' b=s.at' b)→K (.slice (some ⟨s.next+1,0,none⟩) (l.length+1) UNK) s') :
  wch (capp prog #[77,77] #[sl,.slice (some ⟨s.next,0,none⟩) 1 1] (s.new (.cells [.pointer (some ⟨a,0,none⟩)] 163 true))) K:=by
 obtain⟨ie,hie,h1,h2,h3⟩:=infoRPtr
 have hcapp:capp prog #[77,77] #[sl,.slice (some ⟨s.next,0,none⟩) 1 1] (s.new (.cells [.pointer (some ⟨a,0,none⟩)] 163 true))=capp3 prog 163 ie sl (s.new (.cells [.pointer (some ⟨a,0,none⟩)] 163 true)) (cmore ie.size (.slice (some ⟨s.next,0,none⟩) 1 1) (s.new (.cells [.pointer (some ⟨a,0,none⟩)] 163 true))):=
  app_eq underlying77 underlying77 hie
 have hv:cmore ie.size (.slice (some ⟨s.next,0,none⟩) 1 1) (s.new (.cells [.pointer (some ⟨a,0,none⟩)] 163 true))=some (1,[.pointer (some ⟨a,0,none⟩)]):=by
  simp only[more_at,St.at_new,if_true,more2,h1];rfl
 obtain⟨s',h3,h4,h5,h6⟩:=app_rowU (n:=l.length) (k:=1) hie ze163 (by rw[h1];rfl) h2 hcapp (by omega) (by
  have:(l.length+1)*ie.bytes≤1000001*100:=Nat.mul_le_mul (by omega) h3
  omega) rfl hv (by rw[h1];exact hsl.same fun q m c e=>by rw[St.at_new,if_neg (by have:=hfr q m c e;omega)])
 refine⟨_,s',h3,h s' (by simp at h4;omega) (by simpa [ptrs] using h5) fun b hb hq=>?_⟩
 rw[h6 b (by simp;omega) hq,St.at_new,if_neg (by omega)]
open Classical in
theorem RHpIn.addO{s':St M}{tg:Nat→Nat}{pf b r:Nat}{sl sl' tl:Value}{bs:List Nat}{o':Ob}{OO:Nat→Prop}(h:RHpIn lo s p H N O tg pf sl tl bs)(hn:s.next≤s'.next)(hk:∀ c,O c→tg c≠0→s'.at' c=s.at' c)
  (hp:s'.at' p=some (.cells [sl',.int .i64 (H.maxO:Int),.int .i64 (H.maxP:Int),.pointer (some ⟨pf,0,none⟩),tl] 81 true))(hsl:SlU 163 1 s' sl' (ptrs (bs ++ [b])) (bs ++ [b]).length)(hr:∀ q n c,sl' = .slice (some q) n c→q.block=r)
  (hr1:¬ O r∧lo≤r∧r<s'.next)(hOO:∀ c,OO c→¬ O c∧c≠r)(hB:RObAt lo s' N b o' OO)(hok:HOk { H with obs:=H.obs ++ [o'] }) :
  RHpIn lo s' p { H with obs:=H.obs ++ [o'] } N (fun c=>(O c∧tg c≠bs.length+3)∨OO c∨c=r) (fun c=>if OO c then bs.length+3 else if c=r then 0 else tg c) pf sl' tl (bs ++ [b]):=by
 have hrp:r≠p:=fun e=>hr1.1 (e▸h.pin.1)
 have hold:∀ k,k≠bs.length+3→k≠0→(fun c=>((O c∧tg c≠bs.length+3)∨OO c∨c=r)∧(if OO c then bs.length+3 else if c=r then 0 else tg c)=k)=fun c=>O c∧tg c=k:=by
  intro k hk1 hk2
  funext c
  apply propext
  by_cases h1:OO c
  ·simp only[h1,if_true,true_or,or_true,true_and]
   exact⟨fun e=>absurd e.symm hk1,fun e=>absurd e.1 (hOO c h1).1⟩
  ·by_cases h2:c=r
   ·subst h2
    simp only[h1,if_false,if_true,or_true,true_and]
    exact⟨fun e=>absurd e.symm hk2,fun e=>absurd e.1 hr1.1⟩
   ·simp only[h1,h2,if_false,or_false]
    exact⟨fun ⟨⟨a,_⟩,b⟩=>⟨a,b⟩,fun ⟨a,b⟩=>⟨⟨a,by omega⟩,b⟩⟩
 have hnew:(fun c=>((O c∧tg c≠bs.length+3)∨OO c∨c=r)∧(if OO c then bs.length+3 else if c=r then 0 else tg c)=bs.length+3)=OO:=by
  funext c
  apply propext
  by_cases h1:OO c
  ·simp[h1]
  ·by_cases h2:c=r
   ·subst h2
    simp[h1]
   ·simp only[h1,h2,if_false,or_false,iff_false]
    exact fun ⟨⟨_,a⟩,b⟩=>a b
 have hpO:¬ OO p:=fun hc=>(hOO p hc).1 h.pin.1
 refine⟨fun c hc=>?_,hok,h.tn,⟨.inl ⟨h.pin.1,by rw[h.pin.2];omega⟩,?_⟩,hp,hsl,fun q n c e=>?_,?_,h.ta.same fun q n c e=>?_,fun q n c e=>?_,by simp[h.len],fun i b' o h1 h2=>?_⟩
 ·rcases hc with ⟨hc,_⟩|hc|rfl
  ·have:=h.own c hc;omega
  ·exact hB.own c hc
  ·exact hr1.2
 ·rw[if_neg hpO,if_neg (fun e=>hrp e.symm)];exact h.pin.2
 ·have:=hr q n c e
  rw[this]
  exact⟨.inr (.inr rfl),by rw[if_neg (fun hc=>(hOO r hc).2 rfl),if_pos rfl],hrp⟩
 ·rw[hold 1 (by omega) (by omega)]
  exact h.fo.same hn fun c hc=>hk c hc.1 (by rw[hc.2];omega)
 ·have:=h.taO q n c e
  exact hk _ this.1 (by rw[this.2];omega)
 ·have h3:=congrFun (hold 2 (by omega) (by omega)) q.block
  exact h3.mpr (h.taO q n c e)
 ·by_cases hi:i<bs.length
  ·rw[List.getElem?_append_left hi]at h1
   rw[List.getElem?_append_left (by rw[← h.len];exact hi)]at h2
   rw[hold (i+3) (by omega) (by omega)]
   exact (h.obj i b' o h1 h2).same hn fun c hc=>hk c hc.1 (by rw[hc.2];omega)
  ·have h0:i=bs.length:=by
    have:=(List.getElem?_eq_some_iff.1 h1).1
    simp at this;omega
   subst h0
   rw[List.getElem?_append_right (Nat.le_refl _)]at h1
   rw[List.getElem?_append_right (by rw[← h.len];exact Nat.le_refl _),← h.len]at h2
   simp at h1 h2
   subst h1 h2
   rw[hnew];exact hB
theorem rmake_spec(h:RHpAt lo s p H N O)(hlo:lo≤s.next)(hR:∀ s' O',RHpAt lo s' p (makeH H) N O'→Upd s s' O O'→R (makeV H) s'):QC prog w0 38 #[.pointer (some ⟨p,0,none⟩)] s R:=by
 refine wfun2 hmix ok38 func38 rfl ntmps38 results38 (by simp) ?_
 obtain⟨hpro,tg,pf,sl,tl,bs,h⟩:=h
 have hhb:=h.bl
 have hlim:=h.ok.lim
 have hlen:=h.len
 obtain⟨an,cn,rfl⟩:∃ a c,sl = .slice a bs.length c:=by
  rcases h.row with ⟨e1,_,rfl⟩|⟨b2,junk,rfl,_⟩
  ·exact⟨none,0,by rw[e1]⟩
  ·exact⟨_,_,rfl⟩
 by_cases hmx:(H.maxO:Int)≤(bs.length:Int)
 ·have e1:makeH H=H:=by unfold makeH;rw[if_pos (by omega)]
  have e2:makeV H = .tuple #[.int .i64 0,.int .i64 40]:=by unfold makeV;rw[if_pos (by omega)]
  rw[e1,e2]at hR
  simp -implicitDefEqProofs only[↓Zd,(Zp),simprocAttr,cld2,(HEx),(REx),hhb,hmx,ord38]
  exact hR _ _ ⟨hpro,tg,pf,_,tl,bs,h⟩ .refl
 ·have e1:makeH H={ H with obs:=H.obs ++ [{ L:=[],shape:=growN H.F H.most (0,[]),proto:=0,epoch:=0 }],F:=growF H.F H.most (0,[]) }:=by unfold makeH;rw[if_neg (by omega)]
  have e2:makeV H = .tuple #[.int .i64 ((bs.length+1:Nat):Int),.int .i64 0]:=by unfold makeV;rw[if_neg (by omega),hlen]
  have hok:=make_ok h.ok
  have hpr:=make_pro hpro
  rw[e1]at hok hpr
  rw[e1,e2]at hR
  have hbo:∀ (v:Int),cbuild prog 167 #[(3,.int .i64 v)]=some (.agg #[.int .i64 0,.slice none 0 0,.slice none 0 0,.int .i64 0,.int .i64 v]):=fun v=>by kernel_rfl
  simp -implicitDefEqProofs only[↓Zd,(Zp),simprocAttr,cld2,(HEx),(REx),hhb,hmx,ord38,co85]
  refine rroot_spec (q:=0) h.fo hlo fun s3 O3 hF3 hU3 _=>?_
  have hn3:=hU3.next
  have hokF:HOk { H with F:=growF H.F H.most (0,[]) }:=h.ok.more (F':=growF H.F H.most (0,[])) (T':=H.T) (fun j t ht=>growF_get ht) (fun _ _ _=>rfl) (Nat.le_refl _) h.ok.nodup (fun j t ht y hy=>by
   rcases growF_mem ht with h1|rfl
   ·exact h.ok.ids j t h1 y hy
   ·cases hy)
  have h3:=h.newF hU3 hF3 hokF
  have hU3':=re_upd hU3
  have hhb3:=h3.bl
  generalize hO4:reO O tg 1 O3=O4 at h3 hU3'
  generalize hT4:reT tg 1 O3=tg4 at h3
  have hpO4:=h3.pin.1
  have hpn3:=(h3.own p hpO4).2
  have hpne3:¬ p=s3.next:=by omega
  have hfr3:∀ q m c,Value.slice an bs.length cn = .slice (some q) m c→q.block<s3.next:=fun q m c e=>(h3.own _ (h3.rowO q m c e).1).2
  simp -implicitDefEqProofs only[↓Zd,(Zp),simprocAttr,qP,Value.cells,cld2,(HEx),(REx),hhb3,hbo,rowRPtr]
  have l4:s3.le (s3.new (.cells [.int .i64 0,.slice none 0 0,.slice none 0 0,.int .i64 0,.int .i64 ((growN H.F H.most (0,[]):Nat):Int)] 167 true)):=lN (lR _)
  refine wch_app_rptr (l:=bs) (a:=s3.next) (by omega) (h3.row.same fun q n c e=>l4.2 _ (hfr3 q n c e)) (fun q m c e=>by have:=hfr3 q m c e;simp only[St.next_new];omega) fun s5 hn5 hb5 hk5=>?_
  simp only[St.next_new]at hn5 hb5 hk5
  have hold:∀ c,c<s3.next→(∀ q m k,Value.slice an bs.length cn = .slice (some q) m k→c≠q.block)→s5.at' c=s3.at' c:=fun c hc hq=>by rw[hk5 c (by omega) hq,St.at_new,if_neg (by omega)]
  have hp5:s5.at' p=some (.cells [.slice an bs.length cn,.int .i64 (H.maxO:Int),.int .i64 (H.maxP:Int),.pointer (some ⟨pf,0,none⟩),tl] 81 true):=by
   rw[hold p hpn3 (fun q m c e e2=>(h3.rowO q m c e).2.2 e2.symm)];exact hhb3
  simp -implicitDefEqProofs only[↓Zd,(Zp),simprocAttr,qP,Value.cells,qC,cld2,(REx),hp5]
  have hB:RObAt lo (s5.put p (.cells [.slice (some ⟨s3.next+1+1,0,none⟩) (bs.length+1) UNK,.int .i64 (H.maxO:Int),.int .i64 (H.maxP:Int),.pointer (some ⟨pf,0,none⟩),tl] 81 true)) N s3.next { L:=[],shape:=growN H.F H.most (0,[]),proto:=0,epoch:=0 } (fun c=>c=s3.next):=by
   refine⟨?_,rfl,Nat.zero_le _,.slice none 0 0,.slice none 0 0,⟨?_,.inl ⟨rfl,rfl,rfl⟩,.inl ⟨rfl,rfl,rfl⟩,Nat.zero_le _⟩,⟨?_,(fun q n c e=>by cases e),(fun q n c e=>by cases e),(fun q n c q' n' c' e=>by cases e)⟩,?_⟩
   ·rintro c rfl
    simp only[St.next_put];omega
   ·rw[St.at_put,if_neg (fun e=>hpne3 e.symm),hk5 _ (by omega) (fun q m c e e2=>by have:=hfr3 q m c e;omega),St.at_new,if_pos rfl];rfl
   ·simp only[St.next_put];omega
   ·rintro c (rfl|⟨q,n,k,e,_⟩|⟨q,n,k,e,_⟩)
    ·rfl
    ·cases e
    ·cases e
  have h6:=h3.addO (r:=s3.next+1+1) (b:=s3.next) (by simp only[St.next_put];omega) (fun c hc hct=>by
    rw[St.at_put,if_neg (fun e=>hct (by rw[e];exact h3.pin.2)),hold c (h3.own c hc).2 (fun q m k e e2=>hct (by rw[e2];exact (h3.rowO q m k e).2.1))]) (by rw[St.at_put,if_pos rfl]) (.inr ⟨s3.next+1+1,[],by simp,by rw[St.at_put,if_neg (by omega),List.append_nil];exact hb5,by rw[ptrs_len,Nat.mul_one]⟩) (fun q n c e=>by cases e;rfl) ⟨fun hc=>by have:=(h3.own _ hc).2;omega,by omega,by simp only[St.next_put];omega⟩ (fun c hc=>by
    subst hc
    exact⟨fun hc=>by have:=(h3.own _ hc).2;omega,by omega⟩) hB hok
  refine hR _ _ ⟨hpr,_,_,_,_,_,h6⟩ ⟨by simp only[St.next_put];omega,fun c hc hno=>?_,fun c hc=>?_⟩
  ·have hno4:¬ O4 c:=fun h4=>by
    rcases hU3'.own c h4 with g|g
    ·exact hno g
    ·omega
   rw[St.at_put,if_neg (fun e:c=p=>hno4 (e▸hpO4)),hold c (by omega) (fun q m k e e2=>hno4 (by rw[e2];exact (h3.rowO q m k e).1))]
   exact hU3'.keep c hc hno
  ·rcases hc with ⟨hc,_⟩|rfl|rfl
   ·exact hU3'.own c hc
   ·exact .inr (by omega)
   ·exact .inr (by omega)
end
section
variable {M:Type}[Mem M]{w0:World}{s s':St M}{R:Value→St M→Prop}{lo p N:Nat}{H:Hp}{O:Nat→Prop}
end
section
theorem rcut_spec{a m:Int}(hm:0≤m)(h:R (.int .i64 (max 0 (min a m))) s):QC prog w0 32 #[.int .i64 a,.int .i64 m] s R:=by
 refine wfun2 hmix ok32 func32 rfl ntmps32 results32 (by simp) ?_
 by_cases h1:a<0
 ·rw[show max 0 (min a m)=0 by omega]at h
  simp -implicitDefEqProofs only[↓Zd,(Zp),simprocAttr,h1]
  exact h
 ·by_cases h2:m<a
  ·rw[show max 0 (min a m)=m by omega]at h
   simp -implicitDefEqProofs only[↓Zd,(Zp),simprocAttr,h1,h2]
   exact h
  ·rw[show max 0 (min a m)=a by omega]at h
   simp -implicitDefEqProofs only[↓Zd,(Zp),simprocAttr,h1,h2]
   exact h
theorem rfnew_spec{n:Int}(h:R (.pointer (some ⟨s.next,0,none⟩)) (s.new (.cells [.slice none 0 0,.int .i64 (max 0 (min n 150))] 177 true))):QC prog w0 33 #[.int .i64 n] s R:=by
 refine wfun2 hmix ok33 func33 rfl ntmps33 results33 (by simp) ?_
 have hbF:∀ v:Int,cbuild prog 177 #[(1,.int .i64 v)]=some (.agg #[.slice none 0 0,.int .i64 v]):=fun v=>by kernel_rfl
 by_cases h1:n<0
 ·rw[show max 0 (min n 150)=0 by omega]at h
  have h2:¬ (150:Int)<0:=by omega
  simp -implicitDefEqProofs only[↓Zd,(Zp),simprocAttr,qP,Value.cells,(REx),h1,h2,hbF]
  exact h
 ·by_cases h2:150<n
  ·rw[show max 0 (min n 150)=150 by omega]at h
   simp -implicitDefEqProofs only[↓Zd,(Zp),simprocAttr,qP,Value.cells,(REx),h1,h2,hbF]
   exact h
  ·rw[show max 0 (min n 150)=n by omega]at h
   simp -implicitDefEqProofs only[↓Zd,(Zp),simprocAttr,qP,Value.cells,(REx),h1,h2,hbF]
   exact h
theorem rnew_spec{a b c d n:Int}(h:∀ s' p,RHpAt s.next s' p (newH a c n) 0 (fun b=>s.next≤b∧b<s'.next)→s.le s'→R (.pointer (some ⟨p,0,none⟩)) s'):QC prog w0 7 #[.agg #[.int .i64 a,.int .i64 b,.int .i64 c,.int .i64 d],.int .i64 n] s R:=by
 refine wfun2 hmix ok7 func7 rfl ntmps7 results7 (by simp) ?_
 have hbH:∀ (e g:Int) (f:Nat),cbuild prog 81 #[(1,.int .i64 e),(2,.int .i64 g),(3,.pointer (some ⟨f,0,none⟩))]=some (.agg #[.slice none 0 0,.int .i64 e,.int .i64 g,.pointer (some ⟨f,0,none⟩),.slice none 0 0]):=fun e g f=>by kernel_rfl
 simp -implicitDefEqProofs only[↓Zd,(Zp),simprocAttr,qP,Value.cells,cld2,(HEx),is26,fa26x0,fa26x2,ord7,co32]
 refine rcut_spec (by omega) ?_
 simp -implicitDefEqProofs only[↓Zd,(Zp),simprocAttr,cld2,(HEx),co32]
 refine rcut_spec (by omega) ?_
 simp -implicitDefEqProofs only[↓Zd,(Zp),simprocAttr,(HEx),co33]
 refine rfnew_spec ?_
 simp -implicitDefEqProofs only[↓Zd,(Zp),simprocAttr,qP,Value.cells,(REx),hbH]
 have e1:((newH a c n).maxO:Int)=max 0 (min a 200):=by simp only[newH];omega
 have e2:((newH a c n).maxP:Int)=max 0 (min c 32):=by simp only[newH];omega
 have e3:((newH a c n).most:Int)=max 0 (min n 150):=by simp only[newH];omega
 have e4:(newH a c n).most≤150:=by omega
 refine h _ _ ⟨newH_pro a c n,(fun c=>if c=s.next+1 then 1 else 0),s.next+1,.slice none 0 0,.slice none 0 0,[],⟨fun b hb=>hb,newH_ok a c n,Nat.zero_le _,⟨⟨by omega,by simp only[St.next_new];omega⟩,by rw[if_neg (by omega)]⟩,?_,.inl ⟨rfl,rfl,rfl⟩,(fun q n c e=>by cases e),⟨fun b hb=>hb.1,⟨⟨by omega,by simp only[St.next_new];omega⟩,by rw[if_pos rfl]⟩,FOk.nil,⟨Nat.zero_le _,e4⟩,.slice none 0 0,fun _ => .slice none 0 0,?_,.inl ⟨rfl,rfl,rfl⟩,(fun q n c e=>by cases e),fun i t ht=>by simp[newH]at ht⟩,.inl ⟨rfl,rfl,rfl⟩,(fun q n c e=>by cases e),rfl,fun i b o hb _=>by simp at hb⟩⟩ (by repeat (first|exact lR _|assumption|refine lN ?_|refine lP ?_ (by first|omega|(simp only[(Sn)];omega))|refine lT ?_ (by assumption)))
 ·rw[St.at_new,if_pos (by simp only[St.next_new]),e1,e2]
 ·rw[St.at_new,if_neg (by simp only[St.next_new];omega),St.at_new,if_pos (by simp only[St.next_new]),e3]
end
def SB(l:List UInt8):ByteArray:=⟨l.toArray⟩
theorem SB_size(l:List UInt8):(SB l).size=l.length:=by simp[SB,ByteArray.size]
theorem SB_app(l:List UInt8)(x:ByteArray):SB l++x=SB (l++x.data.toList):=by
 apply ByteArray.ext
 rw[ByteArray.data_append]
 apply Array.ext'
 simp[SB]
section
variable {lo p N:Nat}{H:Hp}{O:Nat→Prop}
theorem rdump_spec(h:RHpAt lo s p H N O)(hN:N≤1000000)(hsz:HSz 1000000 H)(hR:∀ s',s.le s'→R (.string (dumpB H)) s'):QC prog w0 28 #[.pointer (some ⟨p,0,none⟩)] s R:=by
 refine wfun2 hmix ok28 func28 rfl ntmps28 results28 (by simp) ?_
 obtain⟨hpro,tg,pf,sl,tl,bs,h⟩:=h
 have hlim:=h.ok.lim
 obtain⟨qs,cs,es⟩:=h.form
 have hbl:=h.len
 simp -implicitDefEqProofs only[↓Zd,(Zp),simprocAttr]
 refine wloop_inv hmix (fun fuel env s1=>∃ k:Nat,fuel=H.obs.length - k∧k≤H.obs.length∧env 4 = .int .i64 (k:Int)∧env 0 = .pointer (some ⟨p,0,none⟩)∧env 3 = .string (SB (linesL H k))∧s.le s1) H.obs.length ⟨0,rfl,by omega,rfl,rfl,rfl,lR _⟩ ?_
 rintro fuel env s1 ⟨k,rfl,hk,e4,e0,e3,hs1⟩
 have h1:=h.le hs1
 have hb1:=h1.bl
 have hll:=linesL_len h.ok hsz k
 by_cases hkn:(k:Int)<(H.obs.length:Int)
 case neg =>
  have:k=H.obs.length:=by omega
  subst this
  rw[es]at hb1
  simp -implicitDefEqProofs only[↓Zd,(Zp),simprocAttr,cld2,(REx),e4,e0,e3,hb1,hkn]
  exact hR _ hs1
 obtain⟨o,ho⟩:∃ o,H.obs[k]?=some o:=⟨H.obs[k]'(by omega),List.getElem?_eq_getElem _⟩
 obtain⟨b,br,vs,own,ns,vv,hb,hB,esl,hbr,hg,hbrn,hob,hfr,hO⟩:=h1.at ho
 rw[esl]at hb1
 have hkn2:(k:Int)<(bs.length:Int):=by omega
 have hk2:=ix_ok (n:=bs.length) (j:=k) (by omega)
 have g1:=hob.bl
 obtain⟨d,hd⟩:=h.ok.up
 have hq:o.proto≤200:=by rcases hd k o ho with h|⟨h,_⟩<;>omega
 have hd1:=digS_len (n:=((k+1:Nat):Int)) (by omega)
 have hd2:=digS_len (n:=(o.proto:Int)) (by omega)
 have hml:o.L.length≤32:=by have:=h.ok.lens k o ho;omega
 have wk:IntKind.i64.wrap ((k:Int)+1)=((k+1:Nat):Int):=by rw[wrap_i64 (by omega)];omega
 have z0:(SB (linesL H k)).size+(⟨#[35]⟩:ByteArray).size≤9223372036854775807:=by rw[SB_size];show _+1≤_;omega
 have z1:(SB (linesL H k)++(⟨#[35]⟩:ByteArray)).size+(digS ((k+1:Nat):Int)).size≤9223372036854775807:=by rw[ByteArray.size_append,SB_size];show _+1+_≤_;omega
 have z2:(SB (linesL H k)++(⟨#[35]⟩:ByteArray)++digS ((k+1:Nat):Int)).size+(⟨#[32,35]⟩:ByteArray).size≤9223372036854775807:=by rw[ByteArray.size_append,ByteArray.size_append,SB_size];show _+1+_+2≤_;omega
 have z3:(SB (linesL H k)++(⟨#[35]⟩:ByteArray)++digS ((k+1:Nat):Int)++(⟨#[32,35]⟩:ByteArray)).size+(digS (o.proto:Int)).size≤9223372036854775807:=by rw[ByteArray.size_append,ByteArray.size_append,ByteArray.size_append,SB_size];show _+1+_+2+_≤_;omega
 simp -implicitDefEqProofs only[↓Zd,(Zp),simprocAttr,cld2,(HEx),(REx),e4,e0,e3,hb1,hkn2,hk2,hbr,hg,g1,z0,wk,ord28,co83]
 refine rDigits_spec (by omega) fun s2 hs2=>?_
 have g2:=(hob.le hfr hs2).bl
 simp -implicitDefEqProofs only[↓Zd,(Zp),simprocAttr,cld2,(HEx),g2,z1,z2,co83]
 refine rDigits_spec (by omega) fun s3 hs3=>?_
 have hle3:=lT hs1 (lT hs2 hs3)
 simp -implicitDefEqProofs only[↓Zd,(Zp),simprocAttr,(HEx),z3]
 have hhd:SB (linesL H k)++(⟨#[35]⟩:ByteArray)++digS ((k+1:Nat):Int)++(⟨#[32,35]⟩:ByteArray)++digS (o.proto:Int)=SB (linesL H k++(headB k o.proto).data.toList++propsL (o.L.take 0)):=by
  rw[SB_app,SB_app,SB_app,SB_app]
  congr 1
  unfold headB
  simp only[ba_list_append,List.append_assoc,List.take_zero,propsL,List.flatMap_nil,List.append_nil]
 rw[hhd]
 have hhl:=headB_len (k:=k) (q:=o.proto) (by omega) (by omega)
 have hel:(headB k o.proto).data.toList.length=(headB k o.proto).size:=rfl
 have hkl:=keysP_len o.L
 refine wloop_inv hmix (fun fuel env s4=>∃ m:Nat,fuel=o.L.length - m∧m≤o.L.length∧env 6 = .int .i64 (m:Int)∧env 5 = .pointer (some ⟨b,0,none⟩)∧env 0 = .pointer (some ⟨p,0,none⟩)∧env 4 = .int .i64 (k:Int)∧env 3 = .string (SB (linesL H k++(headB k o.proto).data.toList++propsL (o.L.take m)))∧s1.le s4) o.L.length ⟨0,rfl,by omega,rfl,rfl,(by simp only[upd_apply];simpa using e0),(by simp only[upd_apply];simpa using e4),rfl,lT hs2 hs3⟩ ?_
 rintro fuel2 env2 s4 ⟨m,rfl,hm,f6,f5,f0,f4,f3,hs4⟩
 have hob4:=hob.le hfr hs4
 have g4:=hob4.bl
 have hpl:=propsL_len (L:=o.L.take m) (fun q hq=>hsz k o ho q (List.mem_of_mem_take hq))
 have htl:(o.L.take m).length≤32:=by rw[List.length_take];omega
 have hlen6:(linesL H k++(headB k o.proto).data.toList++propsL (o.L.take m)).length≤100000000000:=by
  simp only[List.length_append];omega
 obtain⟨qn,cn,en⟩:=slc_form hob4.nm
 by_cases hmn:(m:Int)<((keysP o.L).length:Int)
 case neg =>
  have:m=o.L.length:=by omega
  subst this
  rw[List.take_length]at f3 hlen6
  rw[en]at g4
  have y0:(SB (linesL H k++(headB k o.proto).data.toList++propsL o.L)).size+(⟨#[10]⟩:ByteArray).size≤9223372036854775807:=by rw[SB_size];show _+1≤_;omega
  simp -implicitDefEqProofs only[↓Zd,(Zp),simprocAttr,cld2,(REx),f6,f5,f0,f4,f3,g4,hmn,y0,wk]
  refine⟨H.obs.length - (k+1),by omega,k+1,rfl,by omega,rfl,?_,lT hs1 hs4⟩
  rw[SB_app,linesL_succ]
  unfold lineL
  rw[ho]
  simp only[List.append_assoc]
 have hmlt:m<o.L.length:=by omega
 obtain⟨x,v,hLm⟩:∃ x v,o.L[m]?=some (x,v):=⟨o.L[m].1,o.L[m].2,by simp[hmlt]⟩
 obtain⟨v1,v2,v3⟩:=v
 have hpsz:=hsz k o ho _ (List.mem_of_getElem? hLm)
 obtain⟨q1,q2,q3,q4⟩:=hpsz
 simp only at q1 q2 q3 q4
 obtain⟨bn,cn',en',hbn,hx⟩:=slc_str hob4.nm (k:=m) (by omega)
 have hxe:(keysP o.L)[m]'(by omega)=x:=by
  have h2:(keysP o.L)[m]?=some x:=by unfold keysP;rw[List.getElem?_map,hLm];rfl
  rw[List.getElem?_eq_getElem (by omega)]at h2
  exact Option.some.inj h2
 rw[hxe]at hx
 rcases hob4.vl with ⟨e9,_⟩|⟨bv,junk,ev,hbv,_⟩
 ·omega
 subst en'
 subst ev
 obtain⟨c1,c2⟩:=valsC_cut o.L m _ _ junk hLm
 have hk3:=ix_ok (n:=(keysP o.L).length) (j:=m) (by omega)
 have hk4:=ix_ok (n:=o.L.length) (j:=m) (by omega)
 have wm:IntKind.i64.wrap ((m:Int)+1)=((m+1:Nat):Int):=by rw[wrap_i64 (by omega)];omega
 have hpl1:=printV_len (k:=v1) (n:=v2) (x:=v3) ⟨q3,q4⟩
 generalize hSS:linesL H k++(headB k o.proto).data.toList++propsL (o.L.take m)=SS at *
 have y0:(SB SS).size+(⟨#[32]⟩:ByteArray).size≤9223372036854775807:=by rw[SB_size];show _+1≤_;omega
 have y1:(SB SS++(⟨#[32]⟩:ByteArray)).size+x.size≤9223372036854775807:=by rw[ByteArray.size_append,SB_size];show _+1+_≤_;omega
 have y2:(SB SS++(⟨#[32]⟩:ByteArray)++x).size+(⟨#[58]⟩:ByteArray).size≤9223372036854775807:=by rw[ByteArray.size_append,ByteArray.size_append,SB_size];show _+1+_+1≤_;omega
 have y3:(SB SS++(⟨#[32]⟩:ByteArray)++x++(⟨#[58]⟩:ByteArray)).size+(printV v1 v2 v3).size≤9223372036854775807:=by rw[ByteArray.size_append,ByteArray.size_append,ByteArray.size_append,SB_size];show _+1+_+1+_≤_;omega
 simp -implicitDefEqProofs only[↓Zd,(Zp),simprocAttr,cut,cld2,(HEx),(REx),f6,f5,f3,g4,hmn,hk3,hk4,hbn,hx,hbv,c1,c2,y0,y1,y2,co84]
 have hpr:=rPrint_spec (w0:=w0) (k:=v1) (n:=v2) (x:=v3) (s:=s4) ⟨q3,q4⟩ q2 (R:=fun v s'=>v = .string (printV v1 v2 v3)∧s4.le s') (fun s' hs'=>⟨rfl,hs'⟩)
 unfold vA at hpr
 refine QC.mono hpr fun v s9 hv=>?_
 obtain⟨rfl,hs9⟩:=hv
 have hbn1:=(hfr.n _ _ _ rfl).1
 have hbv1:=(hfr.v _ _ _ rfl).1
 have hb1n:=hfr.bn
 have hn4:=hs4.1
 simp only at hbn1 hbv1
 have k1:=(hs9.2 bn (by omega)).trans hbn
 have k2:=(hs9.2 bv (by omega)).trans hbv
 have k3:=(hs9.2 b (by omega)).trans g4
 simp -implicitDefEqProofs only[↓Zd,(Zp),simprocAttr,cld2,(HEx),(REx),f6,f5,f0,f4,y3,wm,k1,k3,hx]
 refine⟨o.L.length - (m+1),by omega,m+1,rfl,by omega,rfl,?_,lT hs4 hs9⟩
 have e:propsL (o.L.take (m+1))=propsL (o.L.take m)++(propB (x,v1,v2,v3)).data.toList:=by
  rw[List.take_add_one,hLm]
  show (o.L.take m ++ [_]).flatMap _=_
  rw[List.flatMap_append]
  simp[propsL]
 rw[SB_app,SB_app,SB_app,SB_app,e,← List.append_assoc,hSS]
 unfold propB
 simp only[ba_list_append,List.append_assoc]
end
section
variable {lo p N r:Nat}{H:Hp}{O Q:Nat→Prop}
structure TwoH(lo:Nat)(s:St M)(p r:Nat)(H:Hp)(N:Nat)(O Q:Nat→Prop):Prop where
 h:HpAt lo s p H N O
 g:RHpAt lo s r H N Q
 dis:∀ b,O b→¬ Q b
theorem TwoH.le{s':St M}(t:TwoH lo s p r H N O Q)(hs:s.le s'):TwoH lo s' p r H N O Q:=⟨t.h.le hs,t.g.le hs,t.dis⟩
theorem TwoH.mono{N':Nat}(t:TwoH lo s p r H N O Q)(hN:N≤N'):TwoH lo s p r H N' O Q:=⟨t.h.mono hN,t.g.mono hN,t.dis⟩
theorem TwoH.g2{s':St M}{P:Nat→Prop}(t:TwoH lo s p r H N O Q)(hU:Upd s s' O P):RHpAt lo s' r H N Q:=
 t.g.same hU.next fun c hc=>hU.keep c (t.g.own c hc).2 fun h=>t.dis c h hc
theorem TwoH.both{s' s2:St M}{P Q2:Nat→Prop}{H':Hp}{N':Nat}(t:TwoH lo s p r H N O Q)(hU:Upd s s' O P)(hU2:Upd s' s2 Q Q2)(hP:HpAt lo s' p H' N' P)(hQ:RHpAt lo s2 r H' N' Q2):TwoH lo s2 p r H' N' P Q2∧s.next≤s2.next∧∀ b,b<s.next→¬ O b→¬ Q b→s2.at' b=s.at' b:=by
 have hPQ:∀ c,P c→¬ Q c:=fun c hc hq=>by
  rcases hU.own c hc with h|h
  ·exact t.dis c h hq
  ·have:=(t.g.own c hq).2;omega
 refine⟨⟨hP.same hU2.next fun c hc=>hU2.keep c (hP.own c hc).2 (hPQ c hc),hQ,fun c hc hq=>?_⟩,by have:=hU.next;have:=hU2.next;omega,fun c hc h1 h2=>by rw[hU2.keep c (by have:=hU.next;omega) h2,hU.keep c hc h1]⟩
 rcases hU2.own c hq with h|h
 ·exact hPQ c hc h
 ·have:=(hP.own c hc).2;omega
end
def RTx:=(And.intro (And.intro (And.intro (And.intro (And.intro (And.intro @underlying106 (And.intro @sz106 @is106)) (And.intro @ce106 (And.intro @ag106 @ze106))) (And.intro (And.intro @fa106x0 (And.intro @fa106x1 @fa106x2)) (And.intro @underlying46 (And.intro @sz46 @is46)))) (And.intro (And.intro (And.intro @ce46 (And.intro @ag46 @ze46)) (And.intro @nt46 (And.intro @nn46 @nf46))) (And.intro (And.intro @ng46 (And.intro @underlying182 @sz182)) (And.intro @is182 (And.intro @ce182 @ag182))))) (And.intro (And.intro (And.intro (And.intro @ze182 (And.intro @fa182x0 @fa182x1)) (And.intro @fa182x2 (And.intro @fa182x3 @underlying220))) (And.intro (And.intro @sz220 (And.intro @is220 @ce220)) (And.intro @ag220 (And.intro @ze220 @nt220)))) (And.intro (And.intro (And.intro @nn220 (And.intro @nf220 @ng220)) (And.intro @underlying107 (And.intro @sz107 @is107))) (And.intro (And.intro @ce107 (And.intro @ag107 @ze107)) (And.intro @underlying104 (And.intro @sz104 @is104)))))) (And.intro (And.intro (And.intro (And.intro (And.intro @ce104 (And.intro @ag104 @ze104)) (And.intro @underlying161 (And.intro @sz161 @is161))) (And.intro (And.intro @ce161 (And.intro @ag161 @ze161)) (And.intro @fa161x0 (And.intro @fa161x1 @fa161x2)))) (And.intro (And.intro (And.intro @fa161x3 (And.intro @fa161x4 @underlying154)) (And.intro @sz154 (And.intro @is154 @ce154))) (And.intro (And.intro @ag154 (And.intro @ze154 @underlying162)) (And.intro @sz162 (And.intro @is162 @ce162))))) (And.intro (And.intro (And.intro (And.intro @ag162 (And.intro @ze162 @fa162x0)) (And.intro @fa162x1 (And.intro @underlying159 @sz159))) (And.intro (And.intro @is159 (And.intro @ce159 @ag159)) (And.intro @ze159 (And.intro @underlying184 @sz184)))) (And.intro (And.intro (And.intro @is184 (And.intro @ce184 @ag184)) (And.intro @underlying155 (And.intro @sz155 @is155))) (And.intro (And.intro @ce155 (And.intro @ag155 @underlying157)) (And.intro (And.intro @sz157 @is157) (And.intro @ce157 @ag157)))))))
def forN(z:Sit):Int:=if z.used then (if z.sets then 2 else 1) else 0
def asN(w:Bool):Int:=if w then 2 else 1
def rsitC(z:Sit)(sl:Value):List Value:=[.int .i64 (forN z),.string z.name,sl,.bool z.mega]
def RY:STy:=⟨106,107,182,161,162,4,rsitC,fun _ _=>rfl,by decide,by decide,by decide,by decide,by decide,by decide,by decide,by decide,by decide⟩
section
variable {lo t N:Nat}{T:Tab}{O:Nat→Prop}{al:Value}{rb cp:Nat→Nat}{sl:Nat→Nat→Value}
theorem SAt.alf(h:SAt RY lo s t T N O al rb cp sl):∃ q c,al = .slice q T.fs c:=by
 rcases h.all with ⟨e,_,rfl⟩|⟨b,_,rfl,_⟩
 ·exact⟨none,0,by rw[e]⟩
 ·exact⟨_,_,rfl⟩
theorem SAt.ab(h:SAt RY lo s t T N O al rb cp sl){i:Nat}(hi:i<T.fs):∃ b junk,al = .slice (some ⟨b,0,none⟩) T.fs UNK∧s.at' b=some (.cells (rows (fun i=>[.slice (some ⟨rb i,0,none⟩) (T.n i) (cp i)]) T.fs++junk) 107 true)∧(rows (fun i=>[.slice (some ⟨rb i,0,none⟩) (T.n i) (cp i)]) T.fs++junk)[i]?=some (.slice (some ⟨rb i,0,none⟩) (T.n i) (cp i))∧O b:=by
 rcases h.all with ⟨e,_,_⟩|⟨b,junk,e,g1,_⟩
 ·omega
 ·refine⟨b,junk,e,g1,?_,h.allO _ _ _ e⟩
  have hg:=rows_get (c:=fun i=>[.slice (some ⟨rb i,0,none⟩) (T.n i) (cp i)]) (k:=1) (fun _=>rfl) (j:=0) junk hi (by omega)
  simpa only[Nat.mul_one,Nat.add_zero,List.getElem?_cons_zero] using hg
theorem thas_spec(h:SAt RY lo s t T N O al rb cp sl){f k:Int}(hno:¬ hasT T f k→R (.bool false) s)(hyes:∀ i j:Nat,f=(i:Int)→k=(j:Int)→i<T.fs→j<T.n i→hasT T f k→R (.bool true) s) :
  QC prog w0 128 #[.pointer (some ⟨t,0,none⟩),.int .i64 f,.int .i64 k] s R:=by
 refine wfun2 hmix ok128 func128 rfl ntmps128 results128 (by simp) ?_
 have hb:s.at' t=some (.cells [al,.int .i64 (T.hits:Int),.int .i64 (T.misses:Int)] 106 true):=h.bl
 obtain⟨qa,qc,hal⟩:=h.alf
 by_cases f1:0≤f
 case neg =>
  simp -implicitDefEqProofs only[↓Zd,(Zp),simprocAttr,f1]
  exact hno fun hc=>f1 hc.1
 by_cases f2:f<(T.fs:Int)
 case neg =>
  rw[hal]at hb
  simp -implicitDefEqProofs only[↓Zd,(Zp),simprocAttr,cld2,(RTx),hb,f1,f2]
  exact hno fun hc=>f2 hc.2.1
 by_cases k1:0≤k
 case neg =>
  rw[hal]at hb
  simp -implicitDefEqProofs only[↓Zd,(Zp),simprocAttr,cld2,(RTx),hb,f1,f2,k1]
  exact hno fun hc=>k1 hc.2.2.1
 obtain⟨i,rfl⟩:∃ i:Nat,f=(i:Int):=⟨f.toNat,by omega⟩
 obtain⟨j,rfl⟩:∃ j:Nat,k=(j:Int):=⟨k.toNat,by omega⟩
 have hi:i<T.fs:=by omega
 obtain⟨b,junk,rfl,ha,hg,_⟩:=h.ab hi
 have hii:(0:Int)≤(i:Int)∧(i:Int)<(T.fs:Int):=by omega
 by_cases k2:(j:Int)<(T.n i:Int)
 ·simp -implicitDefEqProofs only[↓Zd,(Zp),simprocAttr,cld2,(RTx),hb,f1,f2,k1,k2,ha,hg,Nat.add_zero]
  exact hyes i j rfl rfl hi (by omega) ⟨by omega,by omega,by omega,by rw[Int.toNat_natCast];omega⟩
 ·simp -implicitDefEqProofs only[↓Zd,(Zp),simprocAttr,cld2,(RTx),hb,f1,f2,k1,k2,ha,hg,Nat.add_zero]
  exact hno fun hc=>k2 (by have:=hc.2.2.2;rw[Int.toNat_natCast]at this;exact this)
theorem tplays_spec(h:SAt RY lo s t T N O al rb cp sl){f k:Int}{w:Bool}{x:ByteArray}(hno:¬ hasT T f k→R (.bool false) s)
  (hyes:∀ s' (i j:Nat),f=(i:Int)→k=(j:Int)→i<T.fs→j<T.n i→hasT T f k→s'.next=s.next→s'.at' (rb i)=some (.cells (rows (fun m=>if m=j then rsitC (if (T.st i j).mega then T.st i j else playsS (T.st i j) w x) (sl i j) else rsitC (T.st i m) (sl i m)) (T.n i)) 182 true)→(∀ a,a≠rb i→s'.at' a=s.at' a)→R (.bool (playsB (T.st i j) w x)) s') :
  QC prog w0 88 #[.pointer (some ⟨t,0,none⟩),.int .i64 f,.int .i64 k,.int .i64 (asN w),.string x] s R:=by
 refine wfun2 hmix ok88 func88 rfl ntmps88 results88 (by simp) ?_
 have hb:s.at' t=some (.cells [al,.int .i64 (T.hits:Int),.int .i64 (T.misses:Int)] 106 true):=h.bl
 simp -implicitDefEqProofs only[↓Zd,(Zp),simprocAttr,co128]
 refine thas_spec h (fun hnot=>?_) (fun i j hf hk hi hj hhas=>?_)
 ·simp -implicitDefEqProofs only[↓Zd,(Zp),simprocAttr,(HEx)]
  exact hno hnot
 subst hf hk
 obtain⟨b,junk,rfl,ha,hg,_⟩:=h.ab hi
 have hii:(0:Int)≤(i:Int)∧(i:Int)<(T.fs:Int):=by omega
 have hjj:(0:Int)≤(j:Int)∧(j:Int)<(T.n i:Int):=by omega
 have hr:s.at' (rb i)=some (.cells (rows (fun m=>rsitC (T.st i m) (sl i m)) (T.n i)) 182 true):=h.row i hi
 have g0:(rows (fun m=>rsitC (T.st i m) (sl i m)) (T.n i))[j*4]?=some (.int .i64 (forN (T.st i j))):=rows_get0 (c:=fun m=>rsitC (T.st i m) (sl i m)) (k:=4) (fun _=>rfl) hj (j:=0) (by omega)
 have g1:(rows (fun m=>rsitC (T.st i m) (sl i m)) (T.n i))[j*4+1]?=some (.string (T.st i j).name):=rows_get0 (c:=fun m=>rsitC (T.st i m) (sl i m)) (k:=4) (fun _=>rfl) hj (j:=1) (by omega)
 have g3:(rows (fun m=>rsitC (T.st i m) (sl i m)) (T.n i))[j*4+3]?=some (.bool (T.st i j).mega):=rows_get0 (c:=fun m=>rsitC (T.st i m) (sl i m)) (k:=4) (fun _=>rfl) hj (j:=3) (by omega)
 have hself:rows (fun m=>if m=j then rsitC (T.st i j) (sl i j) else rsitC (T.st i m) (sl i m)) (T.n i)=rows (fun m=>rsitC (T.st i m) (sl i m)) (T.n i):=rows_congr fun m _=>by
  split
  ·rename_i e;rw[e]
  ·rfl
 cases hm:(T.st i j).mega with
 |true =>
  rw[hm]at g3
  have hR2:=hyes s i j rfl rfl hi hj hhas rfl (by rw[hm,if_pos rfl,hself];exact hr) (fun _ _=>rfl)
  unfold playsB at hR2
  rw[hm,if_pos rfl]at hR2
  simp -implicitDefEqProofs only[↓Zd,(Zp),simprocAttr,cld2,(HEx),(RTx),hb,ha,hg,hii,hjj,hr,g3,Nat.add_zero]
  exact hR2
 |false =>
  rw[hm]at g3
  cases hu:(T.st i j).used with
  |true =>
   have hR2:=hyes s i j rfl rfl hi hj hhas rfl (by rw[hm];unfold playsS;rw[hu];simp only[Bool.false_eq_true,if_false,if_true];rw[hself];exact hr) (fun _ _=>rfl)
   unfold playsB at hR2
   rw[hm,hu]at hR2
   simp only[Bool.false_eq_true,if_false,if_true]at hR2
   have hfn:forN (T.st i j)=asN (T.st i j).sets:=by unfold forN asN;rw[hu];rfl
   have hf0:¬ asN (T.st i j).sets=0:=by unfold asN;split<;>decide
   rw[hfn]at g0
   have hcmp:((asN (T.st i j).sets=asN w)↔(T.st i j).sets=w):=by
    unfold asN
    cases (T.st i j).sets<;>cases w<;>simp
   by_cases e1:(T.st i j).sets=w
   ·rw[e1]at g0 hf0
    by_cases e2:(T.st i j).name=x
    ·rw[decide_eq_true e1,decide_eq_true e2]at hR2
     simp only[Bool.and_true]at hR2
     rw[e2]at g1
     simp -implicitDefEqProofs only[↓Zd,(Zp),simprocAttr,cld2,(HEx),(RTx),hb,ha,hg,hii,hjj,hr,g0,g1,g3,hf0,Nat.add_zero]
     exact hR2
    ·rw[decide_eq_true e1,decide_eq_false e2]at hR2
     simp only[Bool.and_false]at hR2
     simp -implicitDefEqProofs only[↓Zd,(Zp),simprocAttr,cld2,(HEx),(RTx),hb,ha,hg,hii,hjj,hr,g0,g1,g3,hf0,e2,Nat.add_zero]
     exact hR2
   ·rw[decide_eq_false e1]at hR2
    simp only[Bool.false_and]at hR2
    have e3:¬ asN (T.st i j).sets=asN w:=fun e=>e1 (hcmp.1 e)
    simp -implicitDefEqProofs only[↓Zd,(Zp),simprocAttr,cld2,(HEx),(RTx),hb,ha,hg,hii,hjj,hr,g0,g3,hf0,e3,Nat.add_zero]
    exact hR2
  |false =>
   have hfn:forN (T.st i j)=0:=by unfold forN;rw[hu];rfl
   rw[hfn]at g0
   have e1:=rows_set0 (k:=4) (c:=fun m=>rsitC (T.st i m) (sl i m)) (d:=fun m=>if m=j then [.int .i64 (asN w),.string (T.st i j).name,sl i j,.bool false] else rsitC (T.st i m) (sl i m)) (j:=0) (v := .int .i64 (asN w)) (fun _=>rfl) (fun m=>by (try dsimp only);split<;>rfl) hj (by omega) (fun m hm2=>if_neg hm2) (by (try dsimp only);rw[if_pos rfl];unfold rsitC;rw[hm];rfl)
   have e2:=rows_set0 (k:=4) (c:=fun m=>if m=j then [.int .i64 (asN w),.string (T.st i j).name,sl i j,.bool false] else rsitC (T.st i m) (sl i m)) (d:=fun m=>if m=j then [.int .i64 (asN w),.string x,sl i j,.bool false] else rsitC (T.st i m) (sl i m)) (j:=1) (v := .string x) (fun m=>by (try dsimp only);split<;>rfl) (fun m=>by (try dsimp only);split<;>rfl) hj (by omega) (fun m hm2=>by (try dsimp only);rw[if_neg hm2,if_neg hm2]) (by (try dsimp only);rw[if_pos rfl,if_pos rfl];rfl)
   rw[Nat.add_zero]at e1
   have k0:(rows (fun m=>if m=j then [.int .i64 (asN w),.string x,sl i j,.bool false] else rsitC (T.st i m) (sl i m)) (T.n i))[j*4]?=some (.int .i64 (asN w)):=(rows_get0 (k:=4) (c:=fun m=>if m=j then [.int .i64 (asN w),.string x,sl i j,.bool false] else rsitC (T.st i m) (sl i m)) (fun m=>by (try dsimp only);split<;>rfl) hj (j:=0) (by omega)).trans (by (try dsimp only);rw[if_pos rfl];rfl)
   have k1:(rows (fun m=>if m=j then [.int .i64 (asN w),.string x,sl i j,.bool false] else rsitC (T.st i m) (sl i m)) (T.n i))[j*4+1]?=some (.string x):=(rows_get0 (k:=4) (c:=fun m=>if m=j then [.int .i64 (asN w),.string x,sl i j,.bool false] else rsitC (T.st i m) (sl i m)) (fun m=>by (try dsimp only);split<;>rfl) hj (j:=1) (by omega)).trans (by (try dsimp only);rw[if_pos rfl];rfl)
   have l0:=rows_len (c:=fun m=>rsitC (T.st i m) (sl i m)) (k:=4) (fun _=>rfl) (T.n i)
   have l1:=rows_len (c:=fun m=>if m=j then [.int .i64 (asN w),.string (T.st i j).name,sl i j,.bool false] else rsitC (T.st i m) (sl i m)) (k:=4) (fun m=>by (try dsimp only);split<;>rfl) (T.n i)
   have m0:j*4+1≤T.n i*4:=by omega
   have m1:j*4+2≤T.n i*4:=by omega
   have hR2:∀ s',s'.next=s.next→s'.at' (rb i)=some (.cells (rows (fun m=>if m=j then [.int .i64 (asN w),.string x,sl i j,.bool false] else rsitC (T.st i m) (sl i m)) (T.n i)) 182 true)→(∀ a,a≠rb i→s'.at' a=s.at' a)→R (.bool true) s':=fun s' n1 n2 n3=>by
    have:=hyes s' i j rfl rfl hi hj hhas n1 (by rw[hm];unfold playsS;rw[hu];simp only[Bool.false_eq_true,if_false];rw[n2];congr 2;refine rows_congr fun m _=>?_;split;unfold rsitC forN asN;simp only[if_true,hm];rfl) n3
    unfold playsB at this
    rw[hm,hu]at this
    exact this
   have hrbb:¬ b=rb i:=at_apart ha hr (by decide)
   have hrbt:¬ t=rb i:=at_apart hb hr (by decide)
   simp -implicitDefEqProofs only[↓Zd,(Zp),simprocAttr,qP,Value.cells,qC,cld2,(HEx),(RTx),hb,ha,hg,hii,hjj,hr,g0,g3,e1,e2,k0,k1,l0,l1,m0,m1,Nat.add_zero]
   refine hR2 _ rfl ?_ fun a ha2=>?_
   ·rw[St.at_put,if_pos rfl]
   ·rw[St.at_put,if_neg ha2,St.at_put,if_neg ha2]
end
section
variable {lo p N pf:Nat}{H:Hp}{P O:Nat→Prop}{tg:Nat→Nat}{sl0 tl:Value}{bs:List Nat}
theorem tshape_spec(h:RHpIn lo s p H N P tg pf sl0 tl bs){i:Int}(hR:R (.int .i64 (shapeV H i)) s):QC prog w0 87 #[.pointer (some ⟨p,0,none⟩),.int .i64 i] s R:=by
 refine wfun2 hmix ok87 func87 rfl ntmps87 results87 (by simp) ?_
 unfold shapeV at hR
 simp -implicitDefEqProofs only[↓Zd,(Zp),simprocAttr,co94]
 refine rhas_spec h ?_
 cases ho:obAt H i with
 |none =>
  rw[ho]at hR
  simp -implicitDefEqProofs only[↓Zd,(Zp),simprocAttr,(HEx)]
  exact hR
 |some o =>
  rw[ho]at hR
  obtain⟨j,rfl,hj,hjo⟩:=obAt_some ho
  obtain⟨b,br,vs,own,ns,vv,hb,hB,rfl,hbr,hg,hbrn,hob,hfr,hO⟩:=h.at hjo
  have h1:=h.bl
  have h2:=hob.bl
  have hk:=ix_ok (n:=bs.length) (j:=j) (by rw[h.len];exact hj)
  have w1:=h.w hj
  simp -implicitDefEqProofs only[↓Zd,(Zp),simprocAttr,cld2,(HEx),(REx),h1,h2,w1,hk,hbr,hg]
  exact hR
end
def hitN(es:List Ent)(sh:Int):Int:=match hitI es sh with
 |some i=>(i:Int)
 |none => -1
theorem rbEnt0:cbuild prog 161 #[]=some (.agg #[.int .i64 0,.int .i64 0,.int .i64 0,.int .i64 0,.slice none 0 0]):=by kernel_rfl
theorem rbEnt1(a:Int):cbuild prog 161 #[(0,.int .i64 a)]=some (.agg #[.int .i64 a,.int .i64 0,.int .i64 0,.int .i64 0,.slice none 0 0]):=by kernel_rfl
theorem rbEnt2(a b:Int):cbuild prog 161 #[(0,.int .i64 a),(2,.int .i64 b)]=some (.agg #[.int .i64 a,.int .i64 0,.int .i64 b,.int .i64 0,.slice none 0 0]):=by kernel_rfl
theorem rbEnt3(a b:Int):cbuild prog 161 #[(0,.int .i64 a),(3,.int .i64 b)]=some (.agg #[.int .i64 a,.int .i64 0,.int .i64 0,.int .i64 b,.slice none 0 0]):=by kernel_rfl
theorem rbDep2(a b:Int):cbuild prog 162 #[(0,.int .i64 a),(1,.int .i64 b)]=some (.agg #[.int .i64 a,.int .i64 b]):=by kernel_rfl
theorem rrowDep(a b:Int):crow prog 159 1 #[(0,.agg #[.int .i64 a,.int .i64 b])]=some (.cells [.int .i64 a,.int .i64 b] 162 true):=by kernel_rfl
theorem rrowEnt(a b c d:Int)(q:Option Addr)(n m:Nat):crow prog 154 1 #[(0,.agg #[.int .i64 a,.int .i64 b,.int .i64 c,.int .i64 d,.slice q n m])]=some (.cells [.int .i64 a,.int .i64 b,.int .i64 c,.int .i64 d,.slice q n m] 161 true):=by cases q<;>kernel_rfl
theorem Chain.objs{H:Hp}{x:ByteArray}{q:Nat}{ds:List (Nat×Nat)}{a k:Int}(hc:Chain H x q ds a k):∀ d∈ds,∃ j,j<H.obs.length∧d.1=j+1:=by
 induction hc with
 |stop=>intro d hd;cases hd
 | @hit q E n pr l o k hq ho hE hs hn hFn hk hk0 =>
  intro d hd
  obtain⟨j,hj,hjl,_⟩:=obAt_some ho
  rw[List.mem_singleton.1 hd]
  exact⟨j,hjl,by show q=j+1;omega⟩
 | @up q E n pr l o ds a k hq ho hE hs hn hFn hk _ ih =>
  intro d hd
  obtain⟨j,hj,hjl,_⟩:=obAt_some ho
  rcases List.mem_cons.1 hd with rfl|hd
  ·exact⟨j,hjl,by show q=j+1;omega⟩
  ·exact ih d hd
theorem GetOk.objs{H:Hp}{x:ByteArray}{e:Ent}(he:GetOk H x e):∀ d∈e.deps,∃ j,j<H.obs.length∧d.1=j+1:=by
 obtain⟨h1,_,pr,l,h3,h4⟩:=he
 rcases h4 with ⟨h5,h6,h7,h8⟩|⟨h5,h6,h7⟩
 ·rw[h6];intro d hd;cases hd
 ·exact h7.objs
section
variable {lo p N pf:Nat}{H:Hp}{P O:Nat→Prop}{tg:Nat→Nat}{sl0 tl:Value}{bs:List Nat}
theorem infoREnt:∃ ie,prog.info? 161=some ie∧ie.size=5∧0<ie.bytes∧ie.bytes≤100:=by
 obtain⟨ie,h⟩:=Option.isSome_iff_exists.1 is161
 have h1:=ce161
 have h2:decide (0<prog.bytesOf 161∧prog.bytesOf 161≤100)=true:=by kernel_rfl
 rw[cellsOf_info h]at h1
 simp only[Program.bytesOf,h,decide_eq_true_eq]at h2
 exact⟨ie,h,h1,h2.1,h2.2⟩
theorem appREnt{sl:Value}{cs new:List Value}{k:Nat}(hnew:new.length=5)(hok:new.all qC=true)(hlen:k≤1000000)(hsl:SlU 161 5 s sl cs k)(hfr:∀ q m c,sl = .slice (some q) m c→q.block<s.next) :
  ∃ s',capp prog #[154,154] #[sl,.slice (some ⟨s.next,0,none⟩) 1 1] (s.new (.cells new 161 true))=some (.slice (some ⟨s.next+1,0,none⟩) (k+1) UNK,s')∧s'.next=s.next+2 ∧
   s'.at' (s.next+1)=some (.cells (cs++new) 161 true)∧(∀ b,b<s.next→(∀ q n c,sl = .slice (some q) n c→b≠q.block)→s'.at' b=s.at' b):=by
 obtain⟨ie,hie,h1,h2,h3⟩:=infoREnt
 have hcapp:capp prog #[154,154] #[sl,.slice (some ⟨s.next,0,none⟩) 1 1] (s.new (.cells new 161 true))=capp3 prog 161 ie sl (s.new (.cells new 161 true)) (cmore ie.size (.slice (some ⟨s.next,0,none⟩) 1 1) (s.new (.cells new 161 true))):=
  app_eq underlying154 underlying154 hie
 have hv:cmore ie.size (.slice (some ⟨s.next,0,none⟩) 1 1) (s.new (.cells new 161 true))=some (1,new):=by
  simp only[more_at,St.at_new,if_true,more2,h1]
  rw[cut_all (by omega)];rfl
 obtain⟨s',h3,h4,h5,h6⟩:=app_rowU (n:=k) (k:=1) hie ze161 (by rw[h1];rfl) h2 hcapp (by omega) (by
  have:(k+1)*ie.bytes≤1000001*100:=Nat.mul_le_mul (by omega) h3
  omega) hok hv (by rw[h1];exact hsl.same fun q m c e=>by rw[St.at_new,if_neg (by have:=hfr q m c e;omega)])
 refine⟨s',by simpa using h3,by simp at h4;omega,h5,fun b hb hq=>?_⟩
 rw[h6 b (by simp;omega) hq,St.at_new,if_neg (by omega)]
theorem wch_appREnt{sl:Value}{cs new:List Value}{k:Nat}{K:Value→St M→Prop}(hnew:new.length=5)(hok:new.all qC=true)(hlen:k≤1000000)(hsl:SlU 161 5 s sl cs k)(hfr:∀ q m c,sl = .slice (some q) m c→q.block<s.next)
  (h:∀ s',s'.next=s.next+2→s'.at' (s.next+1)=some (.cells (cs++new) 161 true)→(∀ b,b<s.next→(∀ q n c,sl = .slice (some q) n c→b≠q.block)→s'.at' b=s.at' b)→K (.slice (some ⟨s.next+1,0,none⟩) (k+1) UNK) s') :
  wch (capp prog #[154,154] #[sl,.slice (some ⟨s.next,0,none⟩) 1 1] (s.new (.cells new 161 true))) K:=by
 obtain⟨s',h1,h2,h3,h4⟩:=appREnt hnew hok hlen hsl hfr
 exact⟨_,_,h1,h s' h2 h3 h4⟩
theorem infoRDep:∃ ie,prog.info? 162=some ie∧ie.size=2∧0<ie.bytes∧ie.bytes≤100:=by
 obtain⟨ie,h⟩:=Option.isSome_iff_exists.1 is162
 have h1:=ce162
 have h2:decide (0<prog.bytesOf 162∧prog.bytesOf 162≤100)=true:=by kernel_rfl
 rw[cellsOf_info h]at h1
 simp only[Program.bytesOf,h,decide_eq_true_eq]at h2
 exact⟨ie,h,h1,h2.1,h2.2⟩
theorem appRDep{sl:Value}{cs new:List Value}{k:Nat}(hnew:new.length=2)(hok:new.all qC=true)(hlen:k≤1000000)(hsl:SlU 162 2 s sl cs k)(hfr:∀ q m c,sl = .slice (some q) m c→q.block<s.next) :
  ∃ s',capp prog #[159,159] #[sl,.slice (some ⟨s.next,0,none⟩) 1 1] (s.new (.cells new 162 true))=some (.slice (some ⟨s.next+1,0,none⟩) (k+1) UNK,s')∧s'.next=s.next+2 ∧
   s'.at' (s.next+1)=some (.cells (cs++new) 162 true)∧(∀ b,b<s.next→(∀ q n c,sl = .slice (some q) n c→b≠q.block)→s'.at' b=s.at' b):=by
 obtain⟨ie,hie,h1,h2,h3⟩:=infoRDep
 have hcapp:capp prog #[159,159] #[sl,.slice (some ⟨s.next,0,none⟩) 1 1] (s.new (.cells new 162 true))=capp3 prog 162 ie sl (s.new (.cells new 162 true)) (cmore ie.size (.slice (some ⟨s.next,0,none⟩) 1 1) (s.new (.cells new 162 true))):=
  app_eq underlying159 underlying159 hie
 have hv:cmore ie.size (.slice (some ⟨s.next,0,none⟩) 1 1) (s.new (.cells new 162 true))=some (1,new):=by
  simp only[more_at,St.at_new,if_true,more2,h1]
  rw[cut_all (by omega)];rfl
 obtain⟨s',h3,h4,h5,h6⟩:=app_rowU (n:=k) (k:=1) hie ze162 (by rw[h1];rfl) h2 hcapp (by omega) (by
  have:(k+1)*ie.bytes≤1000001*100:=Nat.mul_le_mul (by omega) h3
  omega) hok hv (by rw[h1];exact hsl.same fun q m c e=>by rw[St.at_new,if_neg (by have:=hfr q m c e;omega)])
 refine⟨s',by simpa using h3,by simp at h4;omega,h5,fun b hb hq=>?_⟩
 rw[h6 b (by simp;omega) hq,St.at_new,if_neg (by omega)]
theorem wch_appRDep{sl:Value}{cs new:List Value}{k:Nat}{K:Value→St M→Prop}(hnew:new.length=2)(hok:new.all qC=true)(hlen:k≤1000000)(hsl:SlU 162 2 s sl cs k)(hfr:∀ q m c,sl = .slice (some q) m c→q.block<s.next)
  (h:∀ s',s'.next=s.next+2→s'.at' (s.next+1)=some (.cells (cs++new) 162 true)→(∀ b,b<s.next→(∀ q n c,sl = .slice (some q) n c→b≠q.block)→s'.at' b=s.at' b)→K (.slice (some ⟨s.next+1,0,none⟩) (k+1) UNK) s') :
  wch (capp prog #[159,159] #[sl,.slice (some ⟨s.next,0,none⟩) 1 1] (s.new (.cells new 162 true))) K:=by
 obtain⟨s',h1,h2,h3,h4⟩:=appRDep hnew hok hlen hsl hfr
 exact⟨_,_,h1,h s' h2 h3 h4⟩
theorem EntsAt.form{Y:STy}{v:Value}{es:List Ent}(h:EntsAt Y s O v es):∃ q c,v = .slice q es.length c:=by
 obtain⟨dl,h1,_⟩:=h
 rcases h1 with ⟨e,_,rfl⟩|⟨b,_,rfl,_⟩
 ·exact⟨none,0,by rw[e]⟩
 ·exact⟨_,_,rfl⟩
theorem efind_spec{v:Value}{es:List Ent}{sh:Int}(hE:EntsAt RY s O v es)(hl:es.length≤1000)(hR:R (.int .i64 (hitN es sh)) s):QC prog w0 89 #[v,.int .i64 sh] s R:=by
 obtain⟨q,c,hv⟩:=hE.form
 subst hv
 refine wfun2 hmix ok89 func89 rfl ntmps89 results89 (by simp) ?_
 simp -implicitDefEqProofs only[↓Zd,(Zp),simprocAttr]
 refine wloop_inv hmix (fun fuel env s'=>s'=s∧env 0 = .slice q es.length c∧env 1 = .int .i64 sh∧∃ k:Nat,env 5 = .int .i64 (k:Int)∧k≤es.length∧fuel=es.length - k∧∀ m,m<k→decide (((es.getD m e0).shape:Int)=sh)=false) (es.length - 0) ⟨rfl,rfl,rfl,0,rfl,Nat.zero_le _,rfl,fun m hm=>absurd hm (Nat.not_lt_zero _)⟩ ?_
 rintro fuel env s' ⟨rfl,f0,f1,k,f5,hk,rfl,hno⟩
 by_cases hlt:k<es.length
 ·have hlt':(k:Int)<(es.length:Int):=by omega
  have hkk:(0:Int)≤(k:Int)∧(k:Int)<(es.length:Int):=by omega
  have w1:IntKind.i64.wrap ((k:Int)+1)=((k+1:Nat):Int):=by rw[wrap_i64 (by omega)];omega
  obtain⟨dlf,g1,_⟩:=hE
  rcases g1 with ⟨h0,_,_⟩|⟨b,junk,hv,g2,_⟩
  ·omega
  cases hv
  have g2:s'.at' b=some (.cells (rows (fun j=>entC (es.getD j e0) (dlf j)) es.length++junk) 161 true):=g2
  have g3:(rows (fun j=>entC (es.getD j e0) (dlf j)) es.length++junk)[k*5]?=some (.int .i64 ((es.getD k e0).shape:Int)):=rows_get (c:=fun j=>entC (es.getD j e0) (dlf j)) (k:=5) (fun _=>rfl) junk hlt (j:=0) (by omega)
  by_cases hs:((es.getD k e0).shape:Int)=sh
  ·have e:hitN es sh=(k:Int):=by unfold hitN;rw[hitI_of hlt (decide_eq_true hs) hno]
   rw[e]at hR
   rw[hs]at g3
   simp -implicitDefEqProofs only[↓Zd,(Zp),simprocAttr,cld2,(HEx),(RTx),f0,f1,f5,hlt',hkk,g2,g3,Nat.add_zero]
   exact hR
  ·simp -implicitDefEqProofs only[↓Zd,(Zp),simprocAttr,cld2,(HEx),(RTx),f0,f1,f5,hlt',hkk,g2,g3,hs,w1,Nat.add_zero]
   exact⟨_,Nat.sub_lt_sub_left hlt (Nat.lt_succ_self k),k+1,rfl,by omega,rfl,fun m hm=>by
    by_cases e:m<k
    ·exact of_decide_eq_false (hno m e)
    ·have:m=k:=by omega
     subst this
     exact hs⟩
 ·have hlt':¬ (k:Int)<(es.length:Int):=by omega
  have e:hitN es sh = -1:=by unfold hitN;rw[hitI_no fun m hm=>hno m (by omega)]
  rw[e]at hR
  simp -implicitDefEqProofs only[↓Zd,(Zp),simprocAttr,(RTx),f0,f5,hlt']
  exact hR
theorem eholds_spec(h:RHpIn lo s p H N P tg pf sl0 tl bs){e:Ent}{dl:Value}(hD:DepsAt RY s O dl e.deps)(hO:∀ a,O a→a<s.next)(hl:e.deps.length≤1000)(hd:∀ d∈e.deps,∃ j,j<H.obs.length∧d.1=j+1)(hR:∀ s',s.le s'→R (.bool (holdsE H e)) s') :
  QC prog w0 90 #[.pointer (some ⟨p,0,none⟩),.agg (entC e dl).toArray] s R:=by
 obtain⟨qa,qc,hform⟩:∃ a c,dl=Value.slice a e.deps.length c:=by
  rcases hD.1 with ⟨e1,_,e2⟩|⟨b,_,e2,_⟩
  ·exact⟨none,0,by rw[e2,e1]⟩
  ·exact⟨_,_,e2⟩
 subst hform
 refine wfun2 hmix ok90 func90 rfl ntmps90 results90 (by simp) ?_
 have hall:(entC e (.slice qa e.deps.length qc)).toArray=#[.int .i64 (e.shape:Int),.int .i64 e.holder,.int .i64 e.slot,.int .i64 (e.to:Int),.slice qa e.deps.length qc]:=rfl
 have l1:s.le (s.new (.cells [.int .i64 (e.shape:Int),.int .i64 e.holder,.int .i64 e.slot,.int .i64 (e.to:Int),.slice qa e.deps.length qc] 161 true)):=lN (lR _)
 have c1:(s.new (.cells [.int .i64 (e.shape:Int),.int .i64 e.holder,.int .i64 e.slot,.int .i64 (e.to:Int),.slice qa e.deps.length qc] 161 true)).at' s.next=some (.cells [.int .i64 (e.shape:Int),.int .i64 e.holder,.int .i64 e.slot,.int .i64 (e.to:Int),.slice qa e.deps.length qc] 161 true):=by rw[St.at_new,if_pos rfl]
 simp -implicitDefEqProofs only[↓Zd,(Zp),simprocAttr,qP,Value.cells,(RTx),hall]
 generalize s.new (.cells [.int .i64 (e.shape:Int),.int .i64 e.holder,.int .i64 e.slot,.int .i64 (e.to:Int),.slice qa e.deps.length qc] 161 true)=s1 at l1 c1 ⊢
 refine wloop_inv hmix (fun fuel env s'=>s'=s1∧env 0 = .pointer (some ⟨p,0,none⟩)∧env 3 = .pointer (some ⟨s.next,0,none⟩)∧∃ k:Nat,env 5 = .int .i64 (k:Int)∧k≤e.deps.length∧fuel=e.deps.length - k∧∀ m,m<k→decide (epochV H (e.deps.getD m (0,0)).1≠((e.deps.getD m (0,0)).2:Int))=false) (e.deps.length - 0) ⟨rfl,rfl,rfl,0,rfl,Nat.zero_le _,rfl,fun m hm=>absurd hm (Nat.not_lt_zero _)⟩ ?_
 rintro fuel env s' ⟨rfl,f0,f3,k,f5,hk,rfl,hno⟩
 by_cases hlt:k<e.deps.length
 ·have hlt':(k:Int)<(e.deps.length:Int):=by omega
  have hkk:(0:Int)≤(k:Int)∧(k:Int)<(e.deps.length:Int):=by omega
  have w1:IntKind.i64.wrap ((k:Int)+1)=((k+1:Nat):Int):=by rw[wrap_i64 (by omega)];omega
  obtain⟨g1,gO,_⟩:=hD
  rcases g1 with ⟨h0,_,_⟩|⟨b,junk,hv,g2,_⟩
  ·omega
  cases hv
  have hbn:=hO _ (gO _ _ _ rfl)
  have g2:s'.at' b=some (.cells (rows (fun j=>depC (e.deps.getD j (0,0))) e.deps.length++junk) 162 true):=(l1.2 b hbn).trans g2
  have g3:(rows (fun j=>depC (e.deps.getD j (0,0))) e.deps.length++junk)[k*2]?=some (.int .i64 ((e.deps.getD k (0,0)).1:Int)):=rows_get (c:=fun j=>depC (e.deps.getD j (0,0))) (k:=2) (fun _=>rfl) junk hlt (j:=0) (by omega)
  have g4:(rows (fun j=>depC (e.deps.getD j (0,0))) e.deps.length++junk)[k*2+1]?=some (.int .i64 ((e.deps.getD k (0,0)).2:Int)):=rows_get (c:=fun j=>depC (e.deps.getD j (0,0))) (k:=2) (fun _=>rfl) junk hlt (j:=1) (by omega)
  obtain⟨j,hj,hdj⟩:=hd (e.deps.getD k (0,0)) (by rw[getD_at hlt];exact List.getElem_mem hlt)
  rw[hdj]at g3
  have hjo:H.obs[j]?=some H.obs[j]:=List.getElem?_eq_getElem hj
  obtain⟨ob,br,vs,own,ns,vv,hb,hB,hsl,hbr,hg,hbrn,hob,hfr,hO2⟩:=(h.le l1).at hjo
  have hh1:=(h.le l1).bl
  have hh2:=hob.bl
  have hjk:=ix_ok (n:=bs.length) (j:=j) (by rw[h.len];exact hj)
  have wj:=h.w hj
  have hep:epochV H ((e.deps.getD k (0,0)).1:Int)=(H.obs[j].epoch:Int):=by
   unfold epochV
   rw[hdj,obAt_get,hjo]
  rw[hsl]at hh1
  by_cases he:(H.obs[j].epoch:Int)=((e.deps.getD k (0,0)).2:Int)
  ·rw[← he]at g4
   simp -implicitDefEqProofs only[↓Zd,(Zp),Zr,simprocAttr,cld2,(HEx),(REx),(RTx),f0,f3,f5,c1,hlt',hkk,g2,g3,g4,hh1,hh2,wj,hjk,hbr,hg,w1,Nat.add_zero,ord90]
   exact⟨_,Nat.sub_lt_sub_left hlt (Nat.lt_succ_self k),k+1,rfl,by omega,rfl,fun m hm=>by
    by_cases e1:m<k
    ·have:=hno m e1
     simpa using this
    ·have:m=k:=by omega
     subst this
     rw[hep,decide_eq_true he]
     rfl⟩
  ·rw[holds_not hlt (by rw[hep];exact decide_eq_true he)]at hR
   simp -implicitDefEqProofs only[↓Zd,(Zp),Zr,simprocAttr,cld2,(HEx),(REx),(RTx),f0,f3,f5,c1,hlt',hkk,g2,g3,g4,hh1,hh2,wj,hjk,hbr,hg,he,Nat.add_zero,ord90]
   exact hR _ l1
 ·have hlt':¬ (k:Int)<(e.deps.length:Int):=by omega
  rw[holds_all fun m hm=>hno m (by omega)]at hR
  simp -implicitDefEqProofs only[↓Zd,(Zp),simprocAttr,cld2,(RTx),f3,f5,c1,hlt']
  exact hR _ l1
end
section
variable {lo p N pf:Nat}{H:Hp}{P O:Nat→Prop}{tg:Nat→Nat}{sl0 tl:Value}{bs:List Nat}
theorem rdeps_more{s':St M}{acc:List (Nat×Nat)}{d:Nat×Nat}{b:Nat}(hb:s'.at' b=some (.cells (rows (fun j=>depC (acc.getD j (0,0))) acc.length ++ [.int .i64 (d.1:Int),.int .i64 (d.2:Int)]) 162 true))(hO:O b):DepsAt RY s' O (.slice (some ⟨b,0,none⟩) (acc.length+1) UNK) (acc ++ [d]):=by
 refine⟨.inr ⟨b,[],by simp,?_,?_⟩,fun q n c e=>by cases e;exact hO,fun h=>by simp at h⟩
 ·rw[hb,List.append_nil,List.length_append]
  show some (Blk.cells _ _ true)=some (.cells (rows _ (acc.length+1)) _ true)
  rw[rows_succ,rows_congr (c:=fun j=>depC ((acc ++ [d]).getD j (0,0))) (d:=fun j=>depC (acc.getD j (0,0))) fun j hj=>by rw[List.getD_eq_getElem?_getD,List.getD_eq_getElem?_getD,List.getElem?_append_left hj]]
  simp[depC]
  rfl
 ·exact rows_len (k:=2) (fun _=>rfl) _
theorem elook_spec(h:RHpIn lo s p H N P tg pf sl0 tl bs)(hpro:HPro H)(hN:N≤1000000){o:Int}{x:ByteArray}(ho : -9223372036854775808≤o∧o≤9223372036854775807)
  (hno:∀ s',s.le s'→LookE H x o none→R (.tuple #[.agg #[.int .i64 0,.int .i64 0,.int .i64 0,.int .i64 0,.slice none 0 0],.bool false]) s')
  (hyes:∀ s' e dl,s.le s'→LookE H x o (some e)→DepsAt RY s' (fun b=>s.next≤b∧b<s'.next) dl e.deps→R (.tuple #[.agg (entC e dl).toArray,.bool true]) s') :
  QC prog w0 91 #[.pointer (some ⟨p,0,none⟩),.int .i64 o,.string x] s R:=by
 refine wfun2 hmix ok91 func91 rfl ntmps91 results91 (by simp) ?_
 have l1:s.le (s.new (.cells [.int .i64 0,.int .i64 0,.int .i64 0,.int .i64 0,.slice none 0 0] 161 true)):=lN (lR _)
 have hsh0:0≤shapeV H o:=by unfold shapeV;split<;>omega
 have hlim:=h.ok.lim
 have hshb:∀ i,0≤shapeV H i∧shapeV H i≤9223372036854775807:=fun i=>by
  unfold shapeV
  split
  ·rename_i o' ho'
   refine⟨by omega,?_⟩
   by_cases hs:0<o'.shape
   ·obtain⟨l,hl⟩:=fits_at h.ok hpro ho' hs
    have:=(List.getElem?_eq_some_iff.1 hl).1
    have:=h.fo.le
    omega
   ·omega
  ·omega
 simp -implicitDefEqProofs only[↓Zd,(Zp),simprocAttr,Value.cells,(RTx),co87]
 refine tshape_spec (h.le l1) ?_
 have hBA:¬ s.next+1=s.next:=by omega
 have hAB:¬ s.next=s.next+1:=by omega
 have l2:s.le (((s.new (.cells [.int .i64 0,.int .i64 0,.int .i64 0,.int .i64 0,.slice none 0 0] 161 true)).new (.cells [.int .i64 0,.int .i64 0,.int .i64 0,.int .i64 0,.slice none 0 0] 161 true)).put (s.next+1) (.cells [.int .i64 (shapeV H o),.int .i64 0,.int .i64 0,.int .i64 0,.slice none 0 0] 161 true)):=lP (lN l1) (by omega)
 have cA2:(((s.new (.cells [.int .i64 0,.int .i64 0,.int .i64 0,.int .i64 0,.slice none 0 0] 161 true)).new (.cells [.int .i64 0,.int .i64 0,.int .i64 0,.int .i64 0,.slice none 0 0] 161 true)).put (s.next+1) (.cells [.int .i64 (shapeV H o),.int .i64 0,.int .i64 0,.int .i64 0,.slice none 0 0] 161 true)).at' s.next=some (.cells [.int .i64 0,.int .i64 0,.int .i64 0,.int .i64 0,.slice none 0 0] 161 true):=by rw[St.at_put,if_neg hAB,St.at_new,if_neg (by simp only[St.next_new];omega),St.at_new,if_pos rfl]
 have cB2:(((s.new (.cells [.int .i64 0,.int .i64 0,.int .i64 0,.int .i64 0,.slice none 0 0] 161 true)).new (.cells [.int .i64 0,.int .i64 0,.int .i64 0,.int .i64 0,.slice none 0 0] 161 true)).put (s.next+1) (.cells [.int .i64 (shapeV H o),.int .i64 0,.int .i64 0,.int .i64 0,.slice none 0 0] 161 true)).at' (s.next+1)=some (.cells [.int .i64 (shapeV H o),.int .i64 0,.int .i64 0,.int .i64 0,.slice none 0 0] 161 true):=by rw[St.at_put,if_pos rfl]
 have hn2:(((s.new (.cells [.int .i64 0,.int .i64 0,.int .i64 0,.int .i64 0,.slice none 0 0] 161 true)).new (.cells [.int .i64 0,.int .i64 0,.int .i64 0,.int .i64 0,.slice none 0 0] 161 true)).put (s.next+1) (.cells [.int .i64 (shapeV H o),.int .i64 0,.int .i64 0,.int .i64 0,.slice none 0 0] 161 true)).next=s.next+2:=rfl
 simp -implicitDefEqProofs only[↓Zd,(Zp),simprocAttr,qP,Value.cells,qC,cld2,(HEx),(RTx),rbEnt1,co93]
 generalize ((s.new (.cells [.int .i64 0,.int .i64 0,.int .i64 0,.int .i64 0,.slice none 0 0] 161 true)).new (.cells [.int .i64 0,.int .i64 0,.int .i64 0,.int .i64 0,.slice none 0 0] 161 true)).put (s.next+1) (.cells [.int .i64 (shapeV H o),.int .i64 0,.int .i64 0,.int .i64 0,.slice none 0 0] 161 true)=s2 at l2 cA2 cB2 hn2 ⊢
 have hs2':=l2
 refine rslotof_spec (i:=shapeV H o) (h.le l2) hN (by have:=hshb o;omega) ?_
 have hyes2:∀ s' (e:Ent) (dl:Value) {a b c d:Int},(e.shape:Int)=a→e.holder=b→e.slot=c→(e.to:Int)=d→s.le s'→LookE H x o (some e)→DepsAt RY s' (fun b=>s.next≤b∧b<s'.next) dl e.deps→R (.tuple #[.agg #[.int .i64 a,.int .i64 b,.int .i64 c,.int .i64 d,dl],.bool true]) s':=by
  rintro s' e dl _ _ _ _ rfl rfl rfl rfl h1 h2 h3
  exact hyes s' e dl h1 h2 h3
 clear hyes
 have hsn:=Int.toNat_of_nonneg hsh0
 by_cases hk:0≤slotOf H (shapeV H o) x
 ·simp -implicitDefEqProofs only[↓Zd,(Zp),simprocAttr,qP,Value.cells,cut,qC,cld2,(HEx),(RTx),cA2,cB2,hAB,hk]
  exact hyes2 _ ⟨(shapeV H o).toNat,0,slotOf H (shapeV H o) x,0,[]⟩ _ hsn rfl rfl rfl (lP (lP hs2' (by omega)) (by omega)) (by unfold LookE;rw[if_pos hk]) ⟨.inl ⟨rfl,rfl,rfl⟩,fun q n c e=>(by cases e),fun _=>rfl⟩
 have hle:∀ {q},LookR H x (protoV H o) q→LookE H x o (q.map fun q=>⟨(shapeV H o).toNat,q.2.1,q.2.2,0,q.1⟩):=fun hq=>by
  unfold LookE
  rw[if_neg hk]
  exact⟨_,hq,rfl⟩
 obtain⟨d,hd,hdl⟩:=deep_few h.ok
 have hpv:∀ i,protoV H i=0∨∃ j:Nat,j<H.obs.length∧protoV H i=((j+1:Nat):Int):=fun i=>by
  unfold protoV
  split
  ·rename_i o' ho'
   obtain⟨j,rfl,hj,hoj⟩:=obAt_some ho'
   by_cases h0:o'.proto=0
   ·exact .inl (by rw[h0];rfl)
   ·rcases hd j o' hoj with h1|⟨h1,_⟩
    ·exact absurd h1 h0
    ·exact .inr ⟨o'.proto - 1,by omega,by omega⟩
  ·exact .inl rfl
 simp -implicitDefEqProofs only[↓Zd,(Zp),simprocAttr,(HEx),hk,co100]
 refine rproto_spec (h.le l2) ?_
 simp -implicitDefEqProofs only[↓Zd,(Zp),simprocAttr,(HEx)]
 have hstep:∀ j:Nat,j<H.obs.length→(if protoV H ((j+1:Nat):Int)=0 then 0 else d (protoV H ((j+1:Nat):Int)).toNat+1)<d (j+1)+1:=fun j hj=>by
  have ho':H.obs[j]?=some H.obs[j]:=List.getElem?_eq_getElem hj
  have hpr:protoV H ((j+1:Nat):Int)=(H.obs[j].proto:Int):=by unfold protoV;rw[obAt_get,ho']
  rw[hpr]
  split
  ·omega
  ·rw[Int.toNat_natCast]
   rcases hd j _ ho' with h1|⟨_,h1⟩<;>omega
 refine wloop_inv hmix (fun fuel env s'=>env 0 = .pointer (some ⟨p,0,none⟩)∧env 2 = .string x∧env 6 = .pointer (some ⟨s.next,0,none⟩)∧env 8 = .pointer (some ⟨s.next+1,0,none⟩) ∧
  ∃ (p1:Int) (kk:Nat) (acc:List (Nat×Nat)) (dl:Value),env 10 = .int .i64 p1∧env 11 = .int .i64 (kk:Int)∧(p1=0∨∃ j:Nat,j<H.obs.length∧p1=((j+1:Nat):Int))∧fuel=(if p1=0 then 0 else d p1.toNat+1)∧kk+fuel≤H.obs.length∧acc.length+fuel≤201∧s.le s'∧s.next+2≤s'.next ∧
   s'.at' s.next=some (.cells [.int .i64 0,.int .i64 0,.int .i64 0,.int .i64 0,.slice none 0 0] 161 true)∧s'.at' (s.next+1)=some (.cells [.int .i64 (shapeV H o),.int .i64 0,.int .i64 0,.int .i64 0,dl] 161 true) ∧
   DepsAt RY s' (fun b=>s.next+2≤b∧b<s'.next) dl acc∧(∀ q,LookR H x p1 q→LookR H x (protoV H o) (q.map fun q=>(acc++q.1,q.2.1,q.2.2)))) (if protoV H o=0 then 0 else d (protoV H o).toNat+1) ?_ ?_
 ·have hf0:(if protoV H o=0 then 0 else d (protoV H o).toNat+1)≤H.obs.length:=by
   rcases hpv o with h0|⟨j,hj,h0⟩
   ·rw[if_pos h0];omega
   ·rw[if_neg (by omega),h0,Int.toNat_natCast]
    have:=hdl j hj
    omega
  refine⟨rfl,rfl,rfl,rfl,protoV H o,0,[],.slice none 0 0,rfl,rfl,hpv o,rfl,by omega,by simp only[List.length_nil];omega,hs2',by omega,cA2,cB2,⟨.inl ⟨rfl,rfl,rfl⟩,fun q n c e=>(by cases e),fun _=>rfl⟩,fun q hq=>?_⟩
  cases q with
  |none=>exact hq
  |some q=>exact hq
 rintro fuel env s3 ⟨e0,e2,e6,e8,p1,kk,acc,dl,e10,e11,hp1,rfl,hkf,hfl,hs3,hn3,cA3,cB3,hD3,him⟩
 obtain⟨qa,qn,qc,rfl⟩:∃ a n c,dl=Value.slice a n c:=hD3.form
 have h3:=h.le hs3
 have hb3:=h3.bl
 obtain⟨fq,fc,hsl⟩:=h3.form
 rw[hsl]at hb3
 have hkl:(kk:Int)≤(H.obs.length:Int):=by omega
 by_cases h0:p1=0
 ·subst h0
  simp -implicitDefEqProofs only[↓Zd,(Zp),simprocAttr,qP,Value.cells,cut,qC,cld2,(HEx),(REx),(RTx),e0,e6,e8,e10,e11,hb3,hkl,cA3,cB3,hAB]
  have hk0:=hle (him _ .stop)
  simp only[Option.map_some,List.append_nil]at hk0
  refine hyes2 _ ⟨(shapeV H o).toNat,-1,0,0,acc⟩ _ hsn rfl rfl rfl ?_ hk0 ⟨hD3.1.same fun q n c e=>?_,fun q n c e=>?_,hD3.2.2⟩
  ·exact (by repeat (first|exact lR _|assumption|refine lN ?_|refine lP ?_ (by first|omega|(simp only[(Sn)];omega))|refine lT ?_ (by assumption)))
  ·have:=hD3.2.1 q n c e
   rw[St.at_put,if_neg (by omega),St.at_put,if_neg (by omega)]
  ·have:=hD3.2.1 q n c e
   exact⟨by omega,this.2⟩
 rcases hp1 with hp1|⟨j1,hj1,rfl⟩
 ·exact absurd hp1 h0
 rw[if_neg h0,Int.toNat_natCast]at hfl hkf ⊢
 have wk:IntKind.i64.wrap ((kk:Int)+1)=((kk+1:Nat):Int):=by rw[wrap_i64 (by omega)];omega
 simp -implicitDefEqProofs only[↓Zd,(Zp),simprocAttr,cld2,(REx),e0,e10,e11,hb3,hkl,h0,co87]
 refine tshape_spec h3 ?_
 by_cases hs0:shapeV H ((j1+1:Nat):Int)=0
 ·rw[hs0]
  simp -implicitDefEqProofs only[↓Zd,(Zp),simprocAttr,qP,Value.cells,cut,qC,cld2,(HEx),(RTx),e6,cA3,rbEnt0]
  exact hno _ (lP hs3 (by omega)) (hle (him _ (.loose h0 hs0)))
 have hjo:H.obs[j1]?=some H.obs[j1]:=List.getElem?_eq_getElem hj1
 obtain⟨ob,br,vs,own,ns,vv,hb,hB,hslo,hbr,hg,hbrn,hob,hfr,hO2⟩:=h3.at hjo
 have hh1:=h3.bl
 rw[hslo]at hh1
 have hh2:=hob.bl
 have hjk:=ix_ok (n:=bs.length) (j:=j1) (by rw[h.len];exact hj1)
 have wj:=h.w hj1
 have hep:epochV H ((j1+1:Nat):Int)=(H.obs[j1].epoch:Int):=by unfold epochV;rw[obAt_get,hjo]
 simp -implicitDefEqProofs only[↓Zd,(Zp),simprocAttr,cld2,(HEx),(REx),(RTx),e0,e8,e10,hh1,hh2,wj,hjk,hbr,hg,cB3,hs0,ord91,rbDep2,rrowDep]
 refine wch_appRDep rfl rfl (by omega) hD3.1 (fun q m c e=>(hD3.2.1 q m c e).2) fun s5 hn5 hb5 hk5=>?_
 have hl5:s.le s5:=⟨by have:=hs3.1;omega,fun c hc=>by rw[hk5 c (by have:=hs3.1;omega) (fun q n c' e=>by have:=(hD3.2.1 q n c' e).1;omega)];exact hs3.2 c hc⟩
 have cA5:=(hk5 s.next (by omega) (fun q n c' e=>by have:=(hD3.2.1 q n c' e).1;omega)).trans cA3
 have cB5:=(hk5 (s.next+1) (by omega) (fun q n c' e=>by have:=(hD3.2.1 q n c' e).1;omega)).trans cB3
 obtain⟨ob5,br5,vs5,own5,ns5,vv5,hb5',hB5,hslo5,hbr5,hg5,hbrn5,hob5,hfr5,hO5⟩:=(h.le hl5).at hjo
 have hh5:=(h.le hl5).bl
 rw[hslo5]at hh5
 have hh6:=hob5.bl
 simp -implicitDefEqProofs only[↓Zd,(Zp),simprocAttr,qP,Value.cells,qC,(RTx),e0,e8,e10,cB5,co87]
 have l6:s.le (s5.put (s.next+1) (.cells [.int .i64 (shapeV H o),.int .i64 0,.int .i64 0,.int .i64 0,.slice (some ⟨s3.next+1,0,none⟩) (acc.length+1) UNK] 161 true)):=lP hl5 (by omega)
 have cA6:(s5.put (s.next+1) (.cells [.int .i64 (shapeV H o),.int .i64 0,.int .i64 0,.int .i64 0,.slice (some ⟨s3.next+1,0,none⟩) (acc.length+1) UNK] 161 true)).at' s.next=some (.cells [.int .i64 0,.int .i64 0,.int .i64 0,.int .i64 0,.slice none 0 0] 161 true):=by rw[St.at_put,if_neg hAB];exact cA5
 have cB6:(s5.put (s.next+1) (.cells [.int .i64 (shapeV H o),.int .i64 0,.int .i64 0,.int .i64 0,.slice (some ⟨s3.next+1,0,none⟩) (acc.length+1) UNK] 161 true)).at' (s.next+1)=some (.cells [.int .i64 (shapeV H o),.int .i64 0,.int .i64 0,.int .i64 0,.slice (some ⟨s3.next+1,0,none⟩) (acc.length+1) UNK] 161 true):=by rw[St.at_put,if_pos rfl]
 have cD6:=rdeps_more (s':=s5.put (s.next+1) (.cells [.int .i64 (shapeV H o),.int .i64 0,.int .i64 0,.int .i64 0,.slice (some ⟨s3.next+1,0,none⟩) (acc.length+1) UNK] 161 true)) (O:=fun b=>s.next+2≤b∧b<s3.next+2) (acc:=acc) (d:=(j1+1,H.obs[j1].epoch)) (b:=s3.next+1) (by rw[St.at_put,if_neg (by omega),hb5]) ⟨by omega,by omega⟩
 have n6:(s5.put (s.next+1) (.cells [.int .i64 (shapeV H o),.int .i64 0,.int .i64 0,.int .i64 0,.slice (some ⟨s3.next+1,0,none⟩) (acc.length+1) UNK] 161 true)).next=s3.next+2:=hn5
 generalize s5.put (s.next+1) (.cells [.int .i64 (shapeV H o),.int .i64 0,.int .i64 0,.int .i64 0,.slice (some ⟨s3.next+1,0,none⟩) (acc.length+1) UNK] 161 true)=s6 at l6 cA6 cB6 cD6 n6 ⊢
 refine tshape_spec (h.le l6) ?_
 simp -implicitDefEqProofs only[↓Zd,(Zp),simprocAttr,(HEx),e2,co93]
 refine rslotof_spec (i:=shapeV H ((j1+1:Nat):Int)) (h.le l6) hN (by have:=hshb ((j1+1:Nat):Int);omega) ?_
 have hnat:(((j1+1:Nat):Int)).toNat=j1+1:=Int.toNat_natCast _
 have hepn:(epochV H ((j1+1:Nat):Int)).toNat=H.obs[j1].epoch:=by rw[hep,Int.toNat_natCast]
 by_cases hk7:0≤slotOf H (shapeV H ((j1+1:Nat):Int)) x
 ·simp -implicitDefEqProofs only[↓Zd,(Zp),simprocAttr,qP,Value.cells,cut,qC,cld2,(HEx),(RTx),e6,e8,e10,cA6,cB6,hAB,hk7]
  have hlk:=hle (him _ (.hit h0 hs0 hk7))
  simp only[Option.map_some,hnat,hepn]at hlk
  refine hyes2 _ ⟨(shapeV H o).toNat,((j1+1:Nat):Int),_,0,acc ++ [(j1+1,H.obs[j1].epoch)]⟩ _ hsn rfl rfl rfl ?_ hlk ⟨cD6.1.same fun q n c e=>?_,fun q n c e=>?_,cD6.2.2⟩
  ·exact (by repeat (first|exact lR _|assumption|refine lN ?_|refine lP ?_ (by first|omega|(simp only[(Sn)];omega))|refine lT ?_ (by assumption)))
  ·have:=cD6.2.1 q n c e
   rw[St.at_put,if_neg (by omega),St.at_put,if_neg (by omega),St.at_put,if_neg (by omega)]
  ·have:=cD6.2.1 q n c e
   simp only[St.next_put]
   exact⟨by omega,by omega⟩
 ·simp -implicitDefEqProofs only[↓Zd,(Zp),simprocAttr,(HEx),e0,e10,hk7,co100]
  refine rproto_spec (h.le l6) ?_
  have hst:=hstep j1 hj1
  simp -implicitDefEqProofs only[↓Zd,(Zp),simprocAttr,(HEx),e0,e2,e6,e8,e11,wk]
  refine⟨_,hst,_,kk+1,_,_,rfl,rfl,hpv _,rfl,by omega,?_,l6,by omega,cA6,cB6,cD6.same fun b hb=>⟨⟨hb.1,by omega⟩,rfl⟩,fun q hq=>?_⟩
  ·rw[List.length_append];simp only[List.length_cons,List.length_nil];omega
  ·have:=him _ (.up h0 hs0 (by omega) hq)
   cases q with
   |none=>exact this
   |some q =>
    simp only[Option.map_some,hnat,hepn]at this ⊢
    simpa only[List.append_assoc,List.cons_append,List.nil_append] using this
end
section
variable {lo t N:Nat}{T:Tab}{O:Nat→Prop}{al:Value}{rb cp:Nat→Nat}{sl:Nat→Nat→Value}
theorem ekeep_stores{i j:Nat}{v:Value}{m:Bool}(hj:j<T.n i) :
  (rows (fun k=>rsitC (T.st i k) (sl i k)) (T.n i)).set (j*4+2) v=rows (fun k=>if k=j then rsitC (T.st i j) v else rsitC (T.st i k) (sl i k)) (T.n i) ∧
  (rows (fun k=>if k=j then rsitC (T.st i j) v else rsitC (T.st i k) (sl i k)) (T.n i)).set (j*4+3) (.bool m)=rows (fun k=>if k=j then rsitC { T.st i j with mega:=m } v else rsitC (T.st i k) (sl i k)) (T.n i) ∧
  (rows (fun k=>rsitC (T.st i k) (sl i k)) (T.n i)).length=T.n i*4∧(rows (fun k=>if k=j then rsitC (T.st i j) v else rsitC (T.st i k) (sl i k)) (T.n i)).length=T.n i*4∧j*4+4≤T.n i*4∧j*4+3≤T.n i*4:=by
 have hl:∀ (k:Nat) (z:Sit) (v:Value),(if k=j then rsitC z v else rsitC (T.st i k) (sl i k)).length=4:=fun k z v=>by split<;>rfl
 refine⟨rows_set0 (k:=4) (fun _=>rfl) (fun k=>hl k _ _) hj (by omega) (fun k hk=>if_neg hk) (by rw[if_pos rfl];rfl),rows_set0 (k:=4) (fun k=>hl k _ _) (fun k=>hl k _ _) hj (by omega) (fun k hk=>by rw[if_neg hk,if_neg hk]) (by rw[if_pos rfl,if_pos rfl];rfl),rows_len (k:=4) (fun _=>rfl) _,rows_len (k:=4) (fun k=>hl k _ _) _,by omega,by omega⟩
theorem ekeep_spec(h:SAt RY lo s t T N O al rb cp sl){i j:Nat}(hi:i<T.fs)(hj:j<T.n i)(hlo:lo≤s.next){e:Ent}{dl:Value}(hz:(T.st i j).es.length≤4)(hm:(T.st i j).mega=false)(hD:DepsAt RY s O dl e.deps)
  (hR:∀ s' O' sl',SAt RY lo s' t (putT T i j (keepS (T.st i j) e)) N O' al rb cp sl'→Upd s s' O O'→R (.tuple #[]) s') :
  QC prog w0 92 #[.pointer (some ⟨t,0,none⟩),.int .i64 (i:Int),.int .i64 (j:Int),.agg (entC e dl).toArray] s R:=by
 refine wfun2 hmix ok92 func92 rfl ntmps92 results92 (by simp) ?_
 have hb:s.at' t=some (.cells [al,.int .i64 (T.hits:Int),.int .i64 (T.misses:Int)] 106 true):=h.bl
 obtain⟨b0,junk0,hal,ha,hg,hb0O⟩:=h.ab hi
 rw[hal]at hb
 have hii:(0:Int)≤(i:Int)∧(i:Int)<(T.fs:Int):=by omega
 have hjj:(0:Int)≤(j:Int)∧(j:Int)<(T.n i:Int):=by omega
 have hr:s.at' (rb i)=some (.cells (rows (fun m=>rsitC (T.st i m) (sl i m)) (T.n i)) 182 true):=h.row i hi
 have g2:(rows (fun m=>rsitC (T.st i m) (sl i m)) (T.n i))[j*4+2]?=some (sl i j):=rows_get0 (c:=fun m=>rsitC (T.st i m) (sl i m)) (k:=4) (fun _=>rfl) hj (j:=2) (by omega)
 have hrbO:=h.pinR i hi
 have hOn:∀ b,O b→b<s.next:=fun b hb=>(h.own b hb).2
 have hrbn:=hOn _ hrbO
 have htn:=hOn _ h.pin
 have hb0n:=hOn _ hb0O
 have hne1:¬ t=s.next:=by omega
 have hne2:¬ b0=s.next:=by omega
 have hne3:¬ rb i=s.next:=by omega
 have hE:=h.es i j hi hj
 obtain⟨sq,sc,hv⟩:=hE.form
 obtain⟨qa,qn,qc,rfl⟩:=hD.form
 have hall:(entC e (.slice qa qn qc)).toArray=#[.int .i64 (e.shape:Int),.int .i64 e.holder,.int .i64 e.slot,.int .i64 (e.to:Int),.slice qa qn qc]:=rfl
 have l1:s.le (s.new (.cells [.int .i64 (e.shape:Int),.int .i64 e.holder,.int .i64 e.slot,.int .i64 (e.to:Int),.slice qa qn qc] 161 true)):=lN (lR _)
 have c1:(s.new (.cells [.int .i64 (e.shape:Int),.int .i64 e.holder,.int .i64 e.slot,.int .i64 (e.to:Int),.slice qa qn qc] 161 true)).at' s.next=some (.cells [.int .i64 (e.shape:Int),.int .i64 e.holder,.int .i64 e.slot,.int .i64 (e.to:Int),.slice qa qn qc] 161 true):=by rw[St.at_new,if_pos rfl]
 have n1:(s.new (.cells [.int .i64 (e.shape:Int),.int .i64 e.holder,.int .i64 e.slot,.int .i64 (e.to:Int),.slice qa qn qc] 161 true)).next=s.next+1:=rfl
 have hb1:=(l1.2 t htn).trans hb
 have ha1:=(l1.2 b0 hb0n).trans ha
 have hr1:=(l1.2 _ hrbn).trans hr
 simp -implicitDefEqProofs only[↓Zd,(Zp),simprocAttr,qP,Value.cells,cld2,(HEx),(RTx),hall,hb,ha,hg,hii,hjj,hr,g2,hne1,hne2,hne3,ord92,co89,Nat.add_zero]
 generalize s.new (.cells [.int .i64 (e.shape:Int),.int .i64 e.holder,.int .i64 e.slot,.int .i64 (e.to:Int),.slice qa qn qc] 161 true)=s1 at l1 c1 n1 hb1 ha1 hr1 ⊢
 refine efind_spec (O:=O) (hE.same fun b hb=>⟨hb,l1.2 b (hOn b hb)⟩) (by omega) ?_
 cases hhit:hitI (T.st i j).es e.shape with
 |some k =>
  obtain⟨u,hu1,_,_⟩:=hitI_some hhit
  have hk:=(List.getElem?_eq_some_iff.1 hu1).1
  have hks:keepS (T.st i j) e={ T.st i j with es:=(T.st i j).es.set k e }:=by unfold keepS;rw[hhit]
  rw[hks]at hR
  obtain⟨dlf,h1,h2,h3,h4⟩:=hE
  rcases h1 with ⟨g1,_,_⟩|⟨eb,junk,hv2,ge,g3⟩
  ·omega
  have hebO:O eb:=h2 _ _ _ hv2
  have hebn:=hOn _ hebO
  rw[hv2]at g2
  have ge1:s1.at' eb=some (.cells (rows (fun k=>entC ((T.st i j).es.getD k e0) (dlf k)) (T.st i j).es.length++junk) 161 true):=(l1.2 eb hebn).trans ge
  have hN:hitN (T.st i j).es e.shape=(k:Int):=by unfold hitN;rw[hhit]
  rw[hN]
  have hk0:(0:Int)≤(k:Int):=by omega
  have hkk:(0:Int)≤(k:Int)∧(k:Int)<((T.st i j).es.length:Int):=by omega
  have hset:=rows_set5 (c:=fun k=>entC ((T.st i j).es.getD k e0) (dlf k)) (v0 := .int .i64 (e.shape:Int)) (v1 := .int .i64 e.holder) (v2 := .int .i64 e.slot) (v3 := .int .i64 (e.to:Int)) (v4 := .slice qa qn qc) (fun _=>rfl) junk hk
  have hlen:k*5+5≤(rows (fun k=>entC ((T.st i j).es.getD k e0) (dlf k)) (T.st i j).es.length++junk).length:=by rw[List.length_append,rows_len (k:=5) (fun _=>rfl)];omega
  simp -implicitDefEqProofs only[↓Zd,(Zp),simprocAttr,qP,Value.cells,cut,qC,cld2,(HEx),(RTx),hr1,g2,c1,ge1,hk0,hkk,hset,hlen]
  have hrbeb:rb i≠eb:=at_apart hr ge (by decide)
  have hat:∀ b,b≠eb→∀ B,(s1.put eb B).at' b=s1.at' b:=fun b hb B=>by rw[St.at_put,if_neg hb]
  refine hR _ O _ (h.set hi hj (v':=sl i j) (z':={ T.st i j with es:=(T.st i j).es.set k e }) ?_ (fun _ h=>h) (fun b hb=>?_) ?_ (fun b hb hne2 hq3=>?_) ⟨fun m=>if m=k then .slice qa qn qc else dlf m,?_,fun q n c e=>?_,fun m hm=>?_,fun hnil=>?_⟩ (fun q n c e => .inl ⟨q,n,c,e,rfl⟩)) ⟨?_,fun c hc hO2=>?_,fun b hb => .inl hb⟩
  ·simp only[St.next_put];omega
  ·have:=h.own b hb;simp only[St.next_put];exact⟨this.1,by omega⟩
  ·rw[hat _ hrbeb,hr1]
   congr 2
   refine rows_congr fun m hm=>?_
   by_cases em:m=j
   ·subst em;rw[if_pos rfl];rfl
   ·rw[if_neg em];rfl
  ·rw[hat _ (fun e=>hq3 _ _ _ hv2 e)];exact l1.2 _ (hOn b hb)
  ·rw[List.length_set]
   refine .inr ⟨eb,junk,hv2,?_,rows_len (k:=5) (fun _=>rfl) _⟩
   rw[St.at_put,if_pos rfl]
   congr 3
   refine rows_congr fun m hm=>?_
   show _=entC (((T.st i j).es.set k e).getD m e0) (if m=k then .slice qa qn qc else dlf m)
   by_cases em:m=k
   ·subst em
    rw[if_pos rfl,if_pos rfl,List.getD_eq_getElem?_getD,List.getElem?_set_self hk]
    rfl
   ·rw[if_neg em,if_neg em,List.getD_eq_getElem?_getD,List.getD_eq_getElem?_getD,List.getElem?_set_ne (fun e=>em e.symm)]
  ·exact h2 _ _ _ e
  ·have hm:m<(T.st i j).es.length:=by simpa using hm
   have hkd:∀ b cs,O b→s.at' b=some (.cells cs 162 true)→(s1.put eb (.cells (rows (fun m=>if m=k then [.int .i64 (e.shape:Int),.int .i64 e.holder,.int .i64 e.slot,.int .i64 (e.to:Int),.slice qa qn qc] else entC ((T.st i j).es.getD m e0) (dlf m)) (T.st i j).es.length++junk) 161 true)).at' b=s.at' b:=fun b cs hb h5=>by
    rw[hat _ (at_apart h5 ge (by decide))];exact l1.2 _ (hOn b hb)
   show DepsAt RY _ O (if m=k then .slice qa qn qc else dlf m) (((T.st i j).es.set k e).getD m e0).deps
   by_cases em:m=k
   ·subst em
    rw[if_pos rfl,List.getD_eq_getElem?_getD,List.getElem?_set_self hk]
    exact hD.keep (fun _ h=>h) hkd
   ·rw[if_neg em,List.getD_eq_getElem?_getD,List.getElem?_set_ne (fun e=>em e.symm),← List.getD_eq_getElem?_getD]
    exact (h3 m hm).keep (fun _ h=>h) hkd
  ·have:(T.st i j).es.set k e=[]:=hnil
   have h0:=congrArg List.length this
   simp at h0
   rw[h0]at hk
   simp at hk
  ·simp only[St.next_put];omega
  ·rw[hat _ (fun e=>hO2 (by rw[e];exact hebO))];exact l1.2 _ hc
 |none =>
  have hN:hitN (T.st i j).es e.shape = -1:=by unfold hitN;rw[hhit]
  rw[hN]
  rw[hv]at g2
  by_cases hl4:(T.st i j).es.length=4
  ·have hl4':((T.st i j).es.length:Int)=4:=by omega
   obtain⟨f1,f2,f3,f4,f5,f6⟩:=ekeep_stores (T:=T) (sl:=sl) (i:=i) (j:=j) (v := .slice none 0 0) (m:=true) hj
   simp -implicitDefEqProofs only[↓Zd,(Zp),simprocAttr,qP,Value.cells,qC,cld2,(HEx),(RTx),hr1,g2,hl4',f1,f2,f3,f4,f5,f6]
   have hks:keepS (T.st i j) e={ T.st i j with es:=[],mega:=true }:=by
    unfold keepS
    rw[hhit]
    show (if 4≤(T.st i j).es.length then _ else _)=_
    rw[if_pos (by omega)]
   rw[hks]at hR
   refine hR _ O _ (h.set hi hj (v' := .slice none 0 0) (z':={ T.st i j with es:=[],mega:=true }) ?_ (fun _ h=>h) (fun b hb=>?_) ?_ (fun b hb hne2 hq3=>?_) ⟨fun _ => .slice none 0 0,.inl ⟨rfl,rfl,rfl⟩,fun q n c e=>(by cases e),fun m hm=>absurd hm (Nat.not_lt_zero _),fun _=>rfl⟩ (fun q n c e=>by cases e)) ⟨?_,fun c hc hO2=>?_,fun b hb => .inl hb⟩
   ·simp only[St.next_put];omega
   ·have:=h.own b hb;simp only[St.next_put];exact⟨this.1,by omega⟩
   ·rw[St.at_put,if_pos rfl];rfl
   ·rw[St.at_put,if_neg hne2,St.at_put,if_neg hne2];exact l1.2 _ (hOn b hb)
   ·simp only[St.next_put];omega
   ·rw[St.at_put,if_neg (fun e=>hO2 (by rw[e];exact hrbO)),St.at_put,if_neg (fun e=>hO2 (by rw[e];exact hrbO))];exact l1.2 _ hc
  ·have hl4':¬ ((T.st i j).es.length:Int)=4:=by omega
   obtain⟨dlf,h1,h2,h3,h4⟩:=hE
   have hslf:∀ q n c,Value.slice sq (T.st i j).es.length sc = .slice (some q) n c→O q.block:=fun q n c e=>h2 q n c (by rw[hv];exact e)
   have hsl1:SlU 161 5 s1 (.slice sq (T.st i j).es.length sc) (rows (fun k=>entC ((T.st i j).es.getD k e0) (dlf k)) (T.st i j).es.length) (T.st i j).es.length:=by
    rw[← hv]
    exact SlU.same h1 fun q n c e=>l1.2 _ (hOn _ (h2 q n c e))
   simp -implicitDefEqProofs only[↓Zd,(Zp),simprocAttr,cut,cld2,(HEx),(RTx),hr1,g2,c1,hl4',rrowEnt]
   refine wch_appREnt rfl (by simp[qC]) (by omega) hsl1 (fun q n c e=>by have:=hOn _ (hslf q n c e);omega) fun s5 n5 b5 k5=>?_
   have hrq:∀ q n c,Value.slice sq (T.st i j).es.length sc = .slice (some q) n c→rb i≠q.block:=fun q n c e=>by
    rcases h1 with ⟨_,_,e2⟩|⟨eb,junk,e2,ge,_⟩
    ·rw[hv]at e2;rw[e2]at e;cases e
    ·rw[hv]at e2;rw[e2]at e;cases e
     exact at_apart hr ge (by decide)
   have hr5:=(k5 (rb i) (by omega) hrq).trans hr1
   have c5:=(k5 s.next (by omega) (fun q n c e=>by have:=hOn _ (hslf q n c e);omega)).trans c1
   obtain⟨f1,f2,f3,f4,f5,f6⟩:=ekeep_stores (T:=T) (sl:=sl) (i:=i) (j:=j) (v := .slice (some ⟨s1.next+1,0,none⟩) ((T.st i j).es.length+1) UNK) (m:=false) hj
   simp -implicitDefEqProofs only[↓Zd,(Zp),simprocAttr,qP,Value.cells,qC,(RTx),hr5,f1,f3,f6]
   have hks:keepS (T.st i j) e={ T.st i j with es:=(T.st i j).es ++ [e] }:=by
    unfold keepS
    rw[hhit]
    show (if 4≤(T.st i j).es.length then _ else _)=_
    rw[if_neg (by omega)]
   rw[hks]at hR
   have hk5:∀ b,b<s.next→(∀ q n c,Value.slice sq (T.st i j).es.length sc = .slice (some q) n c→b≠q.block)→s5.at' b=s.at' b:=fun b hb hq=>(k5 b (by omega) hq).trans (l1.2 b hb)
   have hnb:¬ s1.next+1=rb i:=by omega
   refine hR _ (fun b=>O b∨b=s1.next+1) _ (h.set hi hj (v' := .slice (some ⟨s1.next+1,0,none⟩) ((T.st i j).es.length+1) UNK) (z':={ T.st i j with es:=(T.st i j).es ++ [e] }) ?_ (fun _ h => .inl h) (fun b hb=>?_) ?_ (fun b hb hne2 hq3=>?_) ⟨fun m=>if m<(T.st i j).es.length then dlf m else .slice qa qn qc,.inr ⟨s1.next+1,[],by simp,?_,?_⟩,fun q n c e=>(by cases e;exact .inr rfl),fun m hm=>?_,fun h=>by simp at h⟩ (fun q n c e=>by cases e;exact .inr (by show s.next≤s1.next+1;omega))) ⟨?_,fun c hc hO2=>?_,fun b hb=>?_⟩
   ·simp only[St.next_put];omega
   ·simp only[St.next_put]
    rcases hb with hb|rfl
    ·have:=h.own b hb;exact⟨this.1,by omega⟩
    ·exact⟨by omega,by omega⟩
   ·rw[St.at_put,if_pos rfl];rfl
   ·rw[St.at_put,if_neg hne2]
    exact hk5 b (hOn b hb) fun q n c e=>hq3 q n c (by rw[hv];exact e)
   ·rw[St.at_put,if_neg hnb,b5,List.append_nil]
    show _=some (Blk.cells (rows _ ((T.st i j).es ++ [e]).length) _ true)
    rw[List.length_append,List.length_cons,List.length_nil,Nat.zero_add,rows_succ]
    congr 3
    ·refine rows_congr fun m hm=>?_
     show _=entC (((T.st i j).es ++ [e]).getD m e0) (if m<(T.st i j).es.length then dlf m else .slice qa qn qc)
     rw[if_pos hm,List.getD_eq_getElem?_getD,List.getD_eq_getElem?_getD,List.getElem?_append_left hm]
    ·show _=entC (((T.st i j).es ++ [e]).getD (T.st i j).es.length e0) (if (T.st i j).es.length<(T.st i j).es.length then dlf _ else .slice qa qn qc)
     rw[if_neg (Nat.lt_irrefl _),List.getD_eq_getElem?_getD,List.getElem?_append_right (Nat.le_refl _),Nat.sub_self]
     rfl
   ·exact rows_len (k:=5) (fun _=>rfl) _
   ·have hkd:∀ b cs,O b→s.at' b=some (.cells cs 162 true)→(s5.put (rb i) (.cells (rows (fun k=>if k=j then rsitC (T.st i j) (.slice (some ⟨s1.next+1,0,none⟩) ((T.st i j).es.length+1) UNK) else rsitC (T.st i k) (sl i k)) (T.n i)) 182 true)).at' b=s.at' b:=fun b cs hb h5=>by
     rw[St.at_put,if_neg (at_apart h5 hr (by decide))]
     refine hk5 b (hOn b hb) fun q n c e=>?_
     rcases h1 with ⟨_,_,e2⟩|⟨eb,junk,e2,ge,_⟩
     ·rw[hv]at e2;rw[e2]at e;cases e
     ·rw[hv]at e2;rw[e2]at e;cases e
      exact at_apart h5 ge (by decide)
    show DepsAt RY _ _ (if m<(T.st i j).es.length then dlf m else .slice qa qn qc) (((T.st i j).es ++ [e]).getD m e0).deps
    have hm:m<((T.st i j).es ++ [e]).length:=hm
    rw[List.length_append,List.length_cons,List.length_nil]at hm
    by_cases em:m<(T.st i j).es.length
    ·rw[if_pos em,List.getD_eq_getElem?_getD,List.getElem?_append_left em,← List.getD_eq_getElem?_getD]
     exact (h3 m em).keep (fun _ h => .inl h) hkd
    ·have:m=(T.st i j).es.length:=by omega
     subst this
     rw[if_neg em,List.getD_eq_getElem?_getD,List.getElem?_append_right (Nat.le_refl _),Nat.sub_self]
     exact hD.keep (fun _ h => .inl h) hkd
   ·simp only[St.next_put];omega
   ·rw[St.at_put,if_neg (fun e=>hO2 (by rw[e];exact hrbO))]
    exact hk5 c hc fun q n c2 e e3=>hO2 (by rw[e3];exact hslf q n c2 e)
   ·rcases hb with hb|rfl
    ·exact .inl hb
    ·exact .inr (by omega)
end
section
variable {lo lo1 t p N NN:Nat}{H:Hp}{T:Tab}{O P:Nat→Prop}{al:Value}{rb cp:Nat→Nat}{sl:Nat→Nat→Value}
theorem SAt.moreR{O':Nat→Prop}(h:SAt RY lo s t T N O al rb cp sl)(hO:∀ b,O b→O' b)(hO':∀ b,O' b→lo≤b∧b<s.next):SAt RY lo s t T N O' al rb cp sl:=
 ⟨hO',hO _ h.pin,h.bl,h.cnt,h.all,fun q n c e=>hO _ (h.allO q n c e),fun i hi=>hO _ (h.pinR i hi),h.row,h.inj,fun i j hi hj=>(h.es i j hi hj).keep hO fun _ _ _ _ _ _=>rfl,h.apart,h.small⟩
theorem SAt.le'{s':St M}(h:SAt RY lo s t T N O al rb cp sl)(hs:s.le s'):SAt RY lo s' t T N O al rb cp sl:=h.le hs
theorem rmiss_at{s':St M}(h:SAt RY lo s t T N O al rb cp sl)(hn:s'.next=s.next)(hb:s'.at' t=some (.cells [al,.int .i64 (T.hits:Int),.int .i64 ((T.misses+1:Nat):Int)] 106 true))(hk:∀ b,b≠t→s'.at' b=s.at' b):SAt RY lo s' t (missT T) (N+1) O al rb cp sl:=
 h.count ⟨rfl,rfl,rfl⟩ ⟨by have:=h.cnt.1;show T.hits≤N+1;omega,by have:=h.cnt.2;show T.misses+1≤N+1;omega⟩ hn hb hk
theorem rhit_at{s':St M}(h:SAt RY lo s t T N O al rb cp sl)(hn:s'.next=s.next)(hb:s'.at' t=some (.cells [al,.int .i64 ((T.hits+1:Nat):Int),.int .i64 (T.misses:Int)] 106 true))(hk:∀ b,b≠t→s'.at' b=s.at' b):SAt RY lo s' t (hitT T) (N+1) O al rb cp sl:=
 h.count ⟨rfl,rfl,rfl⟩ ⟨by have:=h.cnt.1;show T.hits+1≤N+1;omega,by have:=h.cnt.2;show T.misses≤N+1;omega⟩ hn hb hk
theorem rplays_at{s':St M}{i j:Nat}{w:Bool}{x:ByteArray}(h:SAt RY lo s t T N O al rb cp sl)(hi:i<T.fs)(hj:j<T.n i)(hn:s'.next=s.next)
  (hb:s'.at' (rb i)=some (.cells (rows (fun m=>if m=j then rsitC (if (T.st i j).mega then T.st i j else playsS (T.st i j) w x) (sl i j) else rsitC (T.st i m) (sl i m)) (T.n i)) 182 true))(hk:∀ a,a≠rb i→s'.at' a=s.at' a) :
  SAt RY lo s' t (putT T i j (if (T.st i j).mega then T.st i j else playsS (T.st i j) w x)) N O al rb cp sl:=by
 have hes:(if (T.st i j).mega then T.st i j else playsS (T.st i j) w x).es=(T.st i j).es:=by
  split
  ·rfl
  ·unfold playsS;split<;>rfl
 have hr:=h.row i hi
 have:=h.set (s':=s') (O':=O) hi hj (z':=if (T.st i j).mega then T.st i j else playsS (T.st i j) w x) (v':=sl i j) (by omega) (fun _ h=>h) (fun b hb=>by have:=h.own b hb;rw[hn];exact this) hb (fun b hb hne _=>hk b hne)
  (by rw[hes];exact (h.es i j hi hj).keep (fun _ h=>h) fun b cs ty h1 h2 h3=>hk b (at_apart h2 hr (by rcases h3 with rfl|⟨rfl,_⟩<;>decide))) (fun q n c e => .inl ⟨q,n,c,e,rfl⟩)
 have e2:(fun a b=>if a=i∧b=j then sl i j else sl a b)=sl:=by
  funext a b
  split
  ·rename_i e;rw[e.1,e.2]
  ·rfl
 rw[e2]at this
 exact this
theorem rp_put{s:St M}{tg:Nat→Nat}{pf:Nat}{sl0 tl:Value}{bs:List Nat}(h:RHpIn lo1 s p H NN P tg pf sl0 tl bs){b:Nat}{B:Blk}(hb:¬ P b):RHpIn lo1 (s.put b B) p H NN P tg pf sl0 tl bs:=
 h.same (Nat.le_refl _) fun c hc=>by rw[St.at_put,if_neg (fun e=>hb (by rw[← e];exact hc))]
theorem etget_spec(hP:RHpAt lo1 s p H NN P)(hS:STab RY lo s t T N O)(hd:∀ b,P b→¬ O b)(hT:TabOk H T)(hlo:lo≤s.next)(hN:N+1≤1000000)(hNN:NN≤1000000){f k o:Int}(ho : -9223372036854775808≤o∧o≤9223372036854775807){x:ByteArray}{r:Option Ent}(hr:LookE H x o r)
  (hR:∀ s' O' v,STab RY lo s' t (getT H T f k o x r) (N+1) O'→Upd s s' O O'→GetR H x o v→R (vOf v) s') :
  QC prog w0 39 #[.pointer (some ⟨t,0,none⟩),.pointer (some ⟨p,0,none⟩),.int .i64 f,.int .i64 k,.int .i64 o,.string x] s R:=by
 refine wfun2 hmix ok39 func39 rfl ntmps39 results39 (by simp) ?_
 obtain⟨hpro,tg,pf,sl0,tl,bs,h⟩:=hP
 obtain⟨al,rb,cp,sl,hs⟩:=hS
 have l1:s.le (s.new (.cells [.int .i64 0,.int .i64 0,.string ⟨#[]⟩] 36 true)):=lN (lR _)
 have c1:(s.new (.cells [.int .i64 0,.int .i64 0,.string ⟨#[]⟩] 36 true)).at' s.next=some (.cells [.int .i64 0,.int .i64 0,.string ⟨#[]⟩] 36 true):=by rw[St.at_new,if_pos rfl]
 have n1:(s.new (.cells [.int .i64 0,.int .i64 0,.string ⟨#[]⟩] 36 true)).next=s.next+1:=rfl
 have htn:=(hs.own _ hs.pin).2
 have htP:¬ P t:=fun hc=>hd t hc hs.pin
 have hPn:∀ c,P c→c<s.next:=fun c hc=>(h.own c hc).2
 have hOn:∀ c,O c→c<s.next:=fun c hc=>(hs.own c hc).2
 have wm:IntKind.i64.wrap ((T.misses:Int)+1)=((T.misses+1:Nat):Int):=by rw[wrap_i64 (by have:=hs.cnt.2;omega)];omega
 have wh:IntKind.i64.wrap ((T.hits:Int)+1)=((T.hits+1:Nat):Int):=by rw[wrap_i64 (by have:=hs.cnt.1;omega)];omega
 simp -implicitDefEqProofs only[↓Zd,(Zp),simprocAttr,Value.cells,(HEx),co86]
 generalize s.new (.cells [.int .i64 0,.int .i64 0,.string ⟨#[]⟩] 36 true)=s1 at l1 c1 n1 ⊢
 refine rget_spec (h.le l1) fun s2 v l2 hv=>?_
 have n2:=l2.1
 have c2:=(l2.2 s.next (by omega)).trans c1
 obtain⟨y1,y2,y3⟩:=v
 unfold vOf vA
 have l3:s2.le ((s2.new (.cells [.int .i64 0,.int .i64 0,.string ⟨#[]⟩] 36 true)).put s2.next (.cells [.int .i64 y1,.int .i64 y2,.string y3] 36 true)):=(by repeat (first|exact lR _|assumption|refine lN ?_|refine lP ?_ (by first|omega|(simp only[(Sn)];omega))|refine lT ?_ (by assumption)))
 have n3:((s2.new (.cells [.int .i64 0,.int .i64 0,.string ⟨#[]⟩] 36 true)).put s2.next (.cells [.int .i64 y1,.int .i64 y2,.string y3] 36 true)).next=s2.next+1:=rfl
 have cv3:((s2.new (.cells [.int .i64 0,.int .i64 0,.string ⟨#[]⟩] 36 true)).put s2.next (.cells [.int .i64 y1,.int .i64 y2,.string y3] 36 true)).at' s2.next=some (.cells [.int .i64 y1,.int .i64 y2,.string y3] 36 true):=by rw[St.at_put,if_pos rfl]
 simp -implicitDefEqProofs only[↓Zd,(Zp),simprocAttr,qP,Value.cells,qC,(HEx),co87]
 generalize (s2.new (.cells [.int .i64 0,.int .i64 0,.string ⟨#[]⟩] 36 true)).put s2.next (.cells [.int .i64 y1,.int .i64 y2,.string y3] 36 true)=s3 at l3 n3 cv3 ⊢
 have l13:=lT l1 (lT l2 l3)
 have c3:=(l3.2 s.next (by omega)).trans c2
 have h3:=h.le l13
 have hs3:=hs.le l13
 have hb3:s3.at' t=some (.cells [al,.int .i64 (T.hits:Int),.int .i64 (T.misses:Int)] 106 true):=hs3.bl
 have hne1:¬ s.next=t:=by omega
 have hne2:¬ s2.next=t:=by omega
 have fin:∀ {s8:St M}{O8:Nat→Prop},STab RY lo s8 t (getT H T f k o x r) (N+1) O8→(∀ b,b<s.next→¬ O b→s8.at' b=s.at' b)→s2.next+1≤s8.next→(∀ b,O8 b→O b∨s.next+1≤b)→R (.agg #[.int .i64 y1,.int .i64 y2,.string y3]) (s8.put s.next (.cells [.int .i64 y1,.int .i64 y2,.string y3] 36 true)):=fun {s8 O8} a8 k8 n8 o8=>by
  refine hR _ O8 (y1,y2,y3) (a8.same (Nat.le_refl _) fun b hb=>?_) ⟨?_,fun b hb hO=>?_,fun b hb=>?_⟩ hv
  ·rw[St.at_put,if_neg (fun e=>by rcases o8 b hb with h1|h1;have:=hOn b h1;omega;omega)]
  ·simp only[St.next_put];omega
  ·rw[St.at_put,if_neg (by omega)];exact k8 b hb hO
  ·rcases o8 b hb with h1|h1
   ·exact .inl h1
   ·exact .inr (by omega)
 refine tshape_spec h3 ?_
 by_cases h0:shapeV H o=0
 ·have hgt:getT H T f k o x r=missT T:=by unfold getT;rw[if_pos h0]
  rw[hgt]at fin
  simp -implicitDefEqProofs only[↓Zd,(Zp),simprocAttr,qP,Value.cells,cut,qC,cld2,(HEx),(RTx),h0,hb3,wm,hne1,hne2,c3,cv3]
  have a8:=rmiss_at (s':=s3.put t (.cells [al,.int .i64 (T.hits:Int),.int .i64 ((T.misses+1:Nat):Int)] 106 true)) hs3 rfl (by rw[St.at_put,if_pos rfl]) (fun b hb=>by rw[St.at_put,if_neg hb])
  exact fin ⟨_,_,_,_,a8⟩ (fun b hb hO=>by rw[St.at_put,if_neg (fun e=>hO (by rw[e];exact hs.pin))];exact l13.2 b hb) (by simp only[St.next_put];omega) (fun b hb => .inl hb)
 simp -implicitDefEqProofs only[↓Zd,(Zp),simprocAttr,(HEx),h0,co88]
 refine tplays_spec (w:=false) hs3 (fun hnot=>?_) (fun s4 i j hfi hkj hi hj hhas n4 b4 k4=>?_)
 ·have hgt:getT H T f k o x r=missT T:=by unfold getT;rw[if_neg h0,if_pos hnot]
  rw[hgt]at fin
  simp -implicitDefEqProofs only[↓Zd,(Zp),simprocAttr,qP,Value.cells,cut,qC,cld2,(HEx),(RTx),hb3,wm,hne1,hne2,c3,cv3]
  have a8:=rmiss_at (s':=s3.put t (.cells [al,.int .i64 (T.hits:Int),.int .i64 ((T.misses+1:Nat):Int)] 106 true)) hs3 rfl (by rw[St.at_put,if_pos rfl]) (fun b hb=>by rw[St.at_put,if_neg hb])
  exact fin ⟨_,_,_,_,a8⟩ (fun b hb hO=>by rw[St.at_put,if_neg (fun e=>hO (by rw[e];exact hs.pin))];exact l13.2 b hb) (by simp only[St.next_put];omega) (fun b hb => .inl hb)
 subst hfi hkj
 rw[getT,if_neg h0,if_neg (not_not_intro hhas),siteAt_nat]at fin
 have hrO:=hs.pinR i hi
 have hrn:=hOn _ hrO
 have hrP:¬ P (rb i):=fun hc=>hd _ hc hrO
 have a4:=rplays_at hs3 hi hj n4 b4 k4
 have h4:=h3.same (s':=s4) (by omega) fun c hc=>k4 c (fun e=>hrP (by rw[← e];exact hc))
 have c4:=(k4 s.next (by omega)).trans c3
 have cv4:=(k4 s2.next (by omega)).trans cv3
 have hb4:s4.at' t=some (.cells [al,.int .i64 (T.hits:Int),.int .i64 (T.misses:Int)] 106 true):=a4.bl
 have kk4:∀ b,b<s.next→¬ O b→s4.at' b=s.at' b:=fun b hb hO=>by rw[k4 b (fun e=>hO (by rw[e];exact hrO))];exact l13.2 b hb
 cases hpl:playsB (T.st i j) false x with
 |false =>
  rw[plays_no hpl,putT_same]at a4
  rw[if_pos hpl]at fin
  simp -implicitDefEqProofs only[↓Zd,(Zp),simprocAttr,qP,Value.cells,cut,qC,cld2,(HEx),(RTx),hb4,wm,hne1,hne2,c4,cv4]
  have a8:=rmiss_at (s':=s4.put t (.cells [al,.int .i64 (T.hits:Int),.int .i64 ((T.misses+1:Nat):Int)] 106 true)) a4 rfl (by rw[St.at_put,if_pos rfl]) (fun b hb=>by rw[St.at_put,if_neg hb])
  exact fin ⟨_,_,_,_,a8⟩ (fun b hb hO=>by rw[St.at_put,if_neg (fun e=>hO (by rw[e];exact hs.pin))];exact kk4 b hb hO) (by simp only[St.next_put];omega) (fun b hb => .inl hb)
 |true =>
  rw[plays_yes hpl]at a4 b4
  rw[if_neg (by rw[hpl];decide)]at fin
  have hz0:SitOk H (T.st i j):=hT i j hi hj
  have hz:=plays_ok hz0 false x
  have hpi:=plays_is hpl
  have hE4:=a4.es i j hi hj
  rw[putT_st]at hE4
  obtain⟨b0,junk0,hal,ha,hg,hb0O⟩:=a4.ab (i:=i) hi
  have hii:(0:Int)≤(i:Int)∧(i:Int)<(T.fs:Int):=by omega
  have hjj:(0:Int)≤(j:Int)∧(j:Int)<(T.n i:Int):=by omega
  have gL:(rows (fun m=>if m=j then rsitC (playsS (T.st i j) false x) (sl i j) else rsitC (T.st i m) (sl i m)) (T.n i))[j*4+2]?=some (sl i j):=(rows_get0 (k:=4) (c:=fun m=>if m=j then rsitC (playsS (T.st i j) false x) (sl i j) else rsitC (T.st i m) (sl i m)) (fun m=>by (try dsimp only);split<;>rfl) hj (j:=2) (by omega)).trans (by (try dsimp only);rw[if_pos rfl];rfl)
  have hal:al = .slice (some ⟨b0,0,none⟩) T.fs UNK:=hal
  subst hal
  obtain⟨sq,sc,hv2⟩:=hE4.form
  replace gL:=gL.trans (congrArg some hv2)
  rw[hv2]at hE4
  have ha:s4.at' b0=some (.cells (rows (fun i=>[.slice (some ⟨rb i,0,none⟩) (T.n i) (cp i)]) T.fs++junk0) 107 true):=ha
  have hg:(rows (fun i=>[.slice (some ⟨rb i,0,none⟩) (T.n i) (cp i)]) T.fs++junk0)[i]?=some (.slice (some ⟨rb i,0,none⟩) (T.n i) (cp i)):=hg
  simp -implicitDefEqProofs only[↓Zd,(Zp),simprocAttr,cld2,(HEx),(RTx),hb4,ha,hg,hii,hjj,b4,gL,ord39,co87,Nat.add_zero]
  refine tshape_spec h4 ?_
  simp -implicitDefEqProofs only[↓Zd,(Zp),simprocAttr,cld2,(HEx),(RTx),hb4,ha,hg,b4,gL,co89]
  refine efind_spec hE4 (by have:=hz.few;omega) ?_
  cases hhit:hitI (playsS (T.st i j) false x).es (shapeV H o) with
  |none =>
   rw[hhit]at fin
   have hNo:hitN (playsS (T.st i j) false x).es (shapeV H o) = -1:=by unfold hitN;rw[hhit]
   rw[hNo]
   simp -implicitDefEqProofs only[↓Zd,(Zp),simprocAttr,qP,Value.cells,qC,cld2,(HEx),(RTx),hb4,wm,co91]
   have a6:=rmiss_at (s':=s4.put t (.cells [.slice (some ⟨b0,0,none⟩) T.fs UNK,.int .i64 (T.hits:Int),.int .i64 ((T.misses+1:Nat):Int)] 106 true)) a4 rfl (by rw[St.at_put,if_pos rfl];rfl) (fun b hb=>by rw[St.at_put,if_neg hb])
   have h6:=rp_put (B := .cells [.slice (some ⟨b0,0,none⟩) T.fs UNK,.int .i64 (T.hits:Int),.int .i64 ((T.misses+1:Nat):Int)] 106 true) h4 htP
   have k6:∀ b,b<s.next→¬ O b→(s4.put t (.cells [.slice (some ⟨b0,0,none⟩) T.fs UNK,.int .i64 (T.hits:Int),.int .i64 ((T.misses+1:Nat):Int)] 106 true)).at' b=s.at' b:=fun b hb hO=>by rw[St.at_put,if_neg (fun e=>hO (by rw[e];exact hs.pin))];exact kk4 b hb hO
   have c6:(s4.put t (.cells [.slice (some ⟨b0,0,none⟩) T.fs UNK,.int .i64 (T.hits:Int),.int .i64 ((T.misses+1:Nat):Int)] 106 true)).at' s.next=some (.cells [.int .i64 0,.int .i64 0,.string ⟨#[]⟩] 36 true):=by rw[St.at_put,if_neg hne1];exact c4
   have cv6:(s4.put t (.cells [.slice (some ⟨b0,0,none⟩) T.fs UNK,.int .i64 (T.hits:Int),.int .i64 ((T.misses+1:Nat):Int)] 106 true)).at' s2.next=some (.cells [.int .i64 y1,.int .i64 y2,.string y3] 36 true):=by rw[St.at_put,if_neg hne2];exact cv4
   have n6:s2.next+1≤(s4.put t (.cells [.slice (some ⟨b0,0,none⟩) T.fs UNK,.int .i64 (T.hits:Int),.int .i64 ((T.misses+1:Nat):Int)] 106 true)).next:=by simp only[St.next_put];omega
   generalize s4.put t (.cells [.slice (some ⟨b0,0,none⟩) T.fs UNK,.int .i64 (T.hits:Int),.int .i64 ((T.misses+1:Nat):Int)] 106 true)=s6 at a6 h6 k6 c6 cv6 n6 ⊢
   refine elook_spec h6 hpro hNN ho (fun s7 l7 hlk=>?_) (fun s7 e dl l7 hlk hD=>?_)
   ·have hr0:=hr.one hlk
    subst hr0
    have n7:=l7.1
    have cv7:=(l7.2 s2.next (by omega)).trans cv6
    have c7:=(l7.2 s.next (by omega)).trans c6
    have hx1:¬ s2.next=s7.next:=by omega
    have hx2:¬ s.next=s7.next:=by omega
    simp -implicitDefEqProofs only[↓Zd,(Zp),simprocAttr,qP,Value.cells,cut,qC,cld2,(HEx),(RTx),cv7,c7,hx1,hx2]
    exact fin (s8:=(s7.new (.cells [.int .i64 0,.int .i64 0,.int .i64 0,.int .i64 0,.slice none 0 0] 161 true)).put s7.next (.cells [.int .i64 0,.int .i64 0,.int .i64 0,.int .i64 0,.slice none 0 0] 161 true)) ⟨_,_,_,_,a6.le' (lT l7 (by repeat (first|exact lR _|assumption|refine lN ?_|refine lP ?_ (by first|omega|(simp only[(Sn)];omega))|refine lT ?_ (by assumption))))⟩ (fun b hb hO=>by rw[St.at_put,if_neg (by omega),St.at_new,if_neg (by omega),l7.2 b (by omega)];exact k6 b hb hO) (by simp only[(Sn)];omega) (fun b hb => .inl hb)
   ·have hr0:=hr.one hlk
    subst hr0
    obtain⟨qa,qn,qc,rfl⟩:=hD.form
    have n7:=l7.1
    simp -implicitDefEqProofs only[↓Zd,(Zp),simprocAttr,qP,Value.cells,cut,qC,cld2,(RTx),entC,co92]
    have l8:s7.le ((s7.new (.cells [.int .i64 0,.int .i64 0,.int .i64 0,.int .i64 0,.slice none 0 0] 161 true)).put s7.next (.cells [.int .i64 (e.shape:Int),.int .i64 e.holder,.int .i64 e.slot,.int .i64 (e.to:Int),.slice qa qn qc] 161 true)):=(by repeat (first|exact lR _|assumption|refine lN ?_|refine lP ?_ (by first|omega|(simp only[(Sn)];omega))|refine lT ?_ (by assumption)))
    have n8:((s7.new (.cells [.int .i64 0,.int .i64 0,.int .i64 0,.int .i64 0,.slice none 0 0] 161 true)).put s7.next (.cells [.int .i64 (e.shape:Int),.int .i64 e.holder,.int .i64 e.slot,.int .i64 (e.to:Int),.slice qa qn qc] 161 true)).next=s7.next+1:=rfl
    generalize (s7.new (.cells [.int .i64 0,.int .i64 0,.int .i64 0,.int .i64 0,.slice none 0 0] 161 true)).put s7.next (.cells [.int .i64 (e.shape:Int),.int .i64 e.holder,.int .i64 e.slot,.int .i64 (e.to:Int),.slice qa qn qc] 161 true)=s8 at l8 n8 ⊢
    have l68:=lT l7 l8
    have a8:=(a6.le' l68).moreR (O':=fun b=>O b∨s2.next+1≤b∧b<s8.next) (fun b hb => .inl hb) (fun b hb=>by rcases hb with hb|hb;have:=hs.own b hb;exact⟨this.1,by omega⟩;exact⟨by omega,hb.2⟩)
    have hD8:=hD.same (s':=s8) (O':=fun b=>O b∨s2.next+1≤b∧b<s8.next) fun b hb=>⟨.inr ⟨by omega,by omega⟩,l8.2 b hb.2⟩
    have hst:(missT (putT T (i:Int) (j:Int) (playsS (T.st i j) false x))).st i j=playsS (T.st i j) false x:=putT_st T i j _
    refine ekeep_spec (M:=M) a8 (i:=i) (j:=j) (e:=e) (dl := .slice qa qn qc) hi hj (by omega) (by rw[hst];exact hz.few) (by rw[hst];exact hpi.2.2.2.2.1) hD8 fun s9 O9 sl9 a9 u9=>?_
    rw[hst,putT_two]at a9
    have n9:=u9.next
    have hns:∀ b,b=s.next∨b=s2.next→¬ (O b∨s2.next+1≤b∧b<s8.next):=fun b hb hO=>by
     rcases hO with hO|hO
     ·have:=hOn _ hO;omega
     ·omega
    have cv9:=(u9.keep s2.next (by omega) (hns _ (.inr rfl))).trans ((l68.2 s2.next (by omega)).trans cv6)
    have c9:=(u9.keep s.next (by omega) (hns _ (.inl rfl))).trans ((l68.2 s.next (by omega)).trans c6)
    simp -implicitDefEqProofs only[↓Zd,(Zp),simprocAttr,qP,Value.cells,cut,qC,cld2,(HEx),cv9,c9]
    exact fin ⟨_,_,_,_,a9⟩ (fun b hb hO=>by rw[u9.keep b (by omega) (fun hc=>by rcases hc with hc|hc;exact hO hc;omega),l68.2 b (by omega)];exact k6 b hb hO) (by omega) (fun b hb=>by
     rcases u9.own b hb with hb|hb
     ·rcases hb with hb|hb
      ·exact .inl hb
      ·exact .inr (by omega)
     ·exact .inr (by omega))
  |some i1 =>
   rw[hhit]at fin
   obtain⟨u1,hu1,_,_⟩:=hitI_some hhit
   have hi1:=(List.getElem?_eq_some_iff.1 hu1).1
   have hNo:hitN (playsS (T.st i j) false x).es (shapeV H o)=(i1:Int):=by unfold hitN;rw[hhit]
   rw[hNo]
   have hi10:(0:Int)≤(i1:Int):=by omega
   have hi11:(0:Int)≤(i1:Int)∧(i1:Int)<((playsS (T.st i j) false x).es.length:Int):=by omega
   have hgo:=hz.gets hpi.2.1 _ (List.getElem_mem hi1)
   rw[hpi.2.2.1]at hgo
   have hobj:=hgo.objs
   obtain⟨q1,q2,q3,q4,q5,q6⟩:=hgo.small h.ok h.fo.ok
   have hgd:(playsS (T.st i j) false x).es.getD i1 e0=(playsS (T.st i j) false x).es[i1]:=getD_at hi1
   rw[← hgd]at q1 q2 q3 q4 q5 q6 hobj
   obtain⟨dlf,g1,g2,g3,g4⟩:=hE4
   rcases g1 with ⟨g1,_,_⟩|⟨eb,junk,ge,g1,_⟩
   ·omega
   cases ge
   have ge4:s4.at' eb=some (.cells (rows (fun m=>entC ((playsS (T.st i j) false x).es.getD m e0) (dlf m)) (playsS (T.st i j) false x).es.length++junk) 161 true):=g1
   obtain⟨hle5,htk5⟩:=rows_cut (c:=fun m=>entC ((playsS (T.st i j) false x).es.getD m e0) (dlf m)) (k:=5) (fun _=>rfl) junk hi1
   simp -implicitDefEqProofs only[↓Zd,(Zp),simprocAttr,cut,cld2,(HEx),(RTx),hb4,ha,hg,hii,hjj,b4,gL,ge4,hi10,hi11,hle5,htk5,co90,Nat.add_zero]
   refine eholds_spec h4 (O:=O) (e:=(playsS (T.st i j) false x).es.getD i1 e0) (dl:=dlf i1) (g3 i1 hi1) (fun b hb=>by have:=hOn b hb;omega) (by omega) hobj fun s5 hs5=>?_
   have n5:=hs5.1
   have hb5:=(hs5.2 t (by omega)).trans hb4
   have c5:=(hs5.2 s.next (by omega)).trans c4
   have cv5:=(hs5.2 s2.next (by omega)).trans cv4
   have kk5:∀ b,b<s.next→¬ O b→s5.at' b=s.at' b:=fun b hb hO=>(hs5.2 b (by omega)).trans (kk4 b hb hO)
   have a5:=a4.le' hs5
   have h5:=h4.le hs5
   cases hh:holdsE H ((playsS (T.st i j) false x).es.getD i1 e0) with
   |true =>
    simp only[hh,if_true]at fin
    simp -implicitDefEqProofs only[↓Zd,(Zp),simprocAttr,qP,Value.cells,cut,qC,cld2,(HEx),(RTx),hb5,wh,hne1,hne2,c5,cv5]
    have a8:=rhit_at (s':=s5.put t (.cells [.slice (some ⟨b0,0,none⟩) T.fs UNK,.int .i64 ((T.hits+1:Nat):Int),.int .i64 (T.misses:Int)] 106 true)) a5 rfl (by rw[St.at_put,if_pos rfl];rfl) (fun b hb=>by rw[St.at_put,if_neg hb])
    exact fin ⟨_,_,_,_,a8⟩ (fun b hb hO=>by rw[St.at_put,if_neg (fun e=>hO (by rw[e];exact hs.pin))];exact kk5 b hb hO) (by simp only[St.next_put];omega) (fun b hb => .inl hb)
   |false =>
    simp only[hh,Bool.false_eq_true,if_false]at fin
    simp -implicitDefEqProofs only[↓Zd,(Zp),simprocAttr,qP,Value.cells,qC,cld2,(HEx),(RTx),hb5,wm,co91]
    have a6:=rmiss_at (s':=s5.put t (.cells [.slice (some ⟨b0,0,none⟩) T.fs UNK,.int .i64 (T.hits:Int),.int .i64 ((T.misses+1:Nat):Int)] 106 true)) a5 rfl (by rw[St.at_put,if_pos rfl];rfl) (fun b hb=>by rw[St.at_put,if_neg hb])
    have h6:=rp_put (B := .cells [.slice (some ⟨b0,0,none⟩) T.fs UNK,.int .i64 (T.hits:Int),.int .i64 ((T.misses+1:Nat):Int)] 106 true) h5 htP
    have k6:∀ b,b<s.next→¬ O b→(s5.put t (.cells [.slice (some ⟨b0,0,none⟩) T.fs UNK,.int .i64 (T.hits:Int),.int .i64 ((T.misses+1:Nat):Int)] 106 true)).at' b=s.at' b:=fun b hb hO=>by rw[St.at_put,if_neg (fun e=>hO (by rw[e];exact hs.pin))];exact kk5 b hb hO
    have c6:(s5.put t (.cells [.slice (some ⟨b0,0,none⟩) T.fs UNK,.int .i64 (T.hits:Int),.int .i64 ((T.misses+1:Nat):Int)] 106 true)).at' s.next=some (.cells [.int .i64 0,.int .i64 0,.string ⟨#[]⟩] 36 true):=by rw[St.at_put,if_neg hne1];exact c5
    have cv6:(s5.put t (.cells [.slice (some ⟨b0,0,none⟩) T.fs UNK,.int .i64 (T.hits:Int),.int .i64 ((T.misses+1:Nat):Int)] 106 true)).at' s2.next=some (.cells [.int .i64 y1,.int .i64 y2,.string y3] 36 true):=by rw[St.at_put,if_neg hne2];exact cv5
    have n6:s2.next+1≤(s5.put t (.cells [.slice (some ⟨b0,0,none⟩) T.fs UNK,.int .i64 (T.hits:Int),.int .i64 ((T.misses+1:Nat):Int)] 106 true)).next:=by simp only[St.next_put];omega
    generalize s5.put t (.cells [.slice (some ⟨b0,0,none⟩) T.fs UNK,.int .i64 (T.hits:Int),.int .i64 ((T.misses+1:Nat):Int)] 106 true)=s6 at a6 h6 k6 c6 cv6 n6 ⊢
    refine elook_spec h6 hpro hNN ho (fun s7 l7 hlk=>?_) (fun s7 e dl l7 hlk hD=>?_)
    ·have hr0:=hr.one hlk
     subst hr0
     have n7:=l7.1
     have cv7:=(l7.2 s2.next (by omega)).trans cv6
     have c7:=(l7.2 s.next (by omega)).trans c6
     have hx1:¬ s2.next=s7.next:=by omega
     have hx2:¬ s.next=s7.next:=by omega
     simp -implicitDefEqProofs only[↓Zd,(Zp),simprocAttr,qP,Value.cells,cut,qC,cld2,(HEx),(RTx),cv7,c7,hx1,hx2]
     exact fin (s8:=(s7.new (.cells [.int .i64 0,.int .i64 0,.int .i64 0,.int .i64 0,.slice none 0 0] 161 true)).put s7.next (.cells [.int .i64 0,.int .i64 0,.int .i64 0,.int .i64 0,.slice none 0 0] 161 true)) ⟨_,_,_,_,a6.le' (lT l7 (by repeat (first|exact lR _|assumption|refine lN ?_|refine lP ?_ (by first|omega|(simp only[(Sn)];omega))|refine lT ?_ (by assumption))))⟩ (fun b hb hO=>by rw[St.at_put,if_neg (by omega),St.at_new,if_neg (by omega),l7.2 b (by omega)];exact k6 b hb hO) (by simp only[(Sn)];omega) (fun b hb => .inl hb)
    ·have hr0:=hr.one hlk
     subst hr0
     obtain⟨qa,qn,qc,rfl⟩:=hD.form
     have n7:=l7.1
     simp -implicitDefEqProofs only[↓Zd,(Zp),simprocAttr,qP,Value.cells,cut,qC,cld2,(RTx),entC,co92]
     have l8:s7.le ((s7.new (.cells [.int .i64 0,.int .i64 0,.int .i64 0,.int .i64 0,.slice none 0 0] 161 true)).put s7.next (.cells [.int .i64 (e.shape:Int),.int .i64 e.holder,.int .i64 e.slot,.int .i64 (e.to:Int),.slice qa qn qc] 161 true)):=(by repeat (first|exact lR _|assumption|refine lN ?_|refine lP ?_ (by first|omega|(simp only[(Sn)];omega))|refine lT ?_ (by assumption)))
     have n8:((s7.new (.cells [.int .i64 0,.int .i64 0,.int .i64 0,.int .i64 0,.slice none 0 0] 161 true)).put s7.next (.cells [.int .i64 (e.shape:Int),.int .i64 e.holder,.int .i64 e.slot,.int .i64 (e.to:Int),.slice qa qn qc] 161 true)).next=s7.next+1:=rfl
     generalize (s7.new (.cells [.int .i64 0,.int .i64 0,.int .i64 0,.int .i64 0,.slice none 0 0] 161 true)).put s7.next (.cells [.int .i64 (e.shape:Int),.int .i64 e.holder,.int .i64 e.slot,.int .i64 (e.to:Int),.slice qa qn qc] 161 true)=s8 at l8 n8 ⊢
     have l68:=lT l7 l8
     have a8:=(a6.le' l68).moreR (O':=fun b=>O b∨s2.next+1≤b∧b<s8.next) (fun b hb => .inl hb) (fun b hb=>by rcases hb with hb|hb;have:=hs.own b hb;exact⟨this.1,by omega⟩;exact⟨by omega,hb.2⟩)
     have hD8:=hD.same (s':=s8) (O':=fun b=>O b∨s2.next+1≤b∧b<s8.next) fun b hb=>⟨.inr ⟨by omega,by omega⟩,l8.2 b hb.2⟩
     have hst:(missT (putT T (i:Int) (j:Int) (playsS (T.st i j) false x))).st i j=playsS (T.st i j) false x:=putT_st T i j _
     refine ekeep_spec (M:=M) a8 (i:=i) (j:=j) (e:=e) (dl := .slice qa qn qc) hi hj (by omega) (by rw[hst];exact hz.few) (by rw[hst];exact hpi.2.2.2.2.1) hD8 fun s9 O9 sl9 a9 u9=>?_
     rw[hst,putT_two]at a9
     have n9:=u9.next
     have hns:∀ b,b=s.next∨b=s2.next→¬ (O b∨s2.next+1≤b∧b<s8.next):=fun b hb hO=>by
      rcases hO with hO|hO
      ·have:=hOn _ hO;omega
      ·omega
     have cv9:=(u9.keep s2.next (by omega) (hns _ (.inr rfl))).trans ((l68.2 s2.next (by omega)).trans cv6)
     have c9:=(u9.keep s.next (by omega) (hns _ (.inl rfl))).trans ((l68.2 s.next (by omega)).trans c6)
     simp -implicitDefEqProofs only[↓Zd,(Zp),simprocAttr,qP,Value.cells,cut,qC,cld2,(HEx),cv9,c9]
     exact fin ⟨_,_,_,_,a9⟩ (fun b hb hO=>by rw[u9.keep b (by omega) (fun hc=>by rcases hc with hc|hc;exact hO hc;omega),l68.2 b (by omega)];exact k6 b hb hO) (by omega) (fun b hb=>by
      rcases u9.own b hb with hb|hb
      ·rcases hb with hb|hb
       ·exact .inl hb
       ·exact .inr (by omega)
      ·exact .inr (by omega))
end
section
variable {lo t p N NN:Nat}{H:Hp}{T:Tab}{O P:Nat→Prop}{al:Value}{rb cp:Nat→Nat}{sl:Nat→Nat→Value}
theorem ra_put{s:St M}(h:RHpAt lo s p H NN P){b:Nat}{B:Blk}(hb:¬ P b):RHpAt lo (s.put b B) p H NN P:=
 h.same (Nat.le_refl _) fun c hc=>by rw[St.at_put,if_neg (fun e=>hb (by rw[← e];exact hc))]
theorem etset_spec(h:RHpAt lo s p H NN P)(hS:STab RY lo s t T N O)(hd:∀ b,P b→¬ O b)(hT:TabOk H T)(hlo:lo≤s.next)(hN:N+1≤1000000)(hNN:NN+3≤1000000){f k o:Int}(ho : -9223372036854775808≤o∧o≤9223372036854775807){x vy:ByteArray}{vk vn:Int}
  (hR:∀ s' P' O',RHpAt lo s' p (setH H o x (vk,vn,vy)) (NN+3) P'→STab RY lo s' t (setT H T f k o x (vk,vn,vy)) (N+1) O'→(∀ b,P' b→¬ O' b)→s.next≤s'.next→(∀ b,b<s.next→¬ P b→¬ O b→s'.at' b=s.at' b)→(∀ b,P' b→P b∨s.next≤b)→(∀ b,O' b→O b∨s.next≤b)→R (.int .i64 (setE H o x)) s') :
  QC prog w0 40 #[.pointer (some ⟨t,0,none⟩),.pointer (some ⟨p,0,none⟩),.int .i64 f,.int .i64 k,.int .i64 o,.string x,vA vk vn vy] s R:=by
 refine wfun2 hmix ok40 func40 rfl ntmps40 results40 (by simp) ?_
 have hpro:=h.1
 have hok:=h.ok
 obtain⟨_,tg,pf,sl0,tl,bs,hin⟩:=id h
 obtain⟨al,rb,cp,sl,hs⟩:=hS
 have l1:s.le (s.new (.cells [.int .i64 vk,.int .i64 vn,.string vy] 36 true)):=lN (lR _)
 have c1:(s.new (.cells [.int .i64 vk,.int .i64 vn,.string vy] 36 true)).at' s.next=some (.cells [.int .i64 vk,.int .i64 vn,.string vy] 36 true):=by rw[St.at_new,if_pos rfl]
 have n1:(s.new (.cells [.int .i64 vk,.int .i64 vn,.string vy] 36 true)).next=s.next+1:=rfl
 have htn:=(hs.own _ hs.pin).2
 have htP:¬ P t:=fun hc=>hd t hc hs.pin
 have hPn:∀ c,P c→c<s.next:=fun c hc=>(h.own c hc).2
 have hOn:∀ c,O c→c<s.next:=fun c hc=>(hs.own c hc).2
 have wm:IntKind.i64.wrap ((T.misses:Int)+1)=((T.misses+1:Nat):Int):=by rw[wrap_i64 (by have:=hs.cnt.2;omega)];omega
 have wh:IntKind.i64.wrap ((T.hits:Int)+1)=((T.hits+1:Nat):Int):=by rw[wrap_i64 (by have:=hs.cnt.1;omega)];omega
 simp -implicitDefEqProofs only[↓Zd,(Zp),simprocAttr,qP,Value.cells,(HEx),vA,co87]
 generalize s.new (.cells [.int .i64 vk,.int .i64 vn,.string vy] 36 true)=s1 at l1 c1 n1 ⊢
 have h1:=h.le l1
 have hin1:=hin.le l1
 have hs1:=hs.le l1
 have hb1:s1.at' t=some (.cells [al,.int .i64 (T.hits:Int),.int .i64 (T.misses:Int)] 106 true):=hs1.bl
 have htne:¬ s.next=t:=by omega
 refine tshape_spec hin1 ?_
 by_cases h0:shapeV H o=0
 ·have hgt:setT H T f k o x (vk,vn,vy)=missT T:=by unfold setT;rw[if_pos h0]
  rw[hgt]at hR
  simp -implicitDefEqProofs only[↓Zd,(Zp),simprocAttr,qP,Value.cells,cut,qC,cld2,(HEx),(RTx),vA,h0,hb1,wm,c1,htne,co41]
  have h2':=ra_put (B := .cells [al,.int .i64 (T.hits:Int),.int .i64 ((T.misses+1:Nat):Int)] 106 true) h1 htP
  refine rset_spec (k:=vk) (n:=vn) (y:=vy) h2' (by simp only[St.next_put];omega) hNN fun s9 P9 h9 u9=>?_
  have a8:=rmiss_at (s':=s1.put t (.cells [al,.int .i64 (T.hits:Int),.int .i64 ((T.misses+1:Nat):Int)] 106 true)) hs1 rfl (by rw[St.at_put,if_pos rfl]) (fun b hb=>by rw[St.at_put,if_neg hb])
  have a9:=STab.other ⟨_,_,_,_,a8⟩ u9 hd
  have n9:=u9.next
  simp only[St.next_put]at n9
  simp -implicitDefEqProofs only[↓Zd,(Zp),simprocAttr,(HEx),vA]
  exact hR s9 P9 O h9 a9.1 a9.2 (by omega) (fun b hb hP hO=>by rw[u9.keep b (by simp only[St.next_put];omega) hP,St.at_put,if_neg (fun e=>hO (by rw[e];exact hs.pin))];exact l1.2 b (by omega)) (fun b hb=>by
   rcases u9.own b hb with hb|hb
   ·exact .inl hb
   ·simp only[St.next_put]at hb;exact .inr (by omega)) (fun b hb => .inl hb)
 simp -implicitDefEqProofs only[↓Zd,(Zp),simprocAttr,(HEx),vA,h0,co88]
 refine tplays_spec (w:=true) hs1 (fun hnot=>?_) (fun s2 i j hfi hkj hi hj hhas n2 b2 k2=>?_)
 ·have hgt:setT H T f k o x (vk,vn,vy)=missT T:=by unfold setT;rw[if_neg h0,if_pos hnot]
  rw[hgt]at hR
  simp -implicitDefEqProofs only[↓Zd,(Zp),simprocAttr,qP,Value.cells,cut,qC,cld2,(HEx),(RTx),vA,hb1,wm,c1,htne,co41]
  have h2':=ra_put (B := .cells [al,.int .i64 (T.hits:Int),.int .i64 ((T.misses+1:Nat):Int)] 106 true) h1 htP
  refine rset_spec (k:=vk) (n:=vn) (y:=vy) h2' (by simp only[St.next_put];omega) hNN fun s9 P9 h9 u9=>?_
  have a8:=rmiss_at (s':=s1.put t (.cells [al,.int .i64 (T.hits:Int),.int .i64 ((T.misses+1:Nat):Int)] 106 true)) hs1 rfl (by rw[St.at_put,if_pos rfl]) (fun b hb=>by rw[St.at_put,if_neg hb])
  have a9:=STab.other ⟨_,_,_,_,a8⟩ u9 hd
  have n9:=u9.next
  simp only[St.next_put]at n9
  simp -implicitDefEqProofs only[↓Zd,(Zp),simprocAttr,(HEx),vA]
  exact hR s9 P9 O h9 a9.1 a9.2 (by omega) (fun b hb hP hO=>by rw[u9.keep b (by simp only[St.next_put];omega) hP,St.at_put,if_neg (fun e=>hO (by rw[e];exact hs.pin))];exact l1.2 b (by omega)) (fun b hb=>by
   rcases u9.own b hb with hb|hb
   ·exact .inl hb
   ·simp only[St.next_put]at hb;exact .inr (by omega)) (fun b hb => .inl hb)
 subst hfi hkj
 rw[setT,if_neg h0,if_neg (not_not_intro hhas),siteAt_nat]at hR
 have hrO:=hs.pinR i hi
 have hrn:=hOn _ hrO
 have hrP:¬ P (rb i):=fun hc=>hd _ hc hrO
 have a2:=rplays_at hs1 hi hj n2 b2 k2
 have h2:=h1.same (s':=s2) (by omega) fun c hc=>k2 c (fun e=>hrP (by rw[← e];exact hc))
 have c2:=(k2 s.next (by omega)).trans c1
 have hb2:s2.at' t=some (.cells [al,.int .i64 (T.hits:Int),.int .i64 (T.misses:Int)] 106 true):=a2.bl
 have kk2:∀ b,b<s.next→¬ O b→s2.at' b=s.at' b:=fun b hb hO=>by rw[k2 b (fun e=>hO (by rw[e];exact hrO))];exact l1.2 b hb
 cases hpl:playsB (T.st i j) true x with
 |false =>
  rw[plays_no hpl,putT_same]at a2
  rw[if_pos hpl]at hR
  simp -implicitDefEqProofs only[↓Zd,(Zp),simprocAttr,qP,Value.cells,cut,qC,cld2,(HEx),(RTx),vA,hb2,wm,c2,htne,co41]
  have h2':=ra_put (B := .cells [al,.int .i64 (T.hits:Int),.int .i64 ((T.misses+1:Nat):Int)] 106 true) h2 htP
  refine rset_spec (k:=vk) (n:=vn) (y:=vy) h2' (by simp only[St.next_put];omega) hNN fun s9 P9 h9 u9=>?_
  have a8:=rmiss_at (s':=s2.put t (.cells [al,.int .i64 (T.hits:Int),.int .i64 ((T.misses+1:Nat):Int)] 106 true)) a2 rfl (by rw[St.at_put,if_pos rfl]) (fun b hb=>by rw[St.at_put,if_neg hb])
  have a9:=STab.other ⟨_,_,_,_,a8⟩ u9 hd
  have n9:=u9.next
  simp only[St.next_put]at n9
  simp -implicitDefEqProofs only[↓Zd,(Zp),simprocAttr,(HEx),vA]
  exact hR s9 P9 O h9 a9.1 a9.2 (by omega) (fun b hb hP hO=>by rw[u9.keep b (by simp only[St.next_put];omega) hP,St.at_put,if_neg (fun e=>hO (by rw[e];exact hs.pin))];exact kk2 b hb hO) (fun b hb=>by
   rcases u9.own b hb with hb|hb
   ·exact .inl hb
   ·simp only[St.next_put]at hb;exact .inr (by omega)) (fun b hb => .inl hb)
 |true =>
  rw[plays_yes hpl]at a2 b2
  rw[if_neg (by rw[hpl];decide)]at hR
  have hz0:SitOk H (T.st i j):=hT i j hi hj
  have hz:=plays_ok hz0 true x
  have hpi:=plays_is hpl
  have hsh:0≤shapeV H o∧shapeV H o≤9223372036854775807:=by
   obtain⟨ob,hob,e1,e2⟩:=shapeV_some h0
   obtain⟨l,hl⟩:=fits_at hok hpro hob e2
   have:=(List.getElem?_eq_some_iff.1 hl).1
   have:=hin.fo.le
   omega
  obtain⟨_,tg2,pf2,sl2,tl2,bs2,hin2⟩:=id h2
  simp -implicitDefEqProofs only[↓Zd,(Zp),simprocAttr,(HEx),vA,co93]
  refine rslotof_spec (i:=shapeV H o) hin2 (by omega) (by omega) ?_
  simp -implicitDefEqProofs only[↓Zd,(Zp),simprocAttr,cut,cld2,(HEx),vA,c2,co41]
  refine rset_spec (k:=vk) (n:=vn) (y:=vy) h2 (by omega) hNN fun s5 P5 h5 u5=>?_
  have n5:=u5.next
  have hkO:∀ b,O b→s5.at' b=s2.at' b:=fun b hb=>u5.keep b (by have:=hOn b hb;omega) fun hP=>hd b hP hb
  have at5:=a2.same (s':=s5) n5 hkO
  have a5:=STab.other (s':=s5) ⟨_,_,_,_,a2⟩ u5 hd
  have hb5:s5.at' t=some (.cells [al,.int .i64 (T.hits:Int),.int .i64 (T.misses:Int)] 106 true):=at5.bl
  have b5:=(hkO _ hrO).trans b2
  have hE5:=at5.es i j hi hj
  rw[putT_st]at hE5
  have own5:∀ b,P5 b→P b∨s.next≤b:=fun b hb=>by
   rcases u5.own b hb with hb|hb
   ·exact .inl hb
   ·exact .inr (by omega)
  have kk5:∀ b,b<s.next→¬ P b→¬ O b→s5.at' b=s.at' b:=fun b hb hP hO=>by rw[u5.keep b (by omega) hP];exact kk2 b hb hO
  obtain⟨b0,junk0,hal,ha,hg,hb0O⟩:=at5.ab (i:=i) hi
  have hal:al = .slice (some ⟨b0,0,none⟩) T.fs UNK:=hal
  subst hal
  have hii:(0:Int)≤(i:Int)∧(i:Int)<(T.fs:Int):=by omega
  have hjj:(0:Int)≤(j:Int)∧(j:Int)<(T.n i:Int):=by omega
  have gL:(rows (fun m=>if m=j then rsitC (playsS (T.st i j) true x) (sl i j) else rsitC (T.st i m) (sl i m)) (T.n i))[j*4+2]?=some (sl i j):=(rows_get0 (k:=4) (c:=fun m=>if m=j then rsitC (playsS (T.st i j) true x) (sl i j) else rsitC (T.st i m) (sl i m)) (fun m=>by (try dsimp only);split<;>rfl) hj (j:=2) (by omega)).trans (by (try dsimp only);rw[if_pos rfl];rfl)
  obtain⟨sq,sc,hv2⟩:=hE5.form
  replace gL:=gL.trans (congrArg some hv2)
  rw[hv2]at hE5
  have ha:s5.at' b0=some (.cells (rows (fun i=>[.slice (some ⟨rb i,0,none⟩) (T.n i) (cp i)]) T.fs++junk0) 107 true):=ha
  have hg:(rows (fun i=>[.slice (some ⟨rb i,0,none⟩) (T.n i) (cp i)]) T.fs++junk0)[i]?=some (.slice (some ⟨rb i,0,none⟩) (T.n i) (cp i)):=hg
  simp -implicitDefEqProofs only[↓Zd,(Zp),simprocAttr,cld2,(HEx),(RTx),vA,hb5,ha,hg,hii,hjj,b5,gL,co89,Nat.add_zero]
  refine efind_spec hE5 (by have:=hz.few;omega) ?_
  cases hhit:hitI (playsS (T.st i j) true x).es (shapeV H o) with
  |some i1 =>
   rw[hhit]at hR
   have hNo:hitN (playsS (T.st i j) true x).es (shapeV H o)=(i1:Int):=by unfold hitN;rw[hhit]
   rw[hNo]
   have hi10:(0:Int)≤(i1:Int):=by omega
   simp -implicitDefEqProofs only[↓Zd,(Zp),simprocAttr,qP,Value.cells,qC,cld2,(HEx),(RTx),vA,hi10,hb5,wh]
   have a8:=rhit_at (s':=s5.put t (.cells [.slice (some ⟨b0,0,none⟩) T.fs UNK,.int .i64 ((T.hits+1:Nat):Int),.int .i64 (T.misses:Int)] 106 true)) at5 rfl (by rw[St.at_put,if_pos rfl];rfl) (fun b hb=>by rw[St.at_put,if_neg hb])
   exact hR _ P5 O (ra_put h5 (fun hc=>a5.2 t hc hs.pin)) ⟨_,_,_,_,a8⟩ a5.2 (by simp only[St.next_put];omega) (fun b hb hP hO=>by rw[St.at_put,if_neg (fun e=>hO (by rw[e];exact hs.pin))];exact kk5 b hb hP hO) own5 (fun b hb => .inl hb)
  |none =>
   rw[hhit]at hR
   have hNo:hitN (playsS (T.st i j) true x).es (shapeV H o) = -1:=by unfold hitN;rw[hhit]
   rw[hNo]
   have a6:=rmiss_at (s':=s5.put t (.cells [.slice (some ⟨b0,0,none⟩) T.fs UNK,.int .i64 (T.hits:Int),.int .i64 ((T.misses+1:Nat):Int)] 106 true)) at5 rfl (by rw[St.at_put,if_pos rfl];rfl) (fun b hb=>by rw[St.at_put,if_neg hb])
   have h6:=ra_put (B := .cells [.slice (some ⟨b0,0,none⟩) T.fs UNK,.int .i64 (T.hits:Int),.int .i64 ((T.misses+1:Nat):Int)] 106 true) h5 (fun hc=>a5.2 t hc hs.pin)
   have kk6:∀ b,b<s.next→¬ P b→¬ O b→(s5.put t (.cells [.slice (some ⟨b0,0,none⟩) T.fs UNK,.int .i64 (T.hits:Int),.int .i64 ((T.misses+1:Nat):Int)] 106 true)).at' b=s.at' b:=fun b hb hP hO=>by rw[St.at_put,if_neg (fun e=>hO (by rw[e];exact hs.pin))];exact kk5 b hb hP hO
   have n6:(s5.put t (.cells [.slice (some ⟨b0,0,none⟩) T.fs UNK,.int .i64 (T.hits:Int),.int .i64 ((T.misses+1:Nat):Int)] 106 true)).next=s5.next:=rfl
   by_cases hE0:setE H o x=0
   ·rw[hE0]
    simp -implicitDefEqProofs only[↓Zd,(Zp),simprocAttr,qP,Value.cells,qC,cld2,(HEx),(RTx),vA,hb5,wm,co87]
    generalize s5.put t (.cells [.slice (some ⟨b0,0,none⟩) T.fs UNK,.int .i64 (T.hits:Int),.int .i64 ((T.misses+1:Nat):Int)] 106 true)=s6 at a6 h6 kk6 n6 ⊢
    obtain⟨_,tg6,pf6,sl6,tl6,bs6,hin6⟩:=id h6
    refine tshape_spec hin6 ?_
    by_cases hs0:shapeV (setH H o x (vk,vn,vy)) o=0
    ·rw[if_neg (fun hc=>hc.2 hs0),hE0]at hR
     rw[hs0]
     simp -implicitDefEqProofs only[↓Zd,(Zp),simprocAttr,(HEx),vA]
     exact hR s6 P5 O h6 ⟨_,_,_,_,a6⟩ a5.2 (by omega) kk6 own5 (fun b hb => .inl hb)
    rw[if_pos ⟨hE0,hs0⟩,hE0]at hR
    have hsh7:0≤shapeV (setH H o x (vk,vn,vy)) o:=by unfold shapeV;split<;>omega
    have hst:(missT (putT T (i:Int) (j:Int) (playsS (T.st i j) true x))).st i j=playsS (T.st i j) true x:=putT_st T i j _
    by_cases hk:0≤slotOf H (shapeV H o) x
    ·have hnew:newE H o x (vk,vn,vy)=⟨(shapeV H o).toNat,0,slotOf H (shapeV H o) x,0,[]⟩:=by unfold newE;rw[if_pos hk]
     have hA:(.agg #[.int .i64 (shapeV H o),.int .i64 0,.int .i64 (slotOf H (shapeV H o) x),.int .i64 0,.slice none 0 0]:Value) = .agg (entC (newE H o x (vk,vn,vy)) (.slice none 0 0)).toArray:=by
      rw[hnew]
      simp only[entC,Int.toNat_of_nonneg hsh.1]
      rfl
     have hd0:(newE H o x (vk,vn,vy)).deps=[]:=by rw[hnew]
     simp -implicitDefEqProofs only[↓Zd,(Zp),simprocAttr,(HEx),vA,hs0,hk,rbEnt2,co92]
     rw[hA]
     refine ekeep_spec (M:=M) a6 (i:=i) (j:=j) (e:=newE H o x (vk,vn,vy)) (dl := .slice none 0 0) hi hj (by omega) (by rw[hst];exact hz.few) (by rw[hst];exact hpi.2.2.2.2.1) (by rw[hd0];exact⟨.inl ⟨rfl,rfl,rfl⟩,fun q n c e=>(by cases e),fun _=>rfl⟩) fun s9 O9 sl9 a9 u9=>?_
     rw[hst,putT_two]at a9
     have n9:=u9.next
     simp -implicitDefEqProofs only[↓Zd,(Zp),simprocAttr,(HEx),vA]
     refine hR s9 P5 O9 (h6.same n9 fun c hc=>u9.keep c (h6.own c hc).2 (a5.2 c hc)) ⟨_,_,_,_,a9⟩ (fun b hb hO=>?_) (by omega) (fun b hb hP hO=>(u9.keep b (by omega) hO).trans (kk6 b hb hP hO)) own5 (fun b hb=>?_)
     ·rcases u9.own b hO with h8|h8
      ·exact a5.2 b hb h8
      ·have:=(h6.own b hb).2;omega
     ·rcases u9.own b hb with h8|h8
      ·exact .inl h8
      ·exact .inr (by omega)
    ·have hnew:newE H o x (vk,vn,vy)=⟨(shapeV H o).toNat,0,0,(shapeV (setH H o x (vk,vn,vy)) o).toNat,[]⟩:=by unfold newE;rw[if_neg hk]
     have hA:(.agg #[.int .i64 (shapeV H o),.int .i64 0,.int .i64 0,.int .i64 (shapeV (setH H o x (vk,vn,vy)) o),.slice none 0 0]:Value) = .agg (entC (newE H o x (vk,vn,vy)) (.slice none 0 0)).toArray:=by
      rw[hnew]
      simp only[entC,Int.toNat_of_nonneg hsh.1,Int.toNat_of_nonneg hsh7]
     have hd0:(newE H o x (vk,vn,vy)).deps=[]:=by rw[hnew]
     simp -implicitDefEqProofs only[↓Zd,(Zp),simprocAttr,(HEx),vA,hs0,hk,co87]
     refine tshape_spec hin6 ?_
     simp -implicitDefEqProofs only[↓Zd,(Zp),simprocAttr,(HEx),vA,rbEnt3,co92]
     rw[hA]
     refine ekeep_spec (M:=M) a6 (i:=i) (j:=j) (e:=newE H o x (vk,vn,vy)) (dl := .slice none 0 0) hi hj (by omega) (by rw[hst];exact hz.few) (by rw[hst];exact hpi.2.2.2.2.1) (by rw[hd0];exact⟨.inl ⟨rfl,rfl,rfl⟩,fun q n c e=>(by cases e),fun _=>rfl⟩) fun s9 O9 sl9 a9 u9=>?_
     rw[hst,putT_two]at a9
     have n9:=u9.next
     simp -implicitDefEqProofs only[↓Zd,(Zp),simprocAttr,(HEx),vA]
     refine hR s9 P5 O9 (h6.same n9 fun c hc=>u9.keep c (h6.own c hc).2 (a5.2 c hc)) ⟨_,_,_,_,a9⟩ (fun b hb hO=>?_) (by omega) (fun b hb hP hO=>(u9.keep b (by omega) hO).trans (kk6 b hb hP hO)) own5 (fun b hb=>?_)
     ·rcases u9.own b hO with h8|h8
      ·exact a5.2 b hb h8
      ·have:=(h6.own b hb).2;omega
     ·rcases u9.own b hb with h8|h8
      ·exact .inl h8
      ·exact .inr (by omega)
   ·rw[if_neg (fun hc=>hE0 hc.1)]at hR
    simp -implicitDefEqProofs only[↓Zd,(Zp),simprocAttr,qP,Value.cells,qC,cld2,(HEx),(RTx),vA,hb5,wm,hE0]
    exact hR _ P5 O h6 ⟨_,_,_,_,a6⟩ a5.2 (by omega) kk6 own5 (fun b hb => .inl hb)
end
end Go.Proofs.Tryz
section
namespace Go.Cs
section
variable {M:Type}[Mem M]{P:Program}{w0:World}{s:St M}{ev:Operand→Value}{d:Option Tmp}{ty t:TypeId}{pos:String}{af:Array Edge}{g:Option (Nat×Bool)}{x y:Operand}{K:Value→St M→Prop}{F:Value→St M→Option Value→Prop}
def cmks(P:Program)(t:TypeId)(l c:Value):Option (Blk×(Nat→Value)):=match P.underlying t,l,c with
  |some (.slice e),.int _ l,.int _ c=>match P.info? e with
   |some ie=>if 0≤l∧l≤c∧c≤4294967296∧c*ie.bytes≤281474976710656 then
     match zerosOf P e (c.toNat*ie.size) with
     |some z=>some (.cells z e true,fun b => .slice (some ⟨b,0,none⟩) l.toNat c.toNat)
     |none=>none
    else none
   |none=>none
  |_,_,_=>none
theorem o_mks:wop P w0 ⟨d,.makeSlice t x y,ty,pos,af,g⟩ ev s K=wmk (cmks P t (ev x) (ev y)) s K:=rfl
theorem f_mks:wfop P ⟨d,.makeSlice t x y,ty,pos,af,g⟩ ev s F=wmk (cmks P t (ev x) (ev y)) s fun v s=>F v s none:=rfl
theorem f_min{args:Array Operand}{ats:Array TypeId}:wfop P ⟨d,.call ⟨.builtin .min,args,ats⟩,ty,pos,af,g⟩ ev s F=must (cbuiltin P .min ats ty (args.map ev)) fun v=>F v s none:=rfl
theorem f_max{args:Array Operand}{ats:Array TypeId}:wfop P ⟨d,.call ⟨.builtin .max,args,ats⟩,ty,pos,af,g⟩ ev s F=must (cbuiltin P .max ats ty (args.map ev)) fun v=>F v s none:=rfl
end
end Go.Cs
namespace Go.Proofs.Tryz
open Go.Cs
open Go.RowKit (Below)
set_option maxRecDepth 100000
attribute [local irreducible] QC WLoop WScope CRound WRange
theorem bOneS(m:Bool):cbuild Tryz.prog 96 #[(2,.bool m)]=some (.agg #[.bool false,.bool false,.bool m,.string ⟨#[]⟩,.slice none 0 0]):=by cases m<;>kernel_rfl
theorem rows_set50{c:Nat→List Value}{n i:Nat}{v0 v1 v2 v3 v4:Value}(hc:∀ i,(c i).length=5)(hi:i<n) :
  ((((((rows c n).set (i*5) v0).set (i*5+1) v1).set (i*5+2) v2).set (i*5+3) v3).set (i*5+4) v4)=rows (fun m=>if m=i then [v0,v1,v2,v3,v4] else c m) n:=by
 have:=rows_set5 (v0:=v0) (v1:=v1) (v2:=v2) (v3:=v3) (v4:=v4) hc [] hi
 simpa using this
section
variable {M:Type}[Mem M]{w0:World}{s:St M}{R:Value→St M→Prop}{lo t N:Nat}{T:Tab}{O:Nat→Prop}{al:Value}{rb cp:Nat→Nat}{sl:Nat→Nat→Value}
def flushK(T:Tab)(i k:Nat)(m:Bool):Tab:={ T with st:=fun a b=>if a=i∧b<k then { s0 with mega:=m || (T.st a b).mega } else T.st a b }
theorem flushK_zero(T:Tab)(i:Nat)(m:Bool):flushK T i 0 m=T:=by
 obtain⟨fs,n,st,hits,misses⟩:=T
 unfold flushK
 congr 1
 funext a b
 rw[if_neg (fun h=>Nat.not_lt_zero _ h.2)]
theorem flushK_succ(T:Tab)(i k:Nat)(m:Bool):putT (flushK T i k m) (i:Int) (k:Int) { s0 with mega:=m || (T.st i k).mega }=flushK T i (k+1) m:=by
 unfold flushK putT
 congr 1
 funext a b
 simp only[Int.toNat_natCast]
 by_cases h1:a=i∧b=k
 ·rw[if_pos h1,if_pos ⟨h1.1,by omega⟩,h1.1,h1.2]
 ·rw[if_neg h1]
  by_cases h2:a=i∧b<k
  ·rw[if_pos h2,if_pos ⟨h2.1,by omega⟩]
  ·rw[if_neg h2,if_neg (fun h=>by
    rcases Nat.lt_succ_iff_lt_or_eq.1 h.2 with h3|h3
    ·exact h2 ⟨h.1,h3⟩
    ·exact h1 ⟨h.1,h3⟩)]
theorem flushK_all(T:Tab)(i:Nat)(m:Bool)(h:i<T.fs):flushK T i (T.n i) m=flushT T (i:Int) m:=by
 unfold flushK flushT
 rw[if_pos ⟨by omega,by omega⟩]
 congr 1
 funext a b
 rw[Int.toNat_natCast]
 by_cases h1:a=i
 ·subst h1;rfl
 ·rw[if_neg (fun h=>h1 h.1),if_neg (fun h=>h1 h.1)]
set_option maxHeartbeats 8000000 in
theorem sflush_spec(hS:STab PY lo s t T N O)(hfs:0<T.fs){f:Int}(hR:∀ s',STab PY lo s' t (flushT T f false) N O→Upd s s' O O→R (.tuple #[]) s') :
  QC Tryz.prog w0 24 #[.pointer (some ⟨t,0,none⟩),.int .i64 f] s R:=by
 refine wfun2 hmix ok24 func24 rfl ntmps24 results24 (by simp) ?_
 obtain⟨al,rb,cp,sl,h⟩:=hS
 have hb:s.at' t=some (.cells [al,.int .i64 (T.hits:Int),.int .i64 (T.misses:Int)] 84 true):=h.bl
 simp -implicitDefEqProofs only[↓Zd,(Zp),simprocAttr,co51]
 refine sdead_spec h hfs ?_
 rcases h.all with ⟨h0,_,_⟩|⟨b0,junk,rfl,ha,_⟩
 ·omega
 have ha:s.at' b0=some (.cells (rows (fun i=>[.slice (some ⟨rb i,0,none⟩) (T.n i) (cp i)]) T.fs++junk) 85 true):=ha
 by_cases f1:f<0
 ·have e:flushT T f false=T:=by unfold flushT;rw[if_neg (fun hc=>by omega)]
  rw[e]at hR
  simp -implicitDefEqProofs only[↓Zd,(Zp),simprocAttr,(HEx),f1]
  exact hR _ ⟨_,_,_,_,h⟩ (.of_le (lR _))
 by_cases f2:(T.fs:Int)≤f
 ·have e:flushT T f false=T:=by unfold flushT;rw[if_neg (fun hc=>by omega)]
  rw[e]at hR
  simp -implicitDefEqProofs only[↓Zd,(Zp),simprocAttr,cld2,(HEx),(STx),hb,f1,f2]
  exact hR _ ⟨_,_,_,_,h⟩ (.of_le (lR _))
 obtain⟨i,rfl⟩:∃ i:Nat,f=(i:Int):=⟨f.toNat,by omega⟩
 have hi:i<T.fs:=by omega
 have hii:(0:Int)≤(i:Int)∧(i:Int)<(T.fs:Int):=by omega
 have hg:=rows_get (c:=fun i=>[.slice (some ⟨rb i,0,none⟩) (T.n i) (cp i)]) (k:=1) (fun _=>rfl) (j:=0) junk hi (by omega)
 simp only[Nat.mul_one,Nat.add_zero,List.getElem?_cons_zero]at hg
 have hni:=h.small.2 i hi
 have hOn:∀ c,O c→c<s.next:=fun c hc=>(h.own c hc).2
 simp -implicitDefEqProofs only[↓Zd,(Zp),simprocAttr,cld2,(HEx),(STx),hb,f1,f2,hii,ha,hg,Nat.add_zero]
 refine wloop_inv hmix (fun fuel env s'=>env 0 = .pointer (some ⟨t,0,none⟩)∧env 1 = .int .i64 (i:Int)∧env 27 = .int .i64 (T.n i:Int)∧∃ (k:Nat) (sl':Nat→Nat→Value),env 28 = .int .i64 (k:Int)∧k≤T.n i∧fuel=T.n i - k∧SAt PY lo s' t (flushK T i k false) N O (.slice (some ⟨b0,0,none⟩) T.fs UNK) rb cp sl'∧s'.next=s.next∧(∀ b,¬ O b→s'.at' b=s.at' b)∧s'.at' b0=s.at' b0) (T.n i - 0) ?_ ?_
 ·exact⟨rfl,rfl,rfl,0,sl,rfl,Nat.zero_le _,rfl,by rw[flushK_zero];exact h,rfl,fun _ _=>rfl,rfl⟩
 rintro fuel env s2 ⟨e0,e1,e27,k,sl',e28,hk,rfl,a2,n2,k2,kb⟩
 by_cases hlt:k<T.n i
 ·have hlt':(k:Int)<(T.n i:Int):=by omega
  have hkk:(0:Int)≤(k:Int)∧(k:Int)<(T.n i:Int):=by omega
  have w1:IntKind.i64.wrap ((k:Int)+1)=((k+1:Nat):Int):=by rw[wrap_i64 (by omega)];omega
  have hb2:s2.at' t=some (.cells [.slice (some ⟨b0,0,none⟩) T.fs UNK,.int .i64 (T.hits:Int),.int .i64 (T.misses:Int)] 84 true):=a2.bl
  have ha2:=kb.trans ha
  have hr2:s2.at' (rb i)=some (.cells (rows (fun m=>sitC ((flushK T i k false).st i m) (sl' i m)) (T.n i)) 96 true):=a2.row i hi
  have g2:(rows (fun m=>sitC ((flushK T i k false).st i m) (sl' i m)) (T.n i))[k*5+2]?=some (.bool (T.st i k).mega):=by
   rw[rows_get0 (c:=fun m=>sitC ((flushK T i k false).st i m) (sl' i m)) (k:=5) (fun _=>rfl) hlt (j:=2) (by omega)]
   show some (Value.bool (if i=i∧k<k then _ else T.st i k).mega)=_
   rw[if_neg (fun h=>Nat.lt_irrefl _ h.2)]
  have hset:=rows_set50 (c:=fun m=>sitC ((flushK T i k false).st i m) (sl' i m)) (v0 := .bool false) (v1 := .bool false) (v2 := .bool (false || (T.st i k).mega)) (v3 := .string ⟨#[]⟩) (v4 := .slice none 0 0) (fun _=>rfl) hlt
  have hlen:k*5+5≤(rows (fun m=>sitC ((flushK T i k false).st i m) (sl' i m)) (T.n i)).length:=by rw[rows_len (k:=5) (fun _=>rfl)];omega
  simp only[Bool.false_or]at hset
  simp -implicitDefEqProofs only[↓Zd,(Zp),simprocAttr,qP,Value.cells,qC,cld2,(HEx),(STx),e0,e1,e27,e28,hlt',hkk,hb2,ha2,hii,hg,hr2,g2,bOneS,hset,hlen,w1,Nat.add_zero,ord24]
  have hrbb:rb i≠b0:=at_apart hr2 ha2 (by decide)
  have hrbO:=h.pinR i hi
  have a3:=a2.set (s':=s2.put (rb i) (.cells (rows (fun m=>if m=k then sitC { s0 with mega:=false || (T.st i k).mega } (.slice none 0 0) else sitC ((flushK T i k false).st i m) (sl' i m)) (T.n i)) 96 true)) (O':=O) (z':={ s0 with mega:=false || (T.st i k).mega }) (v' := .slice none 0 0) hi hlt (Nat.le_refl _) (fun _ h=>h) a2.own (by rw[St.at_put,if_pos rfl];rfl) (fun b hb hne _=>by rw[St.at_put,if_neg hne])
   ⟨fun _ => .slice none 0 0,.inl ⟨rfl,rfl,rfl⟩,fun q n c e=>(by cases e),fun m hm=>absurd hm (Nat.not_lt_zero _),fun _=>rfl⟩ (fun q n c e=>by cases e)
  rw[flushK_succ]at a3
  refine⟨_,Nat.sub_lt_sub_left hlt (Nat.lt_succ_self k),k+1,_,rfl,by omega,rfl,a3,n2,fun b hb=>?_,?_⟩
  ·rw[if_neg (fun e=>hb (by rw[e];exact hrbO))];exact k2 b hb
  ·rw[if_neg (fun e=>hrbb e.symm)];exact ha.symm
 ·have hlt':¬ (k:Int)<(T.n i:Int):=by omega
  have:k=T.n i:=by omega
  subst this
  rw[flushK_all T i false hi]at a2
  simp -implicitDefEqProofs only[↓Zd,(Zp),simprocAttr,e27,e28,hlt']
  exact hR _ ⟨_,_,_,_,a2⟩ ⟨by omega,fun b _ hO=>k2 b hO,fun b hb => .inl hb⟩
set_option maxHeartbeats 8000000 in
theorem smega_spec(hS:STab PY lo s t T N O)(hfs:0<T.fs){f:Int}(hR:∀ s',STab PY lo s' t (flushT T f true) N O→Upd s s' O O→R (.tuple #[]) s') :
  QC Tryz.prog w0 25 #[.pointer (some ⟨t,0,none⟩),.int .i64 f] s R:=by
 refine wfun2 hmix ok25 func25 rfl ntmps25 results25 (by simp) ?_
 obtain⟨al,rb,cp,sl,h⟩:=hS
 have hb:s.at' t=some (.cells [al,.int .i64 (T.hits:Int),.int .i64 (T.misses:Int)] 84 true):=h.bl
 simp -implicitDefEqProofs only[↓Zd,(Zp),simprocAttr,co51]
 refine sdead_spec h hfs ?_
 rcases h.all with ⟨h0,_,_⟩|⟨b0,junk,rfl,ha,_⟩
 ·omega
 have ha:s.at' b0=some (.cells (rows (fun i=>[.slice (some ⟨rb i,0,none⟩) (T.n i) (cp i)]) T.fs++junk) 85 true):=ha
 by_cases f1:f<0
 ·have e:flushT T f true=T:=by unfold flushT;rw[if_neg (fun hc=>by omega)]
  rw[e]at hR
  simp -implicitDefEqProofs only[↓Zd,(Zp),simprocAttr,(HEx),f1]
  exact hR _ ⟨_,_,_,_,h⟩ (.of_le (lR _))
 by_cases f2:(T.fs:Int)≤f
 ·have e:flushT T f true=T:=by unfold flushT;rw[if_neg (fun hc=>by omega)]
  rw[e]at hR
  simp -implicitDefEqProofs only[↓Zd,(Zp),simprocAttr,cld2,(HEx),(STx),hb,f1,f2]
  exact hR _ ⟨_,_,_,_,h⟩ (.of_le (lR _))
 obtain⟨i,rfl⟩:∃ i:Nat,f=(i:Int):=⟨f.toNat,by omega⟩
 have hi:i<T.fs:=by omega
 have hii:(0:Int)≤(i:Int)∧(i:Int)<(T.fs:Int):=by omega
 have hg:=rows_get (c:=fun i=>[.slice (some ⟨rb i,0,none⟩) (T.n i) (cp i)]) (k:=1) (fun _=>rfl) (j:=0) junk hi (by omega)
 simp only[Nat.mul_one,Nat.add_zero,List.getElem?_cons_zero]at hg
 have hni:=h.small.2 i hi
 have hOn:∀ c,O c→c<s.next:=fun c hc=>(h.own c hc).2
 simp -implicitDefEqProofs only[↓Zd,(Zp),simprocAttr,cld2,(HEx),(STx),hb,f1,f2,hii,ha,hg,Nat.add_zero]
 refine wloop_inv hmix (fun fuel env s'=>env 0 = .pointer (some ⟨t,0,none⟩)∧env 1 = .int .i64 (i:Int)∧env 27 = .int .i64 (T.n i:Int)∧∃ (k:Nat) (sl':Nat→Nat→Value),env 28 = .int .i64 (k:Int)∧k≤T.n i∧fuel=T.n i - k∧SAt PY lo s' t (flushK T i k true) N O (.slice (some ⟨b0,0,none⟩) T.fs UNK) rb cp sl'∧s'.next=s.next∧(∀ b,¬ O b→s'.at' b=s.at' b)∧s'.at' b0=s.at' b0) (T.n i - 0) ?_ ?_
 ·exact⟨rfl,rfl,rfl,0,sl,rfl,Nat.zero_le _,rfl,by rw[flushK_zero];exact h,rfl,fun _ _=>rfl,rfl⟩
 rintro fuel env s2 ⟨e0,e1,e27,k,sl',e28,hk,rfl,a2,n2,k2,kb⟩
 by_cases hlt:k<T.n i
 ·have hlt':(k:Int)<(T.n i:Int):=by omega
  have hkk:(0:Int)≤(k:Int)∧(k:Int)<(T.n i:Int):=by omega
  have w1:IntKind.i64.wrap ((k:Int)+1)=((k+1:Nat):Int):=by rw[wrap_i64 (by omega)];omega
  have hb2:s2.at' t=some (.cells [.slice (some ⟨b0,0,none⟩) T.fs UNK,.int .i64 (T.hits:Int),.int .i64 (T.misses:Int)] 84 true):=a2.bl
  have ha2:=kb.trans ha
  have hr2:s2.at' (rb i)=some (.cells (rows (fun m=>sitC ((flushK T i k true).st i m) (sl' i m)) (T.n i)) 96 true):=a2.row i hi
  have g2:(rows (fun m=>sitC ((flushK T i k true).st i m) (sl' i m)) (T.n i))[k*5+2]?=some (.bool (T.st i k).mega):=by
   rw[rows_get0 (c:=fun m=>sitC ((flushK T i k true).st i m) (sl' i m)) (k:=5) (fun _=>rfl) hlt (j:=2) (by omega)]
   show some (Value.bool (if i=i∧k<k then _ else T.st i k).mega)=_
   rw[if_neg (fun h=>Nat.lt_irrefl _ h.2)]
  have hset:=rows_set50 (c:=fun m=>sitC ((flushK T i k true).st i m) (sl' i m)) (v0 := .bool false) (v1 := .bool false) (v2 := .bool (true || (T.st i k).mega)) (v3 := .string ⟨#[]⟩) (v4 := .slice none 0 0) (fun _=>rfl) hlt
  have hlen:k*5+5≤(rows (fun m=>sitC ((flushK T i k true).st i m) (sl' i m)) (T.n i)).length:=by rw[rows_len (k:=5) (fun _=>rfl)];omega
  simp only[Bool.true_or]at hset
  simp -implicitDefEqProofs only[↓Zd,(Zp),simprocAttr,qP,Value.cells,qC,cld2,(STx),e0,e1,e27,e28,hlt',hkk,hb2,ha2,hii,hg,hr2,bOneS,hset,hlen,w1,Nat.add_zero]
  have hrbb:rb i≠b0:=at_apart hr2 ha2 (by decide)
  have hrbO:=h.pinR i hi
  have a3:=a2.set (s':=s2.put (rb i) (.cells (rows (fun m=>if m=k then sitC { s0 with mega:=true || (T.st i k).mega } (.slice none 0 0) else sitC ((flushK T i k true).st i m) (sl' i m)) (T.n i)) 96 true)) (O':=O) (z':={ s0 with mega:=true || (T.st i k).mega }) (v' := .slice none 0 0) hi hlt (Nat.le_refl _) (fun _ h=>h) a2.own (by rw[St.at_put,if_pos rfl];rfl) (fun b hb hne _=>by rw[St.at_put,if_neg hne])
   ⟨fun _ => .slice none 0 0,.inl ⟨rfl,rfl,rfl⟩,fun q n c e=>(by cases e),fun m hm=>absurd hm (Nat.not_lt_zero _),fun _=>rfl⟩ (fun q n c e=>by cases e)
  rw[flushK_succ]at a3
  refine⟨_,Nat.sub_lt_sub_left hlt (Nat.lt_succ_self k),k+1,_,rfl,by omega,rfl,a3,n2,fun b hb=>?_,?_⟩
  ·rw[if_neg (fun e=>hb (by rw[e];exact hrbO))];exact k2 b hb
  ·rw[if_neg (fun e=>hrbb e.symm)];exact ha.symm
 ·have hlt':¬ (k:Int)<(T.n i:Int):=by omega
  have:k=T.n i:=by omega
  subst this
  rw[flushK_all T i true hi]at a2
  simp -implicitDefEqProofs only[↓Zd,(Zp),simprocAttr,e27,e28,hlt']
  exact hR _ ⟨_,_,_,_,a2⟩ ⟨by omega,fun b _ hO=>k2 b hO,fun b hb => .inl hb⟩
end
end Go.Proofs.Tryz
end
section
set_option maxRecDepth 100000
namespace Go.Proofs.Tryz
open Go.Cs Go.ChangeShapes Go.WideShapes Go.ChangeAt Go.RowKit Go.ChangeMaps
structure A17D where
 a0:Int
 a1:Int
 a2:Int
 a3:Int
 a4:Int
 a5:ByteArray
 a6:V3
def act17C(x:A17D):List Value:=[.int .i64 x.a0,.int .i64 x.a1,.int .i64 x.a2,.int .i64 x.a3,.int .i64 x.a4,.string x.a5,.int .i64 x.a6.1,.int .i64 x.a6.2.1,.string x.a6.2.2]
def Act17Ok(x:A17D):Prop:=I64 x.a0∧I64 x.a1∧I64 x.a2∧I64 x.a3∧I64 x.a4∧I64 x.a6.1∧I64 x.a6.2.1
theorem el_A17D{H:Type}{enc:TypeId×Value→H}{W:World}(n:Nat)(l:List Value)(y:DataW H×List MemPlace)(hf:DataW.trod enc prog W 0 (fun _=>true) true n 38 l=some y):∃ a,l=act17C a∧Act17Ok a:=by
 obtain⟨xs,m,_,hx,hl,hlen,hp⟩:=DataW.trod_struct underlying38 hf
 rw[ce38]at hl
 have h0:DataW.trod enc prog W 0 (fun _=>true) true m 3 (List.take (prog.cellsOf 3) (List.drop 0 l))=xs[0]?:=hp 0 _ rfl
 rw[ce3]at h0
 have h1:DataW.trod enc prog W 0 (fun _=>true) true m 3 (List.take (prog.cellsOf 3) (List.drop 1 l))=xs[1]?:=hp 1 _ rfl
 rw[ce3]at h1
 have h2:DataW.trod enc prog W 0 (fun _=>true) true m 3 (List.take (prog.cellsOf 3) (List.drop 2 l))=xs[2]?:=hp 2 _ rfl
 rw[ce3]at h2
 have h3:DataW.trod enc prog W 0 (fun _=>true) true m 3 (List.take (prog.cellsOf 3) (List.drop 3 l))=xs[3]?:=hp 3 _ rfl
 rw[ce3]at h3
 have h4:DataW.trod enc prog W 0 (fun _=>true) true m 3 (List.take (prog.cellsOf 3) (List.drop 4 l))=xs[4]?:=hp 4 _ rfl
 rw[ce3]at h4
 have h5:DataW.trod enc prog W 0 (fun _=>true) true m 9 (List.take (prog.cellsOf 9) (List.drop 5 l))=xs[5]?:=hp 5 _ rfl
 rw[ce9]at h5
 have h6:DataW.trod enc prog W 0 (fun _=>true) true m 36 (List.take (prog.cellsOf 36) (List.drop 6 l))=xs[6]?:=hp 6 _ rfl
 rw[ce36]at h6
 have hlen:xs.length=7:=hlen
 match l,hl,xs,hlen with
 | [c0,c1,c2,c3,c4,c5,c6,c7,c8],_,[y0,y1,y2,y3,y4,y5,y6],_ =>
  simp only[List.drop_zero,List.drop_succ_cons,List.take_succ_cons,List.take_zero,List.getElem?_cons_zero,List.getElem?_cons_succ]at h0 h1 h2 h3 h4 h5 h6
  obtain⟨a0,e0,rfl,w0⟩:=DataW.trod_int underlying3 h0
  simp only[List.cons.injEq,and_true]at e0
  subst e0
  obtain⟨a1,e1,rfl,w1⟩:=DataW.trod_int underlying3 h1
  simp only[List.cons.injEq,and_true]at e1
  subst e1
  obtain⟨a2,e2,rfl,w2⟩:=DataW.trod_int underlying3 h2
  simp only[List.cons.injEq,and_true]at e2
  subst e2
  obtain⟨a3,e3,rfl,w3⟩:=DataW.trod_int underlying3 h3
  simp only[List.cons.injEq,and_true]at e3
  subst e3
  obtain⟨a4,e4,rfl,w4⟩:=DataW.trod_int underlying3 h4
  simp only[List.cons.injEq,and_true]at e4
  subst e4
  obtain⟨a5,e5,rfl,w5⟩:=DataW.trod_string underlying9 h5
  simp only[List.cons.injEq,and_true]at e5
  subst e5
  obtain⟨k6,n6,x6,rfl,rfl,rfl,rfl,w6k,w6n,w6x⟩:=open_value_c h6
  exact⟨⟨a0,a1,a2,a3,a4,a5,(k6,n6,x6)⟩,rfl,Go.Cs.fits_i64 w0,Go.Cs.fits_i64 w1,Go.Cs.fits_i64 w2,Go.Cs.fits_i64 w3,Go.Cs.fits_i64 w4,Go.Cs.fits_i64 w6k,Go.Cs.fits_i64 w6n⟩
theorem open_acts17{H:Type}{enc:TypeId×Value→H}{W:World}{r:Reach}{b0:Nat}{v:Value}{d:DataW H}{ps:List MemPlace}(hval:Value.okWide prog W r b0 22 v)(hd:DataW.Trod enc prog W 0 (fun _=>true) true 22 v d ps) :
  ∃ (A us:List A17D) (cp:Nat) (oi:Option BI) (ad:Nat→Option Addr),(∀ ρ,QIn ρ W oi (us.flatMap act17C))∧(∀ (ρ:Ren) j,ρ j=oi→VRel ρ (.slice (ad j) A.length cp) v)∧(∀ a∈A,Act17Ok a)∧(A=[]∨(ad=fun j=>some ⟨j,0,none⟩)∧∀ k,k<A.length→us[k]?=A[k]?)∧A.length≤9223372036854775807:=
 open_rows (c:=9) act17C Act17Ok underlying22 ce38 (fun _=>rfl) (fun a x hx=>by
  simp only[act17C,List.mem_cons,List.not_mem_nil,or_false]at hx
  rcases hx with rfl|rfl|rfl|rfl|rfl|rfl|rfl|rfl|rfl<;>rfl) (by omega) el_A17D hval hd
theorem acts17_cut:∀ (l:List A17D) (k:Nat) (x:A17D),l[k]?=some x→k*9+9≤(l.flatMap act17C).length∧List.take 9 (List.drop (k*9) (l.flatMap act17C))=act17C x:=by
 intro l
 induction l with
 |nil=>intro k x h;simp at h
 |cons y l ih =>
  intro k x h
  rw[List.flatMap_cons]
  cases k with
  |zero =>
   simp at h;subst h
   exact⟨by rw[List.length_append];show 0*9+9≤9+_;omega,rfl⟩
  |succ k =>
   obtain⟨h1,h2⟩:=ih k x (by simpa using h)
   refine⟨by rw[List.length_append];show _≤9+_;omega,?_⟩
   rw[show (k+1)*9=9+k*9 by omega,← List.drop_drop]
   exact h2
end Go.Proofs.Tryz
end
namespace Go.Proofs.Tryz
open Go.Cs
open Go.RowKit (Below)
set_option maxRecDepth 100000
attribute [local irreducible] QC WLoop WScope CRound WRange
set_option maxHeartbeats 32000000
variable {M:Type}[Mem M]{w0:World}{s:St M}{R:Value→St M→Prop}
theorem rowSl(b:Addr)(n c:Nat):crow prog 82 1 #[(0,.slice (some b) n c)]=some (.cells [.slice (some b) n c] 85 true):=by kernel_rfl
theorem rowSl0:crow prog 82 0 #[]=some (.cells [] 85 true):=by kernel_rfl
theorem bTab(a:Addr)(n c:Nat):cbuild prog 84 #[(0,.slice (some a) n c)]=some (.agg #[.slice (some a) n c,.int .i64 0,.int .i64 0]):=by kernel_rfl
theorem infoRow:∃ ie,prog.info? 85=some ie∧ie.size=1∧0<ie.bytes∧ie.bytes≤100:=by
 obtain⟨ie,h⟩:=Option.isSome_iff_exists.1 is85
 have h1:=ce85
 have h2:decide (0<prog.bytesOf 85∧prog.bytesOf 85≤100)=true:=by kernel_rfl
 rw[cellsOf_info h]at h1
 simp only[Program.bytesOf,h,decide_eq_true_eq]at h2
 exact⟨ie,h,h1,h2.1,h2.2⟩
def nnL(L:List Int)(i:Nat):Nat:=(max 0 (min (L.getD i 0) 4000)).toNat
def newT(L:List Int):Tab:=⟨L.length,nnL L,fun _ _=>s0,0,0⟩
section
theorem wch_appRowV{v:Value}{cs new:List Value}{k vb:Nat}{K:Value→St M→Prop}(hvb:s.at' vb=some (.cells new 85 true))(hnew:new.length=1)(hok:new.all qC=true)(hlen:k≤1000000)(hsl:SlC 85 1 s v cs k)
  (h:∀ s',s'.next=s.next+1→s'.at' s.next=some (.cells (cs++new) 85 true)→(∀ b,b≠s.next→(∀ q n c,v = .slice (some q) n c→b≠q.block)→s'.at' b=s.at' b)→K (.slice (some ⟨s.next,0,none⟩) (k+1) UNK) s') :
  wch (capp prog #[82,82] #[v,.slice (some ⟨vb,0,none⟩) 1 1] s) K:=by
 obtain⟨ie,hie,h1,h2,h3⟩:=infoRow
 have hv:cmore ie.size (.slice (some ⟨vb,0,none⟩) 1 1) s=some (1,new):=by
  simp only[more_at,hvb,more2,h1]
  rw[cut_all (by omega)];rfl
 obtain⟨s',g3,g4,g5,g6⟩:=app_row (n:=k) (k:=1) hie ze85 (by rw[h1];rfl) h2 (app_eq underlying82 underlying82 hie) (by omega) (by
  have:(k+1)*ie.bytes≤1000001*100:=Nat.mul_le_mul (by omega) h3
  omega) hok hv (by rw[h1];exact hsl)
 exact⟨_,s',g3,h s' g4 g5 g6⟩
theorem snew_spec{L:List Int}{lb lc:Nat}(hL:s.at' lb=some (.cells (L.map fun x => .int .i64 x) 3 true))(hlbn:lb<s.next)(hm:L.length≤100)(hm0:0<L.length)
  (hmk:∀ i,i<L.length→cmks prog 85 (.int .i64 (nnL L i:Int)) (.int .i64 (nnL L i:Int))=some (.cells (rows (fun _=>sitC s0 (.slice none 0 0)) (nnL L i)) 96 true,fun b => .slice (some ⟨b,0,none⟩) (nnL L i) (nnL L i)))
  (hR:∀ s' t O,STab PY s.next s' t (newT L) 0 O→s.le s'→R (.pointer (some ⟨t,0,none⟩)) s'):QC prog w0 8 #[.slice (some ⟨lb,0,none⟩) L.length lc] s R:=by
 refine wfun2 hmix ok8 func8 rfl ntmps8 results8 (by simp) ?_
 simp -implicitDefEqProofs only[↓Zd,(Zp),simprocAttr,qP,Value.cells,(STx),underlying31,rowSl0,bTab]
 have l1:s.le ((s.new (.cells [] 85 true)).new (.cells [.slice (some ⟨s.next,0,none⟩) 0 0,.int .i64 0,.int .i64 0] 84 true)):=lN (lN (lR _))
 refine wloop_inv hmix (fun fuel env s'=>env 3 = .pointer (some ⟨s.next+1,0,none⟩)∧env 9 = .slice (some ⟨lb,0,none⟩) L.length lc∧env 10 = .int .i64 (L.length:Int)∧∃ (k:Nat) (al:Value) (rb:Nat→Nat),env 11 = .int .i64 (k:Int)∧k≤L.length∧fuel=L.length - k∧s.le s'∧s.next+2≤s'.next ∧
   s'.at' (s.next+1)=some (.cells [al,.int .i64 0,.int .i64 0] 84 true)∧SlC 85 1 s' al (rows (fun i=>[.slice (some ⟨rb i,0,none⟩) (nnL L i) (nnL L i)]) k) k∧(∀ q n c,al = .slice (some q) n c→s.next≤q.block∧q.block<s'.next)∧(k≠0→∃ b,al = .slice (some ⟨b,0,none⟩) k UNK) ∧
   (∀ i,i<k→s.next+2≤rb i∧rb i<s'.next∧s'.at' (rb i)=some (.cells (rows (fun _=>sitC s0 (.slice none 0 0)) (nnL L i)) 96 true))∧(∀ i j,i<k→j<k→rb i=rb j→i=j)) (L.length - 0) ?_ ?_
 ·refine⟨rfl,rfl,rfl,0,_,fun _=>0,rfl,Nat.zero_le _,rfl,l1,by simp only[St.next_new];omega,?_,.inr ⟨s.next,0,rfl,.inr ⟨rfl,by decide⟩,?_,rfl⟩,fun q n c e=>?_,fun h=>absurd rfl h,fun i hi=>absurd hi (Nat.not_lt_zero _),fun i j hi=>absurd hi (Nat.not_lt_zero _)⟩
  ·rw[St.at_new,if_pos (by simp only[St.next_new])]
  ·rw[St.at_new,if_neg (by simp only[St.next_new];omega),St.at_new,if_pos rfl];rfl
  ·cases e;simp only[St.next_new];exact⟨Nat.le_refl _,by omega⟩
 rintro fuel env s2 ⟨e3,e9,e10,k,al,rb,e11,hk,rfl,l2,n2,hT,hsl,hal,hne,hrb,hinj⟩
 by_cases hlt:k<L.length
 ·have hlt':(k:Int)<(L.length:Int):=by omega
  have hkk:(0:Int)≤(k:Int)∧(k:Int)<(L.length:Int):=by omega
  have w1:IntKind.i64.wrap ((k:Int)+1)=((k+1:Nat):Int):=by rw[wrap_i64 (by omega)];omega
  have hL2:=(l2.2 lb hlbn).trans hL
  have hLk:(L.map fun x=>(Value.int .i64 x))[k]?=some (.int .i64 (L.getD k 0)):=by
   rw[List.getElem?_map,List.getElem?_eq_getElem hlt,List.getD_eq_getElem?_getD,List.getElem?_eq_getElem hlt];rfl
  have hmx:(if (if (4000:Int)<L.getD k 0 then 4000 else L.getD k 0)>0 then (if (4000:Int)<L.getD k 0 then 4000 else L.getD k 0) else 0)=((nnL L k:Nat):Int):=by
   unfold nnL
   omega
  have hmk2:=hmk k hlt
  obtain⟨qa,qn,qc,hform⟩:∃ a n c,al=Value.slice a n c:=by rcases hsl with ⟨_,_,e⟩|⟨b,c,e,_⟩<;>exact⟨_,_,_,e⟩
  simp -implicitDefEqProofs only[↓Zd,(Zp),Zr,simprocAttr,cld2,(HEx),(STx),underlying31,e3,e9,e10,e11,hlt',hkk,hL2,hLk,hT,↓f_mks,↓f_min,↓f_max,bi_min,bi_max,hmx,hmk2,rowSl,Nat.add_zero,ord8]
  have hTb:∀ q n c,al = .slice (some q) n c→s.next+1≠q.block:=fun q n c e=>by
   rcases hsl with ⟨_,_,e2⟩|⟨b,c2,e2,_,h3,_⟩
   ·rw[e2]at e;cases e
   ·rw[e2]at e;cases e
    exact at_apart hT h3 (by decide)
  have hsl5:SlC 85 1 ((s2.new (.cells (rows (fun _=>sitC s0 (.slice none 0 0)) (nnL L k)) 96 true)).new (.cells [.slice (some ⟨s2.next,0,none⟩) (nnL L k) (nnL L k)] 85 true)) al (rows (fun i=>[.slice (some ⟨rb i,0,none⟩) (nnL L i) (nnL L i)]) k) k:=hsl.same fun q n c e=>by
   have:=(hal q n c e).2
   rw[St.at_new,if_neg (by simp only[St.next_new];omega),St.at_new,if_neg (by omega)]
  refine wch_appRowV (k:=k) (vb:=s2.next+1) (by rw[St.at_new,if_pos (by simp only[St.next_new])]) rfl (by simp[okc_slice]) (by omega) hsl5 fun s5 n5 b5 k5=>?_
  simp only[St.next_new]at n5 b5 k5
  have k5':∀ b,b<s2.next→(∀ q n c,al = .slice (some q) n c→b≠q.block)→s5.at' b=s2.at' b:=fun b hb hq=>by
   rw[k5 b (by omega) hq,St.at_new,if_neg (by simp only[St.next_new];omega),St.at_new,if_neg (by omega)]
  have hT5:=(k5' (s.next+1) (by omega) hTb).trans hT
  have hr5:s5.at' s2.next=some (.cells (rows (fun _=>sitC s0 (.slice none 0 0)) (nnL L k)) 96 true):=by
   rw[k5 s2.next (by omega) (fun q n c e=>by have:=(hal q n c e).2;omega),St.at_new,if_neg (by simp only[St.next_new];omega),St.at_new,if_pos rfl]
  have hL5:=(k5' lb (by have:=l2.1;omega) (fun q n c e=>by have:=(hal q n c e).1;omega)).trans hL2
  simp -implicitDefEqProofs only[↓Zd,(Zp),simprocAttr,qP,Value.cells,qC,(STx),e3,e9,e10,e11,hT5,w1,Nat.add_zero]
  have hl5:s.le s5:=⟨by have:=l2.1;omega,fun c hc=>by rw[k5' c (by have:=l2.1;omega) (fun q n c' e=>by have:=(hal q n c' e).1;omega)];exact l2.2 c hc⟩
  have hrow5:∀ i,i<k→s5.at' (rb i)=some (.cells (rows (fun _=>sitC s0 (.slice none 0 0)) (nnL L i)) 96 true):=fun i hi=>by
   obtain⟨h1,h2,h3⟩:=hrb i hi
   rw[k5' _ h2 (fun q n c e=>by
    rcases hsl with ⟨_,_,e2⟩|⟨b,c2,e2,_,h4,_⟩
    ·rw[e2]at e;cases e
    ·rw[e2]at e;cases e
     exact at_apart h3 h4 (by decide))]
   exact h3
  have heq:(s2.next+1+1:Nat)=s2.next+2:=rfl
  refine⟨_,Nat.sub_lt_sub_left hlt (Nat.lt_succ_self k),k+1,_,fun i=>if i=k then s2.next else rb i,rfl,by omega,rfl,lP hl5 (by omega),by omega,rfl,.inr ⟨s2.next+2,UNK,rfl,.inl rfl,?_,?_⟩,fun q n c e=>?_,fun _=>⟨_,rfl⟩,fun i hi=>?_,fun i j hi hj e=>?_⟩
  ·rw[St.at_put,if_neg (by omega)]
   have b5:s5.at' (s2.next+2)=_:=b5
   rw[b5,rows_succ]
   congr 3
   ·refine rows_congr fun m hmk3=>?_
    have hmk4:m≠k:=Nat.ne_of_lt hmk3
    show _=[Value.slice (some ⟨if m=k then s2.next else rb m,0,none⟩) (nnL L m) (nnL L m)]
    rw[if_neg hmk4]
   ·show _=[Value.slice (some ⟨if k=k then s2.next else rb k,0,none⟩) (nnL L k) (nnL L k)]
    rw[if_pos rfl]
  ·rw[rows_len (k:=1) (fun _=>rfl)]
  ·cases e
   show s.next≤s2.next+2∧s2.next+2<s5.next
   omega
  ·show s.next+2≤(if i=k then s2.next else rb i)∧(if i=k then s2.next else rb i)<s5.next∧(if (if i=k then s2.next else rb i)=s.next+1 then _ else s5.at' (if i=k then s2.next else rb i))=_
   by_cases e:i=k
   ·subst e
    rw[if_pos rfl,if_neg (by omega)]
    exact⟨by omega,by omega,hr5⟩
   ·rw[if_neg e]
    have h1:=hrb i (by omega)
    rw[if_neg (by omega)]
    exact⟨h1.1,by omega,hrow5 i (by omega)⟩
  ·have e:(if i=k then s2.next else rb i)=(if j=k then s2.next else rb j):=e
   by_cases e1:i=k
   ·by_cases e2:j=k
    ·omega
    ·rw[if_pos e1,if_neg e2]at e
     have:=(hrb j (by omega)).2.1;omega
   ·by_cases e2:j=k
    ·rw[if_neg e1,if_pos e2]at e
     have:=(hrb i (by omega)).2.1;omega
    ·rw[if_neg e1,if_neg e2]at e
     exact hinj i j (by omega) (by omega) e
 ·have hlt':¬ (k:Int)<(L.length:Int):=by omega
  have hkl:k=L.length:=by omega
  subst hkl
  simp -implicitDefEqProofs only[↓Zd,(Zp),simprocAttr,e3,e10,e11,hlt']
  obtain⟨b,rfl⟩:=hne (by omega)
  refine hR s2 (s.next+1) (fun b=>s.next≤b∧b<s2.next) ⟨_,rb,nnL L,fun _ _ => .slice none 0 0,fun b hb=>hb,⟨by omega,by omega⟩,hT,⟨Nat.le_refl _,Nat.le_refl _⟩,?_,fun q n c e=>hal q n c e,fun i hi=>⟨by have:=hrb i hi;omega,(hrb i hi).2.1⟩,fun i hi=>(hrb i hi).2.2,hinj,fun i j hi hj=>⟨fun _ => .slice none 0 0,.inl ⟨rfl,rfl,rfl⟩,fun q n c e=>(by cases e),fun m hm=>absurd hm (Nat.not_lt_zero _),fun _=>rfl⟩,fun i j i' j' q n c q' n' c' h1 h2 h3 h4 e=>(by cases e),⟨hm,fun i hi=>?_⟩⟩ l2
  ·rcases hsl with ⟨h1,_,e⟩|⟨b',c,e,h1,h2,h3⟩
   ·exact absurd e (by simp)
   ·cases e
    exact .inr ⟨b,[],rfl,by rw[List.append_nil];exact h2,h3⟩
  ·show nnL L i≤4000
   unfold nnL;omega
end
theorem rowSites:crow prog 31 3 #[(0,.int .i64 3),(1,.int .i64 2),(2,.int .i64 (-1))]=some (.cells [.int .i64 3,.int .i64 2,.int .i64 (-1)] 3 true):=by kernel_rfl
theorem mks3:cmks prog 85 (.int .i64 3) (.int .i64 3)=some (.cells (rows (fun _=>sitC s0 (.slice none 0 0)) 3) 96 true,fun b => .slice (some ⟨b,0,none⟩) 3 3):=by kernel_rfl
theorem mks2:cmks prog 85 (.int .i64 2) (.int .i64 2)=some (.cells (rows (fun _=>sitC s0 (.slice none 0 0)) 2) 96 true,fun b => .slice (some ⟨b,0,none⟩) 2 2):=by kernel_rfl
theorem mks0:cmks prog 85 (.int .i64 0) (.int .i64 0)=some (.cells (rows (fun _=>sitC s0 (.slice none 0 0)) 0) 96 true,fun b => .slice (some ⟨b,0,none⟩) 0 0):=by kernel_rfl
theorem newT_ok(H:Hp)(L:List Int):TabOk H (newT L):=fun a b _ _=>s0_ok H false
section
theorem sites_spec(hR:R (.slice (some ⟨s.next,0,none⟩) 3 3) (s.new (.cells [.int .i64 3,.int .i64 2,.int .i64 (-1)] 3 true))):QC prog w0 9 #[] s R:=by
 refine wfun2 hmix ok9 func9 rfl ntmps9 results9 (by simp) ?_
 simp -implicitDefEqProofs only[↓Zd,(Zp),simprocAttr,rowSites]
 exact hR
theorem snew3_spec{lb:Nat}(hL:s.at' lb=some (.cells [.int .i64 3,.int .i64 2,.int .i64 (-1)] 3 true))(hlbn:lb<s.next)(hR:∀ s' t O,STab PY s.next s' t (newT [3,2,-1]) 0 O→s.le s'→R (.pointer (some ⟨t,0,none⟩)) s'):QC prog w0 8 #[.slice (some ⟨lb,0,none⟩) 3 3] s R:=by
 refine snew_spec (L:=[3,2,-1]) (lc:=3) hL hlbn (by decide) (by decide) (fun i hi=>?_) hR
 match i,hi with
 |0,_=>exact mks3
 |1,_=>exact mks2
 |2,_=>exact mks0
structure HideAt(n0:Nat)(s0 s:St M)(p1 p2 t:Nat)(H G:Hp)(T:Tab)(N k:Nat)(O1 O2 O3:Nat→Prop):Prop where
 two:TwoAt n0 s0 s p1 p2 H G N O1 O2
 tab:STab PY n0 s t T k O3
 d13:∀ b,O1 b→¬ O3 b
 d23:∀ b,O2 b→¬ O3 b
 ok:TabOk H T
 fs:0<T.fs
variable {n0 p1 p2 t N k:Nat}{s0:St M}{H G:Hp}{T:Tab}{O1 O2 O3:Nat→Prop}
theorem HideAt.le{s':St M}(h:HideAt n0 s0 s p1 p2 t H G T N k O1 O2 O3)(hs:s.le s'):HideAt n0 s0 s' p1 p2 t H G T N k O1 O2 O3:=⟨h.two.le hs,h.tab.le hs,h.d13,h.d23,h.ok,h.fs⟩
theorem TwoAt.mono{N':Nat}(h:TwoAt n0 s0 s p1 p2 H G N O1 O2)(hN:N≤N'):TwoAt n0 s0 s p1 p2 H G N' O1 O2:=⟨h.one.mono hN,h.two.mono hN,h.apart,h.lo,h.old,h.sim,h.sz⟩
theorem HideAt.mono{N' k':Nat}(h:HideAt n0 s0 s p1 p2 t H G T N k O1 O2 O3)(hN:N≤N')(hk:k≤k'):HideAt n0 s0 s p1 p2 t H G T N' k' O1 O2 O3:=⟨h.two.mono hN,h.tab.mono hk,h.d13,h.d23,h.ok,h.fs⟩
theorem HideAt.step{s1 s2:St M}{H' G':Hp}{N':Nat}{P1 P2:Nat→Prop}(h:HideAt n0 s0 s p1 p2 t H G T N k O1 O2 O3)(h1:HpAt n0 s1 p1 H' N' P1)(hU1:Upd s s1 O1 P1)(h2:HpAt n0 s2 p2 G' N' P2)(hU2:Upd s1 s2 O2 P2)(hsim:Sim H' G')(hsz:HSz 1000000 H')(hg:Grows H H') :
  HideAt n0 s0 s2 p1 p2 t H' G' T N' k P1 P2 O3:=by
 obtain⟨a1,b1⟩:=h.tab.other hU1 h.d13
 obtain⟨a2,b2⟩:=a1.other hU2 h.d23
 exact⟨h.two.step h1 hU1 h2 hU2 hsim hsz,a2,b1,b2,h.ok.grows h.two.one.ok h1.ok hg,h.fs⟩
theorem HideAt.table{s1:St M}{T':Tab}{k':Nat}{P3:Nat→Prop}(h:HideAt n0 s0 s p1 p2 t H G T N k O1 O2 O3)(h1:STab PY n0 s1 t T' k' P3)(hU1:Upd s s1 O3 P3)(hok:TabOk H T')(hfs:T'.fs=T.fs) :
  HideAt n0 s0 s1 p1 p2 t H G T' N k' O1 O2 P3:=by
 obtain⟨g1,e1⟩:=h.two.one.other hU1 (fun b h1 h2=>h.d13 b h2 h1)
 obtain⟨g2,e2⟩:=h.two.two.other hU1 (fun b h1 h2=>h.d23 b h2 h1)
 have hn:=hU1.next
 have hlo:=h.two.lo
 refine⟨⟨g1,g2,h.two.apart,by omega,fun c hc=>?_,h.two.sim,h.two.sz⟩,h1,fun b hb hb3=>e1 b hb3 hb,fun b hb hb3=>e2 b hb3 hb,hok,by rw[hfs];exact h.fs⟩
 rw[hU1.keep c (by omega) (fun hb=>by have:=(h.tab.own c hb).1;omega)]
 exact h.two.old c hc
theorem HideAt.all{s1 s2:St M}{H' G':Hp}{T':Tab}{N' k':Nat}{P1 P2 P3:Nat→Prop}(h:HideAt n0 s0 s p1 p2 t H G T N k O1 O2 O3)(h1:HpAt n0 s1 p1 H' N' P1)(h3:STab PY n0 s1 t T' k' P3)(hd:∀ b,P1 b→¬ P3 b)(hn:s.next≤s1.next)(hk:∀ b,b<s.next→¬ O1 b→¬ O3 b→s1.at' b=s.at' b)(ho1:∀ b,P1 b→O1 b∨s.next≤b)(ho3:∀ b,P3 b→O3 b∨s.next≤b)
  (h2:HpAt n0 s2 p2 G' N' P2)(hU2:Upd s1 s2 O2 P2)(hsim:Sim H' G')(hsz:HSz 1000000 H')(hok:TabOk H' T')(hfs:T'.fs=T.fs) :
  HideAt n0 s0 s2 p1 p2 t H' G' T' N' k' P1 P2 P3:=by
 have d12:∀ b,O2 b→¬ P1 b:=fun b hb h4=>by
  rcases ho1 b h4 with h5|h5
  ·exact h.two.apart b h5 hb
  ·have:=(h.two.two.own b hb).2;omega
 have d32:∀ b,O2 b→¬ P3 b:=fun b hb h4=>by
  rcases ho3 b h4 with h5|h5
  ·exact h.d23 b hb h5
  ·have:=(h.two.two.own b hb).2;omega
 obtain⟨g1,e1⟩:=h1.other hU2 d12
 obtain⟨g3,e3⟩:=h3.other hU2 d32
 have hn2:=hU2.next
 have hlo:=h.two.lo
 refine⟨⟨g1,h2,fun b hb hb2=>e1 b hb2 hb,by omega,fun c hc=>?_,hsim,hsz⟩,g3,hd,e3,hok,by rw[hfs];exact h.fs⟩
 rw[hU2.keep c (by omega) (fun hb=>by have:=(h.two.two.own c hb).1;omega),hk c (by omega) (fun hb=>by have:=(h.two.one.own c hb).1;omega) (fun hb=>by have:=(h.tab.own c hb).1;omega)]
 exact h.two.old c hc
end
theorem rbOneS(m:Bool):cbuild prog 182 #[(3,.bool m)]=some (.agg #[.int .i64 0,.string ⟨#[]⟩,.slice none 0 0,.bool m]):=by cases m<;>kernel_rfl
theorem rows_set40{c:Nat→List Value}{n i:Nat}{v0 v1 v2 v3:Value}(hc:∀ i,(c i).length=4)(hi:i<n) :
  (((((rows c n).set (i*4) v0).set (i*4+1) v1).set (i*4+2) v2).set (i*4+3) v3)=rows (fun m=>if m=i then [v0,v1,v2,v3] else c m) n:=by
 have h5:=hc i
 obtain⟨w0,w1,w2,w3,hl⟩:∃ w0 w1 w2 w3,c i=[w0,w1,w2,w3]:=by
  match hcl:c i,h5 with
  | [w0,w1,w2,w3],_=>exact⟨_,_,_,_,rfl⟩
 have step:∀ (d d':List Value) (k:Nat) (v:Value),d.length=4→k<4→d'=d.set k v→(rows (fun m=>if m=i then d else c m) n).set (i*4+k) v=rows (fun m=>if m=i then d' else c m) n:=fun d d' k v hd hk he =>
  rows_set0 (k:=4) (fun m=>by (try dsimp only);split;exact hd;exact hc m) (fun m=>by (try dsimp only);split;rw[he,List.length_set];exact hd;exact hc m) hi hk (fun m hm=>by (try dsimp only);rw[if_neg hm,if_neg hm]) (by (try dsimp only);rw[if_pos rfl,if_pos rfl];exact he)
 have h0:rows c n=rows (fun m=>if m=i then [w0,w1,w2,w3] else c m) n:=rows_congr fun m hm=>by
  split
  ·rename_i e;rw[e,hl]
  ·rfl
 have s0:=step [w0,w1,w2,w3] [v0,w1,w2,w3] 0 v0 rfl (by omega) rfl
 rw[Nat.add_zero]at s0
 rw[h0,s0,step [v0,w1,w2,w3] [v0,v1,w2,w3] 1 v1 rfl (by omega) rfl,step [v0,v1,w2,w3] [v0,v1,v2,w3] 2 v2 rfl (by omega) rfl,step [v0,v1,v2,w3] [v0,v1,v2,v3] 3 v3 rfl (by omega) rfl]
section
variable {lo t N:Nat}{T:Tab}{O:Nat→Prop}
theorem rflush_spec(hS:STab RY lo s t T N O){f:Int}{m:Bool}(hR:∀ s',STab RY lo s' t (flushT T f m) N O→Upd s s' O O→R (.tuple #[]) s') :
  QC prog w0 44 #[.pointer (some ⟨t,0,none⟩),.int .i64 f,.bool m] s R:=by
 refine wfun2 hmix ok44 func44 rfl ntmps44 results44 (by simp) ?_
 obtain⟨al,rb,cp,sl,h⟩:=hS
 have hb:s.at' t=some (.cells [al,.int .i64 (T.hits:Int),.int .i64 (T.misses:Int)] 106 true):=h.bl
 simp -implicitDefEqProofs only[↓Zd,(Zp),simprocAttr]
 by_cases hin:0≤f∧f<(T.fs:Int)
 case neg =>
  have e:flushT T f m=T:=by unfold flushT;rw[if_neg hin]
  rw[e]at hR
  refine wloop_inv hmix (fun fuel env s'=>s'=s∧env 0 = .pointer (some ⟨t,0,none⟩)∧env 1 = .int .i64 f) 0 ⟨rfl,rfl,rfl⟩ ?_
  rintro fuel env s2 ⟨rfl,e0,e1⟩
  obtain⟨qa,qc,hal⟩:=h.alf
  rw[hal]at hb
  by_cases f1:0≤f
  ·have f2:¬ f<(T.fs:Int):=fun hc=>hin ⟨f1,hc⟩
   simp -implicitDefEqProofs only[↓Zd,(Zp),simprocAttr,cld2,(RTx),e0,e1,hb,f1,f2]
   exact hR _ ⟨_,_,_,_,h⟩ (.of_le (lR _))
  ·simp -implicitDefEqProofs only[↓Zd,(Zp),simprocAttr,e1,f1]
   exact hR _ ⟨_,_,_,_,h⟩ (.of_le (lR _))
 obtain⟨f1,f2⟩:=hin
 obtain⟨i,rfl⟩:∃ i:Nat,f=(i:Int):=⟨f.toNat,by omega⟩
 have hi:i<T.fs:=by omega
 obtain⟨b0,junk,rfl,ha,hg,hb0O⟩:=h.ab hi
 have hii:(0:Int)≤(i:Int)∧(i:Int)<(T.fs:Int):=by omega
 have hni:=h.small.2 i hi
 refine wloop_inv hmix (fun fuel env s'=>env 0 = .pointer (some ⟨t,0,none⟩)∧env 1 = .int .i64 (i:Int)∧env 2 = .bool m∧∃ (k:Nat) (sl':Nat→Nat→Value),env 6 = .int .i64 (k:Int)∧k≤T.n i∧fuel=T.n i - k∧SAt RY lo s' t (flushK T i k m) N O (.slice (some ⟨b0,0,none⟩) T.fs UNK) rb cp sl'∧s'.next=s.next∧(∀ b,¬ O b→s'.at' b=s.at' b)∧s'.at' b0=s.at' b0) (T.n i - 0) ?_ ?_
 ·exact⟨rfl,rfl,rfl,0,sl,rfl,Nat.zero_le _,rfl,by rw[flushK_zero];exact h,rfl,fun _ _=>rfl,rfl⟩
 rintro fuel env s2 ⟨e0,e1,e2,k,sl',e6,hk,rfl,a2,n2,k2,kb⟩
 have hb2:s2.at' t=some (.cells [.slice (some ⟨b0,0,none⟩) T.fs UNK,.int .i64 (T.hits:Int),.int .i64 (T.misses:Int)] 106 true):=a2.bl
 have ha2:=kb.trans ha
 by_cases hlt:k<T.n i
 ·have hlt':(k:Int)<(T.n i:Int):=by omega
  have hkk:(0:Int)≤(k:Int)∧(k:Int)<(T.n i:Int):=by omega
  have w1:IntKind.i64.wrap ((k:Int)+1)=((k+1:Nat):Int):=by rw[wrap_i64 (by omega)];omega
  have hr2:s2.at' (rb i)=some (.cells (rows (fun q=>rsitC ((flushK T i k m).st i q) (sl' i q)) (T.n i)) 182 true):=a2.row i hi
  have g3:(rows (fun q=>rsitC ((flushK T i k m).st i q) (sl' i q)) (T.n i))[k*4+3]?=some (.bool (T.st i k).mega):=by
   rw[rows_get0 (c:=fun q=>rsitC ((flushK T i k m).st i q) (sl' i q)) (k:=4) (fun _=>rfl) hlt (j:=3) (by omega)]
   show some (Value.bool (if i=i∧k<k then _ else T.st i k).mega)=_
   rw[if_neg (fun h=>Nat.lt_irrefl _ h.2)]
  have hset:=rows_set40 (c:=fun q=>rsitC ((flushK T i k m).st i q) (sl' i q)) (v0 := .int .i64 0) (v1 := .string ⟨#[]⟩) (v2 := .slice none 0 0) (v3 := .bool (m || (T.st i k).mega)) (fun _=>rfl) hlt
  have hlen:k*4+4≤(rows (fun q=>rsitC ((flushK T i k m).st i q) (sl' i q)) (T.n i)).length:=by rw[rows_len (k:=4) (fun _=>rfl)];omega
  have hrbb:rb i≠b0:=at_apart hr2 ha2 (by decide)
  have hrbO:=h.pinR i hi
  have a3:=a2.set (s':=s2.put (rb i) (.cells (rows (fun q=>if q=k then rsitC { s0 with mega:=m || (T.st i k).mega } (.slice none 0 0) else rsitC ((flushK T i k m).st i q) (sl' i q)) (T.n i)) 182 true)) (O':=O) (z':={ s0 with mega:=m || (T.st i k).mega }) (v' := .slice none 0 0) hi hlt (Nat.le_refl _) (fun _ h=>h) a2.own (by rw[St.at_put,if_pos rfl];rfl) (fun b hb hne _=>by rw[St.at_put,if_neg hne])
   ⟨fun _ => .slice none 0 0,.inl ⟨rfl,rfl,rfl⟩,fun q n c e=>(by cases e),fun m hm=>absurd hm (Nat.not_lt_zero _),fun _=>rfl⟩ (fun q n c e=>by cases e)
  rw[flushK_succ]at a3
  cases m with
  |true =>
   simp only[Bool.true_or]at hset
   simp -implicitDefEqProofs only[↓Zd,(Zp),simprocAttr,qP,Value.cells,qC,cld2,(RTx),e0,e1,e2,e6,f1,f2,hlt',hkk,hb2,ha2,hg,hr2,rbOneS,hset,hlen,w1,Nat.add_zero,ord44]
   refine⟨_,Nat.sub_lt_sub_left hlt (Nat.lt_succ_self k),k+1,_,rfl,by omega,rfl,a3,n2,fun b hb=>?_,?_⟩
   ·first|(rw[if_neg (fun e=>hb (by rw[e];exact hrbO))];exact k2 b hb)|(rw[St.at_put,if_neg (fun e=>hb (by rw[e];exact hrbO))];exact k2 b hb)
   ·first|(rw[if_neg (fun e=>hrbb e.symm)];exact ha.symm)|(rw[St.at_put,if_neg (fun e=>hrbb e.symm)];exact kb)
  |false =>
   simp only[Bool.false_or]at hset
   simp -implicitDefEqProofs only[↓Zd,(Zp),simprocAttr,qP,Value.cells,qC,cld2,(HEx),(RTx),e0,e1,e2,e6,f1,f2,hlt',hkk,hb2,ha2,hg,hr2,g3,rbOneS,hset,hlen,w1,Nat.add_zero,ord44]
   refine⟨_,Nat.sub_lt_sub_left hlt (Nat.lt_succ_self k),k+1,_,rfl,by omega,rfl,a3,n2,fun b hb=>?_,?_⟩
   ·first|(rw[if_neg (fun e=>hb (by rw[e];exact hrbO))];exact k2 b hb)|(rw[St.at_put,if_neg (fun e=>hb (by rw[e];exact hrbO))];exact k2 b hb)
   ·first|(rw[if_neg (fun e=>hrbb e.symm)];exact ha.symm)|(rw[St.at_put,if_neg (fun e=>hrbb e.symm)];exact kb)
 ·have hlt':¬ (k:Int)<(T.n i:Int):=by omega
  have:k=T.n i:=by omega
  subst this
  rw[flushK_all T i m hi]at a2
  simp -implicitDefEqProofs only[↓Zd,(Zp),simprocAttr,cld2,(RTx),e0,e1,e6,f1,f2,hb2,ha2,hg,hlt',Nat.add_zero]
  exact hR _ ⟨_,_,_,_,a2⟩ ⟨by omega,fun b _ hO=>k2 b hO,fun b hb => .inl hb⟩
end
end Go.Proofs.Tryz
