/- Lemmas, laid one behind the other by squeeze2.py. -/
import Derived.Test.YtnkichmojbanlaaGreatzF
set_option linter.unusedSimpArgs false
set_option linter.unusedVariables false
set_option linter.unusedSectionVars false
set_option linter.defProp false
namespace Go.Proofs.Tryz
open Go.Cs
open Go.RowKit (Below)
set_option maxRecDepth 100000
attribute [local irreducible] QC WLoop WScope CRound WRange
set_option maxHeartbeats 32000000
variable {M:Type}[Mem M]{w0:World}{s:St M}{R:Value→St M→Prop}
theorem rrowSl(b:Addr)(n c:Nat):crow prog 104 1 #[(0,.slice (some b) n c)]=some (.cells [.slice (some b) n c] 107 true):=by kernel_rfl
theorem rbTab:cbuild prog 106 #[]=some (.agg #[.slice none 0 0,.int .i64 0,.int .i64 0]):=by kernel_rfl
section
theorem infoRRow:∃ ie,prog.info? 107=some ie∧ie.size=1∧0<ie.bytes∧ie.bytes≤100:=by
 obtain⟨ie,h⟩:=Option.isSome_iff_exists.1 is107
 have h1:=ce107
 have h2:decide (0<prog.bytesOf 107∧prog.bytesOf 107≤100)=true:=by kernel_rfl
 rw[cellsOf_info h]at h1
 simp only[Program.bytesOf,h,decide_eq_true_eq]at h2
 exact⟨ie,h,h1,h2.1,h2.2⟩
theorem appRRow{sl:Value}{cs new:List Value}{k:Nat}(hnew:new.length=1)(hok:new.all qC=true)(hlen:k≤1000000)(hsl:SlU 107 1 s sl cs k)(hfr:∀ q m c,sl = .slice (some q) m c→q.block<s.next) :
  ∃ s',capp prog #[104,104] #[sl,.slice (some ⟨s.next,0,none⟩) 1 1] (s.new (.cells new 107 true))=some (.slice (some ⟨s.next+1,0,none⟩) (k+1) UNK,s')∧s'.next=s.next+2 ∧
   s'.at' (s.next+1)=some (.cells (cs++new) 107 true)∧(∀ b,b<s.next→(∀ q n c,sl = .slice (some q) n c→b≠q.block)→s'.at' b=s.at' b):=by
 obtain⟨ie,hie,h1,h2,h3⟩:=infoRRow
 have hcapp:capp prog #[104,104] #[sl,.slice (some ⟨s.next,0,none⟩) 1 1] (s.new (.cells new 107 true))=capp3 prog 107 ie sl (s.new (.cells new 107 true)) (cmore ie.size (.slice (some ⟨s.next,0,none⟩) 1 1) (s.new (.cells new 107 true))):=
  app_eq underlying104 underlying104 hie
 have hv:cmore ie.size (.slice (some ⟨s.next,0,none⟩) 1 1) (s.new (.cells new 107 true))=some (1,new):=by
  simp only[more_at,St.at_new,if_true,more2,h1]
  rw[cut_all (by omega)];rfl
 obtain⟨s',h3,h4,h5,h6⟩:=app_rowU (n:=k) (k:=1) hie ze107 (by rw[h1];rfl) h2 hcapp (by omega) (by
  have:(k+1)*ie.bytes≤1000001*100:=Nat.mul_le_mul (by omega) h3
  omega) hok hv (by rw[h1];exact hsl.same fun q m c e=>by rw[St.at_new,if_neg (by have:=hfr q m c e;omega)])
 refine⟨s',by simpa using h3,by simp at h4;omega,h5,fun b hb hq=>?_⟩
 rw[h6 b (by simp;omega) hq,St.at_new,if_neg (by omega)]
theorem wch_appRRow{sl:Value}{cs new:List Value}{k:Nat}{K:Value→St M→Prop}(hnew:new.length=1)(hok:new.all qC=true)(hlen:k≤1000000)(hsl:SlU 107 1 s sl cs k)(hfr:∀ q m c,sl = .slice (some q) m c→q.block<s.next)
  (h:∀ s',s'.next=s.next+2→s'.at' (s.next+1)=some (.cells (cs++new) 107 true)→(∀ b,b<s.next→(∀ q n c,sl = .slice (some q) n c→b≠q.block)→s'.at' b=s.at' b)→K (.slice (some ⟨s.next+1,0,none⟩) (k+1) UNK) s') :
  wch (capp prog #[104,104] #[sl,.slice (some ⟨s.next,0,none⟩) 1 1] (s.new (.cells new 107 true))) K:=by
 obtain⟨s',h1,h2,h3,h4⟩:=appRRow hnew hok hlen hsl hfr
 exact⟨_,_,h1,h s' h2 h3 h4⟩
theorem etnew_spec{L:List Int}{lb lc:Nat}(hL:s.at' lb=some (.cells (L.map fun x => .int .i64 x) 3 true))(hlbn:lb<s.next)(hm:L.length≤100)
  (hmk:∀ i,i<L.length→cmks prog 107 (.int .i64 (nnL L i:Int)) (.int .i64 (nnL L i:Int))=some (.cells (rows (fun _=>rsitC s0 (.slice none 0 0)) (nnL L i)) 182 true,fun b => .slice (some ⟨b,0,none⟩) (nnL L i) (nnL L i)))
  (hR:∀ s' t O,STab RY s.next s' t (newT L) 0 O→s.le s'→R (.pointer (some ⟨t,0,none⟩)) s'):QC prog w0 15 #[.slice (some ⟨lb,0,none⟩) L.length lc] s R:=by
 refine wfun2 hmix ok15 func15 rfl ntmps15 results15 (by simp) ?_
 simp -implicitDefEqProofs only[↓Zd,(Zp),simprocAttr,qP,Value.cells,(RTx),rbTab]
 have l1:s.le (s.new (.cells [.slice none 0 0,.int .i64 0,.int .i64 0] 106 true)):=lN (lR _)
 refine wloop_inv hmix (fun fuel env s'=>env 0 = .slice (some ⟨lb,0,none⟩) L.length lc∧env 3 = .pointer (some ⟨s.next,0,none⟩)∧∃ (k:Nat) (al:Value) (rb:Nat→Nat),env 4 = .int .i64 (k:Int)∧k≤L.length∧fuel=L.length - k∧s.le s'∧s.next+1≤s'.next ∧
   s'.at' s.next=some (.cells [al,.int .i64 0,.int .i64 0] 106 true)∧SlU 107 1 s' al (rows (fun i=>[.slice (some ⟨rb i,0,none⟩) (nnL L i) (nnL L i)]) k) k∧(∀ q n c,al = .slice (some q) n c→s.next≤q.block∧q.block<s'.next) ∧
   (∀ i,i<k→s.next+1≤rb i∧rb i<s'.next∧s'.at' (rb i)=some (.cells (rows (fun _=>rsitC s0 (.slice none 0 0)) (nnL L i)) 182 true))∧(∀ i j,i<k→j<k→rb i=rb j→i=j)) (L.length - 0) ?_ ?_
 ·refine⟨rfl,rfl,0,_,fun _=>0,rfl,Nat.zero_le _,rfl,l1,by simp only[St.next_new];omega,by rw[St.at_new,if_pos rfl],.inl ⟨rfl,rfl,rfl⟩,fun q n c e=>(by cases e),fun i hi=>absurd hi (Nat.not_lt_zero _),fun i j hi=>absurd hi (Nat.not_lt_zero _)⟩
 rintro fuel env s2 ⟨e0,e3,k,al,rb,e4,hk,rfl,l2,n2,hT,hsl,hal,hrb,hinj⟩
 by_cases hlt:k<L.length
 ·have hlt':(k:Int)<(L.length:Int):=by omega
  have hkk:(0:Int)≤(k:Int)∧(k:Int)<(L.length:Int):=by omega
  have w1:IntKind.i64.wrap ((k:Int)+1)=((k+1:Nat):Int):=by rw[wrap_i64 (by omega)];omega
  have hL2:=(l2.2 lb hlbn).trans hL
  have hLk:(L.map fun x=>(Value.int .i64 x))[k]?=some (.int .i64 (L.getD k 0)):=by
   rw[List.getElem?_map,List.getElem?_eq_getElem hlt,List.getD_eq_getElem?_getD,List.getElem?_eq_getElem hlt];rfl
  have hmk2:=hmk k hlt
  obtain⟨qa,qn,qc,rfl⟩:∃ a n c,al=Value.slice a n c:=by rcases hsl with ⟨_,_,e⟩|⟨b,_,e,_⟩<;>exact⟨_,_,_,e⟩
  have hTb:∀ q n c,Value.slice qa qn qc = .slice (some q) n c→s.next≠q.block:=fun q n c e=>by
   rcases hsl with ⟨_,_,e2⟩|⟨b,junk,e2,h3,_⟩
   ·rw[e2]at e;cases e
   ·rw[e2]at e;cases e
    exact at_apart hT h3 (by decide)
  by_cases x1:L.getD k 0<0
  ·have hn:(0:Int)=((nnL L k:Nat):Int):=by unfold nnL;omega
   have hz:nnL L k=0:=by omega
   have x2:¬ (4000:Int)<0:=by decide
   rw[← hn]at hmk2
   simp -implicitDefEqProofs only[↓Zd,(Zp),simprocAttr,cld2,(HEx),(REx),(RTx),e0,e3,e4,hlt',hkk,hL2,hLk,hT,x1,x2,↓f_mks,hmk2,rrowSl,Nat.add_zero,ord15]
   have hsl5:SlU 107 1 (s2.new (.cells (rows (fun _=>rsitC s0 (.slice none 0 0)) (nnL L k)) 182 true)) (.slice qa qn qc) (rows (fun i=>[.slice (some ⟨rb i,0,none⟩) (nnL L i) (nnL L i)]) k) k:=hsl.same fun q n c e=>by
    have:=(hal q n c e).2
    rw[St.at_new,if_neg (by omega)]
   refine wch_appRRow (s:=s2.new (.cells (rows (fun _=>rsitC s0 (.slice none 0 0)) (nnL L k)) 182 true)) rfl (by simp[okc_slice]) (by omega) hsl5 (fun q n c e=>by have:=(hal q n c e).2;simp only[St.next_new];omega) fun s5 n5 b5 k5=>?_
   simp only[St.next_new]at n5 b5 k5
   have k5':∀ b,b<s2.next→(∀ q n c,Value.slice qa qn qc = .slice (some q) n c→b≠q.block)→s5.at' b=s2.at' b:=fun b hb hq=>by
    rw[k5 b (by omega) hq,St.at_new,if_neg (by omega)]
   have hT5:=(k5' s.next (by omega) hTb).trans hT
   have hr5:s5.at' s2.next=some (.cells (rows (fun _=>rsitC s0 (.slice none 0 0)) (nnL L k)) 182 true):=by
    rw[k5 s2.next (by omega) (fun q n c e=>by have:=(hal q n c e).2;omega),St.at_new,if_pos rfl]
   simp -implicitDefEqProofs only[↓Zd,(Zp),simprocAttr,qP,Value.cells,qC,(RTx),e0,e3,e4,hT5,w1,Nat.add_zero]
   have hl5:s.le s5:=⟨by have:=l2.1;omega,fun c hc=>by rw[k5' c (by have:=l2.1;omega) (fun q n c' e=>by have:=(hal q n c' e).1;omega)];exact l2.2 c hc⟩
   have hrow5:∀ i,i<k→s5.at' (rb i)=some (.cells (rows (fun _=>rsitC s0 (.slice none 0 0)) (nnL L i)) 182 true):=fun i hi=>by
    obtain⟨h1,h2,h3⟩:=hrb i hi
    rw[k5' _ h2 (fun q n c e=>by
     rcases hsl with ⟨_,_,e2⟩|⟨b,junk,e2,h4,_⟩
     ·rw[e2]at e;cases e
     ·rw[e2]at e;cases e
      exact at_apart h3 h4 (by decide))]
    exact h3
   refine⟨_,Nat.sub_lt_sub_left hlt (Nat.lt_succ_self k),k+1,_,fun i=>if i=k then s2.next else rb i,rfl,by omega,rfl,lP hl5 (by omega),by omega,rfl,.inr ⟨s2.next+2,[],rfl,?_,?_⟩,fun q n c e=>?_,fun i hi=>?_,fun i j hi hj e=>?_⟩
   ·rw[St.at_put,if_neg (by omega),List.append_nil]
    have b5:s5.at' (s2.next+2)=_:=b5
    rw[b5,rows_succ]
    congr 3
    ·refine rows_congr fun m hmk3=>?_
     have hmk4:m≠k:=Nat.ne_of_lt hmk3
     show _=[Value.slice (some ⟨if m=k then s2.next else rb m,0,none⟩) (nnL L m) (nnL L m)]
     rw[if_neg hmk4]
    ·show _=[Value.slice (some ⟨if k=k then s2.next else rb k,0,none⟩) (nnL L k) (nnL L k)]
     rw[if_pos rfl]
     try rfl
   ·rw[rows_len (k:=1) (fun _=>rfl)]
   ·cases e
    show s.next≤s2.next+2∧s2.next+2<s5.next
    omega
   ·show s.next+1≤(if i=k then s2.next else rb i)∧(if i=k then s2.next else rb i)<s5.next∧(if (if i=k then s2.next else rb i)=s.next then _ else s5.at' (if i=k then s2.next else rb i))=_
    by_cases e:i=k
    ·subst e
     rw[if_pos rfl,if_neg (by omega)]
     exact⟨by omega,by omega,hr5⟩
    ·rw[if_neg e]
     have h1:=hrb i (by omega)
     rw[if_neg (by omega)]
     exact⟨h1.1,by omega,hrow5 i (by omega)⟩
   ·have e:(if i=k then s2.next else rb i)=(if j=k then s2.next else rb j):=e
    by_cases e1:i=k
    ·by_cases e2:j=k
     ·omega
     ·rw[if_pos e1,if_neg e2]at e
      have:=(hrb j (by omega)).2.1;omega
    ·by_cases e2:j=k
     ·rw[if_neg e1,if_pos e2]at e
      have:=(hrb i (by omega)).2.1;omega
     ·rw[if_neg e1,if_neg e2]at e
      exact hinj i j (by omega) (by omega) e
  ·by_cases x2:4000<L.getD k 0
   ·have hn:(4000:Int)=((nnL L k:Nat):Int):=by unfold nnL;omega
    rw[← hn]at hmk2
    simp -implicitDefEqProofs only[↓Zd,(Zp),simprocAttr,cld2,(HEx),(REx),(RTx),e0,e3,e4,hlt',hkk,hL2,hLk,hT,x1,x2,↓f_mks,hmk2,rrowSl,Nat.add_zero,ord15]
    have hsl5:SlU 107 1 (s2.new (.cells (rows (fun _=>rsitC s0 (.slice none 0 0)) (nnL L k)) 182 true)) (.slice qa qn qc) (rows (fun i=>[.slice (some ⟨rb i,0,none⟩) (nnL L i) (nnL L i)]) k) k:=hsl.same fun q n c e=>by
     have:=(hal q n c e).2
     rw[St.at_new,if_neg (by omega)]
    refine wch_appRRow (s:=s2.new (.cells (rows (fun _=>rsitC s0 (.slice none 0 0)) (nnL L k)) 182 true)) rfl (by simp[okc_slice]) (by omega) hsl5 (fun q n c e=>by have:=(hal q n c e).2;simp only[St.next_new];omega) fun s5 n5 b5 k5=>?_
    simp only[St.next_new]at n5 b5 k5
    have k5':∀ b,b<s2.next→(∀ q n c,Value.slice qa qn qc = .slice (some q) n c→b≠q.block)→s5.at' b=s2.at' b:=fun b hb hq=>by
     rw[k5 b (by omega) hq,St.at_new,if_neg (by omega)]
    have hT5:=(k5' s.next (by omega) hTb).trans hT
    have hr5:s5.at' s2.next=some (.cells (rows (fun _=>rsitC s0 (.slice none 0 0)) (nnL L k)) 182 true):=by
     rw[k5 s2.next (by omega) (fun q n c e=>by have:=(hal q n c e).2;omega),St.at_new,if_pos rfl]
    simp -implicitDefEqProofs only[↓Zd,(Zp),simprocAttr,qP,Value.cells,qC,(RTx),e0,e3,e4,hT5,w1,Nat.add_zero]
    have hl5:s.le s5:=⟨by have:=l2.1;omega,fun c hc=>by rw[k5' c (by have:=l2.1;omega) (fun q n c' e=>by have:=(hal q n c' e).1;omega)];exact l2.2 c hc⟩
    have hrow5:∀ i,i<k→s5.at' (rb i)=some (.cells (rows (fun _=>rsitC s0 (.slice none 0 0)) (nnL L i)) 182 true):=fun i hi=>by
     obtain⟨h1,h2,h3⟩:=hrb i hi
     rw[k5' _ h2 (fun q n c e=>by
      rcases hsl with ⟨_,_,e2⟩|⟨b,junk,e2,h4,_⟩
      ·rw[e2]at e;cases e
      ·rw[e2]at e;cases e
       exact at_apart h3 h4 (by decide))]
     exact h3
    refine⟨_,Nat.sub_lt_sub_left hlt (Nat.lt_succ_self k),k+1,_,fun i=>if i=k then s2.next else rb i,rfl,by omega,rfl,lP hl5 (by omega),by omega,rfl,.inr ⟨s2.next+2,[],rfl,?_,?_⟩,fun q n c e=>?_,fun i hi=>?_,fun i j hi hj e=>?_⟩
    ·rw[St.at_put,if_neg (by omega),List.append_nil]
     have b5:s5.at' (s2.next+2)=_:=b5
     rw[b5,rows_succ]
     congr 3
     ·refine rows_congr fun m hmk3=>?_
      have hmk4:m≠k:=Nat.ne_of_lt hmk3
      show _=[Value.slice (some ⟨if m=k then s2.next else rb m,0,none⟩) (nnL L m) (nnL L m)]
      rw[if_neg hmk4]
     ·show _=[Value.slice (some ⟨if k=k then s2.next else rb k,0,none⟩) (nnL L k) (nnL L k)]
      rw[if_pos rfl]
      try rfl
    ·rw[rows_len (k:=1) (fun _=>rfl)]
    ·cases e
     show s.next≤s2.next+2∧s2.next+2<s5.next
     omega
    ·show s.next+1≤(if i=k then s2.next else rb i)∧(if i=k then s2.next else rb i)<s5.next∧(if (if i=k then s2.next else rb i)=s.next then _ else s5.at' (if i=k then s2.next else rb i))=_
     by_cases e:i=k
     ·subst e
      rw[if_pos rfl,if_neg (by omega)]
      exact⟨by omega,by omega,hr5⟩
     ·rw[if_neg e]
      have h1:=hrb i (by omega)
      rw[if_neg (by omega)]
      exact⟨h1.1,by omega,hrow5 i (by omega)⟩
    ·have e:(if i=k then s2.next else rb i)=(if j=k then s2.next else rb j):=e
     by_cases e1:i=k
     ·by_cases e2:j=k
      ·omega
      ·rw[if_pos e1,if_neg e2]at e
       have:=(hrb j (by omega)).2.1;omega
     ·by_cases e2:j=k
      ·rw[if_neg e1,if_pos e2]at e
       have:=(hrb i (by omega)).2.1;omega
      ·rw[if_neg e1,if_neg e2]at e
       exact hinj i j (by omega) (by omega) e
   ·have hn:L.getD k 0=((nnL L k:Nat):Int):=by unfold nnL;omega
    rw[hn]at x1 x2 hLk
    simp -implicitDefEqProofs only[↓Zd,(Zp),simprocAttr,cld2,(HEx),(REx),(RTx),e0,e3,e4,hlt',hkk,hL2,hLk,hT,x1,x2,↓f_mks,hmk2,rrowSl,Nat.add_zero,ord15]
    have hsl5:SlU 107 1 (s2.new (.cells (rows (fun _=>rsitC s0 (.slice none 0 0)) (nnL L k)) 182 true)) (.slice qa qn qc) (rows (fun i=>[.slice (some ⟨rb i,0,none⟩) (nnL L i) (nnL L i)]) k) k:=hsl.same fun q n c e=>by
     have:=(hal q n c e).2
     rw[St.at_new,if_neg (by omega)]
    refine wch_appRRow (s:=s2.new (.cells (rows (fun _=>rsitC s0 (.slice none 0 0)) (nnL L k)) 182 true)) rfl (by simp[okc_slice]) (by omega) hsl5 (fun q n c e=>by have:=(hal q n c e).2;simp only[St.next_new];omega) fun s5 n5 b5 k5=>?_
    simp only[St.next_new]at n5 b5 k5
    have k5':∀ b,b<s2.next→(∀ q n c,Value.slice qa qn qc = .slice (some q) n c→b≠q.block)→s5.at' b=s2.at' b:=fun b hb hq=>by
     rw[k5 b (by omega) hq,St.at_new,if_neg (by omega)]
    have hT5:=(k5' s.next (by omega) hTb).trans hT
    have hr5:s5.at' s2.next=some (.cells (rows (fun _=>rsitC s0 (.slice none 0 0)) (nnL L k)) 182 true):=by
     rw[k5 s2.next (by omega) (fun q n c e=>by have:=(hal q n c e).2;omega),St.at_new,if_pos rfl]
    simp -implicitDefEqProofs only[↓Zd,(Zp),simprocAttr,qP,Value.cells,qC,(RTx),e0,e3,e4,hT5,w1,Nat.add_zero]
    have hl5:s.le s5:=⟨by have:=l2.1;omega,fun c hc=>by rw[k5' c (by have:=l2.1;omega) (fun q n c' e=>by have:=(hal q n c' e).1;omega)];exact l2.2 c hc⟩
    have hrow5:∀ i,i<k→s5.at' (rb i)=some (.cells (rows (fun _=>rsitC s0 (.slice none 0 0)) (nnL L i)) 182 true):=fun i hi=>by
     obtain⟨h1,h2,h3⟩:=hrb i hi
     rw[k5' _ h2 (fun q n c e=>by
      rcases hsl with ⟨_,_,e2⟩|⟨b,junk,e2,h4,_⟩
      ·rw[e2]at e;cases e
      ·rw[e2]at e;cases e
       exact at_apart h3 h4 (by decide))]
     exact h3
    refine⟨_,Nat.sub_lt_sub_left hlt (Nat.lt_succ_self k),k+1,_,fun i=>if i=k then s2.next else rb i,rfl,by omega,rfl,lP hl5 (by omega),by omega,rfl,.inr ⟨s2.next+2,[],rfl,?_,?_⟩,fun q n c e=>?_,fun i hi=>?_,fun i j hi hj e=>?_⟩
    ·rw[St.at_put,if_neg (by omega),List.append_nil]
     have b5:s5.at' (s2.next+2)=_:=b5
     rw[b5,rows_succ]
     congr 3
     ·refine rows_congr fun m hmk3=>?_
      have hmk4:m≠k:=Nat.ne_of_lt hmk3
      show _=[Value.slice (some ⟨if m=k then s2.next else rb m,0,none⟩) (nnL L m) (nnL L m)]
      rw[if_neg hmk4]
     ·show _=[Value.slice (some ⟨if k=k then s2.next else rb k,0,none⟩) (nnL L k) (nnL L k)]
      rw[if_pos rfl]
      try rfl
    ·rw[rows_len (k:=1) (fun _=>rfl)]
    ·cases e
     show s.next≤s2.next+2∧s2.next+2<s5.next
     omega
    ·show s.next+1≤(if i=k then s2.next else rb i)∧(if i=k then s2.next else rb i)<s5.next∧(if (if i=k then s2.next else rb i)=s.next then _ else s5.at' (if i=k then s2.next else rb i))=_
     by_cases e:i=k
     ·subst e
      rw[if_pos rfl,if_neg (by omega)]
      exact⟨by omega,by omega,hr5⟩
     ·rw[if_neg e]
      have h1:=hrb i (by omega)
      rw[if_neg (by omega)]
      exact⟨h1.1,by omega,hrow5 i (by omega)⟩
    ·have e:(if i=k then s2.next else rb i)=(if j=k then s2.next else rb j):=e
     by_cases e1:i=k
     ·by_cases e2:j=k
      ·omega
      ·rw[if_pos e1,if_neg e2]at e
       have:=(hrb j (by omega)).2.1;omega
     ·by_cases e2:j=k
      ·rw[if_neg e1,if_pos e2]at e
       have:=(hrb i (by omega)).2.1;omega
      ·rw[if_neg e1,if_neg e2]at e
       exact hinj i j (by omega) (by omega) e
 ·have hlt':¬ (k:Int)<(L.length:Int):=by omega
  have hkl:k=L.length:=by omega
  subst hkl
  simp -implicitDefEqProofs only[↓Zd,(Zp),simprocAttr,(REx),e0,e3,e4,hlt']
  exact hR s2 s.next (fun b=>s.next≤b∧b<s2.next) ⟨_,rb,nnL L,fun _ _ => .slice none 0 0,fun b hb=>hb,⟨by omega,by omega⟩,hT,⟨Nat.le_refl _,Nat.le_refl _⟩,hsl,fun q n c e=>hal q n c e,fun i hi=>⟨by have:=hrb i hi;omega,(hrb i hi).2.1⟩,fun i hi=>(hrb i hi).2.2,hinj,fun i j hi hj=>⟨fun _ => .slice none 0 0,.inl ⟨rfl,rfl,rfl⟩,fun q n c e=>(by cases e),fun m hm=>absurd hm (Nat.not_lt_zero _),fun _=>rfl⟩,fun i j i' j' q n c q' n' c' h1 h2 h3 h4 e=>(by cases e),⟨hm,fun i hi=>(by show nnL L i≤4000;unfold nnL;omega)⟩⟩ l2
end
section
variable {lo t N:Nat}{T:Tab}{O:Nat→Prop}{al:Value}{rb cp:Nat→Nat}{sl:Nat→Nat→Value}
theorem ents_more{Y:STy}{s5:St M}{O5:Nat→Prop}{es:List Ent}{e:Ent}{dlf:Nat→Value}{dl:Value}{nb:Nat}(h3:∀ j,j<es.length→DepsAt Y s5 O5 (dlf j) (es.getD j e0).deps)
  (hb:s5.at' nb=some (.cells (rows (fun j=>entC (es.getD j e0) (dlf j)) es.length++entC e dl) Y.tE true))(hO:O5 nb)(hD:DepsAt Y s5 O5 dl e.deps):EntsAt Y s5 O5 (.slice (some ⟨nb,0,none⟩) (es.length+1) UNK) (es ++ [e]):=by
 refine⟨fun m=>if m<es.length then dlf m else dl,.inr ⟨nb,[],by simp,?_,rows_len (k:=5) (fun _=>rfl) _⟩,fun q n c e=>(by cases e;exact hO),fun m hm=>?_,fun h=>by simp at h⟩
 ·rw[hb,List.append_nil]
  show _=some (Blk.cells (rows _ (es ++ [e]).length) _ true)
  rw[List.length_append,List.length_cons,List.length_nil,Nat.zero_add,rows_succ]
  congr 3
  ·refine rows_congr fun m hm=>?_
   show _=entC ((es ++ [e]).getD m e0) (if m<es.length then dlf m else dl)
   rw[if_pos hm,List.getD_eq_getElem?_getD,List.getD_eq_getElem?_getD,List.getElem?_append_left hm]
  ·show _=entC ((es ++ [e]).getD es.length e0) (if es.length<es.length then dlf _ else dl)
   rw[if_neg (Nat.lt_irrefl _),List.getD_eq_getElem?_getD,List.getElem?_append_right (Nat.le_refl _),Nat.sub_self]
   rfl
 ·show DepsAt Y _ _ (if m<es.length then dlf m else dl) ((es ++ [e]).getD m e0).deps
  have hm:m<(es ++ [e]).length:=hm
  rw[List.length_append,List.length_cons,List.length_nil]at hm
  by_cases em:m<es.length
  ·rw[if_pos em,List.getD_eq_getElem?_getD,List.getElem?_append_left em,← List.getD_eq_getElem?_getD]
   exact h3 m em
  ·have:m=es.length:=by omega
   subst this
   rw[if_neg em,List.getD_eq_getElem?_getD,List.getElem?_append_right (Nat.le_refl _),Nat.sub_self]
   exact hD
theorem tname_spec(h:SAt PY lo s t T N O al rb cp sl)(hfs:0<T.fs){f k:Int}(hno:¬ hasT T f k→R (.tuple #[.string ⟨#[]⟩,.bool false,.bool false]) s)
  (hyes:hasT T f k→R (if (siteAt T f k).used=true∧(siteAt T f k).mega=false then .tuple #[.string (siteAt T f k).name,.bool (siteAt T f k).sets,.bool true] else .tuple #[.string ⟨#[]⟩,.bool false,.bool false]) s) :
  QC prog w0 81 #[.pointer (some ⟨t,0,none⟩),.int .i64 f,.int .i64 k] s R:=by
 refine wfun2 hmix ok81 func81 rfl ntmps81 results81 (by simp) ?_
 simp -implicitDefEqProofs only[↓Zd,(Zp),simprocAttr,co36]
 refine sfind_spec h hfs (fun hnot=>?_) (fun i j hf hk hi hj hhas=>?_)
 ·simp -implicitDefEqProofs only[↓Zd,(Zp),simprocAttr,(STx)]
  exact hno hnot
 ·subst hf hk
  have hR:=hyes hhas
  rw[siteAt_nat]at hR
  have hr:s.at' (rb i)=some (.cells (rows (fun m=>sitC (T.st i m) (sl i m)) (T.n i)) 96 true):=h.row i hi
  have g0:(rows (fun m=>sitC (T.st i m) (sl i m)) (T.n i))[j*5]?=some (.bool (T.st i j).used):=rows_get0 (c:=fun m=>sitC (T.st i m) (sl i m)) (k:=5) (fun _=>rfl) hj (j:=0) (by omega)
  have g1:(rows (fun m=>sitC (T.st i m) (sl i m)) (T.n i))[j*5+1]?=some (.bool (T.st i j).sets):=rows_get0 (c:=fun m=>sitC (T.st i m) (sl i m)) (k:=5) (fun _=>rfl) hj (j:=1) (by omega)
  have g2:(rows (fun m=>sitC (T.st i m) (sl i m)) (T.n i))[j*5+2]?=some (.bool (T.st i j).mega):=rows_get0 (c:=fun m=>sitC (T.st i m) (sl i m)) (k:=5) (fun _=>rfl) hj (j:=2) (by omega)
  have g3:(rows (fun m=>sitC (T.st i m) (sl i m)) (T.n i))[j*5+3]?=some (.string (T.st i j).name):=rows_get0 (c:=fun m=>sitC (T.st i m) (sl i m)) (k:=5) (fun _=>rfl) hj (j:=3) (by omega)
  cases hu:(T.st i j).used with
  |false =>
   rw[hu]at g0
   rw[if_neg (fun hc=>by rw[hu]at hc;cases hc.1)]at hR
   simp -implicitDefEqProofs only[↓Zd,(Zp),simprocAttr,cld2,(HEx),(STx),hr,g0,Nat.add_zero]
   exact hR
  |true =>
   rw[hu]at g0
   cases hm:(T.st i j).mega with
   |true =>
    rw[hm]at g2
    rw[if_neg (fun hc=>by rw[hm]at hc;cases hc.2)]at hR
    simp -implicitDefEqProofs only[↓Zd,(Zp),simprocAttr,cld2,(HEx),(STx),hr,g0,g2,Nat.add_zero]
    exact hR
   |false =>
    rw[hm]at g2
    rw[if_pos ⟨hu,hm⟩]at hR
    simp -implicitDefEqProofs only[↓Zd,(Zp),simprocAttr,cld2,(HEx),(STx),hr,g0,g1,g2,g3,Nat.add_zero,ord81]
    exact hR
theorem tstate_spec(h:SAt PY lo s t T N O al rb cp sl)(hfs:0<T.fs){f k:Int}(hfew:hasT T f k→(siteAt T f k).es.length≤4∧∀ e∈(siteAt T f k).es,e.deps.length≤1000)(hno:¬ hasT T f k→R (.tuple #[.int .i64 0,.slice none 0 0]) s)
  (hmega:hasT T f k→(siteAt T f k).mega=true→R (.tuple #[.int .i64 3,.slice none 0 0]) s)
  (hyes:hasT T f k→(siteAt T f k).mega=false→∀ s' v,s.le s'→EntsAt PY s' (fun b=>s.next≤b∧b<s'.next) v (siteAt T f k).es→R (.tuple #[.int .i64 (min ((siteAt T f k).es.length:Int) 2),v]) s') :
  QC prog w0 13 #[.pointer (some ⟨t,0,none⟩),.int .i64 f,.int .i64 k] s R:=by
 refine wfun2 hmix ok13 func13 rfl ntmps13 results13 (by simp) ?_
 simp -implicitDefEqProofs only[↓Zd,(Zp),simprocAttr,co36]
 refine sfind_spec h hfs (fun hnot=>?_) (fun i j hf hk hi hj hhas=>?_)
 ·simp -implicitDefEqProofs only[↓Zd,(Zp),simprocAttr,(STx)]
  exact hno hnot
 subst hf hk
 have hR2:=hmega hhas
 have hR3:=hyes hhas
 have hfew:=hfew hhas
 rw[siteAt_nat]at hR2 hR3 hfew
 have hr:s.at' (rb i)=some (.cells (rows (fun m=>sitC (T.st i m) (sl i m)) (T.n i)) 96 true):=h.row i hi
 have g2:(rows (fun m=>sitC (T.st i m) (sl i m)) (T.n i))[j*5+2]?=some (.bool (T.st i j).mega):=rows_get0 (c:=fun m=>sitC (T.st i m) (sl i m)) (k:=5) (fun _=>rfl) hj (j:=2) (by omega)
 have g4:(rows (fun m=>sitC (T.st i m) (sl i m)) (T.n i))[j*5+4]?=some (sl i j):=rows_get0 (c:=fun m=>sitC (T.st i m) (sl i m)) (k:=5) (fun _=>rfl) hj (j:=4) (by omega)
 cases hm:(T.st i j).mega with
 |true =>
  rw[hm]at g2
  simp -implicitDefEqProofs only[↓Zd,(Zp),simprocAttr,cld2,(HEx),(STx),hr,g2]
  exact hR2 hm
 |false =>
  rw[hm]at g2
  replace hR3:=hR3 hm
  have hE:=h.es i j hi hj
  generalize (T.st i j).es=es at hR3 hE hfew
  have hOn:∀ b,O b→b<s.next:=fun b hb=>(h.own b hb).2
  obtain⟨sq,sc,hv⟩:∃ q c,sl i j = .slice q es.length c:=by
   obtain⟨dl,h1,_⟩:=hE
   rcases h1 with ⟨e,_,e2⟩|⟨b,_,e2,_⟩
   ·exact⟨none,0,by rw[e2,e]⟩
   ·exact⟨_,_,e2⟩
  replace g4:=g4.trans (congrArg some hv)
  rw[hv]at hE
  obtain⟨dlf,h1,h2,h3,h4⟩:=hE
  simp -implicitDefEqProofs only[↓Zd,(Zp),simprocAttr,cld2,(HEx),(STx),hr,g2,g4]
  refine wloop_inv hmix (fun fuel env s'=>env 25 = .slice sq es.length sc∧env 26 = .int .i64 (es.length:Int)∧∃ (m:Nat) (ov:Value),env 27 = .int .i64 (m:Int)∧env 9=ov∧m≤es.length∧fuel=es.length - m∧s.le s'∧EntsAt PY s' (fun b=>s.next≤b∧b<s'.next) ov (es.take m)) (es.length - 0) ⟨rfl,rfl,0,_,rfl,rfl,Nat.zero_le _,rfl,lR _,⟨fun _ => .slice none 0 0,.inl ⟨rfl,rfl,rfl⟩,fun q n c e=>(by cases e),fun m hm=>absurd hm (Nat.not_lt_zero _),fun _=>rfl⟩⟩ ?_
  rintro fuel env s2 ⟨e25,e26,m,ov,e27,e9,hm2,rfl,hs2,hE2⟩
  have n2:=hs2.1
  obtain⟨oq,oc,hov⟩:∃ q c,ov = .slice q (es.take m).length c:=by
   obtain⟨dl,h1,_⟩:=hE2
   rcases h1 with ⟨e,_,e2⟩|⟨b,_,e2,_⟩
   ·exact⟨none,0,by rw[e2,e]⟩
   ·exact⟨_,_,e2⟩
  have htl:(es.take m).length=m:=by rw[List.length_take];omega
  rw[htl]at hov
  by_cases hlt:m<es.length
  ·have hlt':(m:Int)<(es.length:Int):=by omega
   have hkk:(0:Int)≤(m:Int)∧(m:Int)<(es.length:Int):=by omega
   have w1:IntKind.i64.wrap ((m:Int)+1)=((m+1:Nat):Int):=by rw[wrap_i64 (by omega)];omega
   rcases h1 with ⟨h0,_,_⟩|⟨eb,junk,hq,ge,_⟩
   ·omega
   cases hq
   have hebn:eb<s.next:=hOn _ (h2 _ _ _ rfl)
   have ge2:s2.at' eb=some (.cells (rows (fun j=>entC (es.getD j e0) (dlf j)) es.length++junk) 51 true):=(hs2.2 eb hebn).trans ge
   obtain⟨hle5,htk5⟩:=rows_cut (c:=fun j=>entC (es.getD j e0) (dlf j)) (k:=5) (fun _=>rfl) junk hlt
   have hD:=h3 m hlt
   generalize hem:es.getD m e0=e at hD htk5
   obtain⟨qa,qn,qc,hdl⟩:=hD.form
   rw[hdl]at hD htk5
   have htk:List.take 5 (List.drop (m*5) (rows (fun j=>entC (es.getD j e0) (dlf j)) es.length++junk))=[.int .i64 (e.shape:Int),.int .i64 e.holder,.int .i64 e.slot,.int .i64 (e.to:Int),.slice qa qn qc]:=htk5
   simp -implicitDefEqProofs only[↓Zd,(Zp),simprocAttr,qP,Value.cells,cut,qC,cld2,(STx),e25,e26,e27,hlt',hkk,ge2,hle5,htk,co37]
   have l3:s2.le ((s2.new (.cells [.int .i64 0,.int .i64 0,.int .i64 0,.int .i64 0,.slice none 0 0] 51 true)).put s2.next (.cells [.int .i64 (e.shape:Int),.int .i64 e.holder,.int .i64 e.slot,.int .i64 (e.to:Int),.slice qa qn qc] 51 true)):=(by repeat (first|exact lR _|assumption|refine lN ?_|refine lP ?_ (by first|omega|(simp only[(Sn)];omega))|refine lT ?_ (by assumption)))
   have c3:((s2.new (.cells [.int .i64 0,.int .i64 0,.int .i64 0,.int .i64 0,.slice none 0 0] 51 true)).put s2.next (.cells [.int .i64 (e.shape:Int),.int .i64 e.holder,.int .i64 e.slot,.int .i64 (e.to:Int),.slice qa qn qc] 51 true)).at' s2.next=some (.cells [.int .i64 (e.shape:Int),.int .i64 e.holder,.int .i64 e.slot,.int .i64 (e.to:Int),.slice qa qn qc] 51 true):=by rw[St.at_put,if_pos rfl]
   have n3:((s2.new (.cells [.int .i64 0,.int .i64 0,.int .i64 0,.int .i64 0,.slice none 0 0] 51 true)).put s2.next (.cells [.int .i64 (e.shape:Int),.int .i64 e.holder,.int .i64 e.slot,.int .i64 (e.to:Int),.slice qa qn qc] 51 true)).next=s2.next+1:=rfl
   generalize (s2.new (.cells [.int .i64 0,.int .i64 0,.int .i64 0,.int .i64 0,.slice none 0 0] 51 true)).put s2.next (.cells [.int .i64 (e.shape:Int),.int .i64 e.holder,.int .i64 e.slot,.int .i64 (e.to:Int),.slice qa qn qc] 51 true)=s3 at l3 c3 n3 ⊢
   have htm:es.take (m+1)=es.take m ++ [e]:=by
    rw[List.take_add_one,List.getElem?_eq_getElem hlt,← hem,getD_at hlt];rfl
   rw[hov]at e9 hE2
   obtain⟨odl,o1,o2,o3,o4⟩:=hE2
   rw[htl]at o1
   rcases hD with ⟨d1,d2,d3⟩
   rcases d1 with ⟨d4,_,d5⟩|⟨db,junk2,d5,d6,d7⟩
   ·cases d5
    refine cloneDep0 ?_
    have hDN:∀ s':St M,DepsAt PY s' (fun b=>s.next≤b∧b<s'.next) (.slice none 0 0) e.deps:=fun s'=>⟨.inl ⟨d4,by rw[d4];rfl,rfl⟩,fun q n c e=>(by cases e),fun _=>rfl⟩
    have c4:=c3
    have l34:=lR s3
    have n4:=l34.1
    simp -implicitDefEqProofs only[↓Zd,(Zp),simprocAttr,qP,Value.cells,cut,qC,cld2,(STx),e9,c4,rowEnt]
    have hfrO:∀ q n c,Value.slice oq m oc = .slice (some q) n c→q.block<(s3.put s2.next (.cells [.int .i64 (e.shape:Int),.int .i64 e.holder,.int .i64 e.slot,.int .i64 (e.to:Int),.slice none 0 0] 51 true)).next:=fun q n c e=>by have:=(o2 q n c e).2;simp only[St.next_put];omega
    refine wch_appEnt rfl (by simp[qC]) (by omega) (SlU.same o1 fun q n c e=>?_) hfrO fun s6 n6 b6 k6=>?_
    ·have:=(o2 q n c e).2
     rw[St.at_put,if_neg (by omega),l34.2 _ (by omega),l3.2 _ (by omega)]
    simp only[St.next_put]at n6 b6 k6
    have hk6:∀ b,b<s3.next→b≠s2.next→(∀ q n c,Value.slice oq m oc = .slice (some q) n c→b≠q.block)→s6.at' b=s3.at' b:=fun b hb hne hq=>by rw[k6 b hb hq,St.at_put,if_neg hne]
    simp -implicitDefEqProofs only[↓Zd,(Zp),simprocAttr,e25,e26,e27,w1]
    have hl6:s.le s6:=⟨by omega,fun c hc=>by rw[hk6 c (by omega) (by omega) (fun q n c' e=>by have:=(o2 q n c' e).1;omega),l34.2 c (by omega),l3.2 c (by omega)];exact hs2.2 c hc⟩
    refine⟨_,Nat.sub_lt_sub_left hlt (Nat.lt_succ_self m),m+1,_,rfl,rfl,by omega,rfl,hl6,?_⟩
    rw[htm]
    have hko:∀ q,q<(es.take m).length→DepsAt PY s6 (fun b=>s.next≤b∧b<s6.next) (odl q) ((es.take m).getD q e0).deps:=by
     intro q hq
     refine (o3 q hq).keep (fun b hb=>⟨hb.1,by omega⟩) fun b cs hb h5=>?_
     rw[hk6 b (by omega) (by omega) (fun q n c e=>?_),l34.2 b (by omega),l3.2 b (by omega)]
     rcases o1 with ⟨_,_,e3⟩|⟨ob,junk3,e3,h6,_⟩
     ·rw[e3]at e;cases e
     ·rw[e3]at e;cases e
      exact at_apart h5 h6 (by decide)
    have hmm:=ents_more (Y:=PY) (s5:=s6) (O5:=fun b=>s.next≤b∧b<s6.next) (es:=es.take m) (e:=e) (dlf:=odl) (dl := .slice none 0 0) (nb:=s3.next+1) hko (by rw[htl];exact b6) ⟨by omega,by omega⟩ (hDN _)
    rw[htl]at hmm
    exact hmm
   ·cases d5
    have hdbn:db<s.next:=hOn _ (d2 _ _ _ rfl)
    refine cloneDep1 (cs:=rows (fun j=>depC (e.deps.getD j (0,0))) e.deps.length) (junk:=junk2) (fun h0=>by have:=d3 (List.length_eq_zero_iff.1 h0);cases this) ?_ (rows_ok fun _ _=>rfl) ?_ (by omega) (rows_len (k:=2) (fun _=>rfl) _) fun s4 cb hcb hn4 l34 hc4=>?_
    ·have:=hfew.2 e (by rw[← hem,getD_at hlt];exact List.getElem_mem hlt)
     omega
    ·rw[l3.2 db (by omega),hs2.2 db hdbn];exact d6
    have c4:=(l34.2 s2.next (by omega)).trans c3
    have hDN:∀ s':St M,s4.next≤s'.next→s'.at' cb=s4.at' cb→DepsAt PY s' (fun b=>s.next≤b∧b<s'.next) (.slice (some ⟨cb,0,none⟩) e.deps.length UNK) e.deps:=fun s' hn' hat=>⟨.inr ⟨cb,[],rfl,by rw[hat,hc4,List.append_nil];rfl,rows_len (k:=2) (fun _=>rfl) _⟩,fun q n c e=>(by cases e;exact⟨by show s.next≤cb;omega,by show cb<s'.next;omega⟩),fun h0=>(by have:=d3 h0;cases this)⟩
    have n4:=l34.1
    simp -implicitDefEqProofs only[↓Zd,(Zp),simprocAttr,qP,Value.cells,cut,qC,cld2,(STx),e9,c4,rowEnt]
    have hfrO:∀ q n c,Value.slice oq m oc = .slice (some q) n c→q.block<(s4.put s2.next (.cells [.int .i64 (e.shape:Int),.int .i64 e.holder,.int .i64 e.slot,.int .i64 (e.to:Int),.slice (some ⟨cb,0,none⟩) e.deps.length UNK] 51 true)).next:=fun q n c e=>by have:=(o2 q n c e).2;simp only[St.next_put];omega
    refine wch_appEnt rfl (by simp[qC]) (by omega) (SlU.same o1 fun q n c e=>?_) hfrO fun s6 n6 b6 k6=>?_
    ·have:=(o2 q n c e).2
     rw[St.at_put,if_neg (by omega),l34.2 _ (by omega),l3.2 _ (by omega)]
    simp only[St.next_put]at n6 b6 k6
    have hk6:∀ b,b<s4.next→b≠s2.next→(∀ q n c,Value.slice oq m oc = .slice (some q) n c→b≠q.block)→s6.at' b=s4.at' b:=fun b hb hne hq=>by rw[k6 b hb hq,St.at_put,if_neg hne]
    simp -implicitDefEqProofs only[↓Zd,(Zp),simprocAttr,e25,e26,e27,w1]
    have hl6:s.le s6:=⟨by omega,fun c hc=>by rw[hk6 c (by omega) (by omega) (fun q n c' e=>by have:=(o2 q n c' e).1;omega),l34.2 c (by omega),l3.2 c (by omega)];exact hs2.2 c hc⟩
    refine⟨_,Nat.sub_lt_sub_left hlt (Nat.lt_succ_self m),m+1,_,rfl,rfl,by omega,rfl,hl6,?_⟩
    rw[htm]
    have hko:∀ q,q<(es.take m).length→DepsAt PY s6 (fun b=>s.next≤b∧b<s6.next) (odl q) ((es.take m).getD q e0).deps:=by
     intro q hq
     refine (o3 q hq).keep (fun b hb=>⟨hb.1,by omega⟩) fun b cs hb h5=>?_
     rw[hk6 b (by omega) (by omega) (fun q n c e=>?_),l34.2 b (by omega),l3.2 b (by omega)]
     rcases o1 with ⟨_,_,e3⟩|⟨ob,junk3,e3,h6,_⟩
     ·rw[e3]at e;cases e
     ·rw[e3]at e;cases e
      exact at_apart h5 h6 (by decide)
    have hmm:=ents_more (Y:=PY) (s5:=s6) (O5:=fun b=>s.next≤b∧b<s6.next) (es:=es.take m) (e:=e) (dlf:=odl) (dl := .slice (some ⟨cb,0,none⟩) e.deps.length UNK) (nb:=s4.next+1) hko (by rw[htl];exact b6) ⟨by omega,by omega⟩ (hDN _ (by omega) ((hk6 cb (by omega) (by omega) (fun q n c e=>by have:=(o2 q n c e).2;omega))))
    rw[htl]at hmm
    exact hmm
  ·have hlt':¬ (m:Int)<(es.length:Int):=by omega
   have hml:m=es.length:=by omega
   subst hml
   rw[List.take_length]at hE2
   have hmin:(if (2:Int)<(es.length:Int) then (2:Int) else (es.length:Int))=min (es.length:Int) 2:=by omega
   rw[hov]at e9
   simp -implicitDefEqProofs only[↓Zd,(Zp),simprocAttr,(STx),e9,e26,e27,hlt',↓o_min,bi_min,hmin]
   exact hR3 _ _ hs2 (by rw[← hov];exact hE2)
end
section
variable {lo t N:Nat}{T:Tab}{O:Nat→Prop}{al:Value}{rb cp:Nat→Nat}{sl:Nat→Nat→Value}
theorem rsit_get(h:SAt RY lo s t T N O al rb cp sl){i j:Nat}(hj:j<T.n i) :
  (rows (fun m=>rsitC (T.st i m) (sl i m)) (T.n i))[j*4]?=some (.int .i64 (forN (T.st i j)))∧(rows (fun m=>rsitC (T.st i m) (sl i m)) (T.n i))[j*4+1]?=some (.string (T.st i j).name)∧(rows (fun m=>rsitC (T.st i m) (sl i m)) (T.n i))[j*4+3]?=some (.bool (T.st i j).mega) ∧
  j*4+4≤(rows (fun m=>rsitC (T.st i m) (sl i m)) (T.n i)).length∧List.take 4 (List.drop (j*4) (rows (fun m=>rsitC (T.st i m) (sl i m)) (T.n i)))=[.int .i64 (forN (T.st i j)),.string (T.st i j).name,sl i j,.bool (T.st i j).mega]:=by
 obtain⟨h1,h2⟩:=rows_cut (c:=fun m=>rsitC (T.st i m) (sl i m)) (k:=4) (fun _=>rfl) [] hj
 rw[List.append_nil]at h1 h2
 exact⟨rows_get0 (c:=fun m=>rsitC (T.st i m) (sl i m)) (k:=4) (fun _=>rfl) hj (j:=0) (by omega),rows_get0 (c:=fun m=>rsitC (T.st i m) (sl i m)) (k:=4) (fun _=>rfl) hj (j:=1) (by omega),rows_get0 (c:=fun m=>rsitC (T.st i m) (sl i m)) (k:=4) (fun _=>rfl) hj (j:=3) (by omega),h1,h2⟩
theorem rstate_spec(h:SAt RY lo s t T N O al rb cp sl){f k:Int}(hno:¬ hasT T f k→R (.tuple #[.int .i64 0,.slice none 0 0]) s)
  (hmega:hasT T f k→(siteAt T f k).mega=true→∀ s',s.le s'→R (.tuple #[.int .i64 3,.slice none 0 0]) s')
  (hyes:hasT T f k→(siteAt T f k).mega=false→∀ s' v,s.le s'→EntsAt RY s' O v (siteAt T f k).es→R (.tuple #[.int .i64 (min ((siteAt T f k).es.length:Int) 2),v]) s') :
  QC prog w0 80 #[.pointer (some ⟨t,0,none⟩),.int .i64 f,.int .i64 k] s R:=by
 refine wfun2 hmix ok80 func80 rfl ntmps80 results80 (by simp) ?_
 have hb:s.at' t=some (.cells [al,.int .i64 (T.hits:Int),.int .i64 (T.misses:Int)] 106 true):=h.bl
 simp -implicitDefEqProofs only[↓Zd,(Zp),simprocAttr,co128]
 refine thas_spec h (fun hnot=>?_) (fun i j hf hk hi hj hhas=>?_)
 ·simp -implicitDefEqProofs only[↓Zd,(Zp),simprocAttr,(HEx)]
  exact hno hnot
 subst hf hk
 have hR2:=hmega hhas
 have hR3:=hyes hhas
 rw[siteAt_nat]at hR2 hR3
 obtain⟨b,junk,rfl,ha,hg,_⟩:=h.ab hi
 have hii:(0:Int)≤(i:Int)∧(i:Int)<(T.fs:Int):=by omega
 have hjj:(0:Int)≤(j:Int)∧(j:Int)<(T.n i:Int):=by omega
 have hr:s.at' (rb i)=some (.cells (rows (fun m=>rsitC (T.st i m) (sl i m)) (T.n i)) 182 true):=h.row i hi
 obtain⟨_,_,_,g4,g5⟩:=rsit_get h hj
 have hE:=h.es i j hi hj
 have hOn:∀ b,O b→b<s.next:=fun b hb=>(h.own b hb).2
 obtain⟨qa,qc,hv⟩:∃ q c,sl i j = .slice q (T.st i j).es.length c:=by
  obtain⟨dl,h1,_⟩:=hE
  rcases h1 with ⟨e,_,e2⟩|⟨b,_,e2,_⟩
  ·exact⟨none,0,by rw[e2,e]⟩
  ·exact⟨_,_,e2⟩
 rw[hv]at g5 hE
 cases hm:(T.st i j).mega with
 |true =>
  rw[hm]at g5
  simp -implicitDefEqProofs only[↓Zd,(Zp),simprocAttr,qP,Value.cells,cut,qC,cld2,(HEx),(RTx),hb,ha,hg,hii,hjj,hr,g4,g5,Nat.add_zero]
  exact hR2 hm _ (by repeat (first|exact lR _|assumption|refine lN ?_|refine lP ?_ (by first|omega|(simp only[(Sn)];omega))|refine lT ?_ (by assumption)))
 |false =>
  rw[hm]at g5
  replace hR3:=hR3 hm
  generalize (T.st i j).es=es at hR3 hE g5
  have hle:∀ cs,EntsAt RY ((s.new cs)) O (.slice qa es.length qc) es:=fun cs=>hE.keep (fun _ h=>h) fun b _ _ hb _ _=>by rw[St.at_new,if_neg (by have:=hOn b hb;omega)]
  have hle2:∀ cs cs',EntsAt RY ((s.new cs).put s.next cs') O (.slice qa es.length qc) es:=fun cs cs'=>hE.keep (fun _ h=>h) fun b _ _ hb _ _=>by rw[St.at_put,if_neg (by have:=hOn b hb;omega),St.at_new,if_neg (by have:=hOn b hb;omega)]
  by_cases h2:(1:Int)<(es.length:Int)
  ·have hmin:min (es.length:Int) 2=2:=by omega
   rw[hmin]at hR3
   simp -implicitDefEqProofs only[↓Zd,(Zp),simprocAttr,qP,Value.cells,cut,qC,cld2,(HEx),(RTx),hb,ha,hg,hii,hjj,hr,g4,g5,h2,Nat.add_zero,ord80]
   exact hR3 _ _ (lP (lN (lR _)) (Nat.le_refl _)) (hle2 _ _)
  ·have hmin:min (es.length:Int) 2=(es.length:Int):=by omega
   rw[hmin]at hR3
   simp -implicitDefEqProofs only[↓Zd,(Zp),simprocAttr,qP,Value.cells,cut,qC,cld2,(HEx),(RTx),hb,ha,hg,hii,hjj,hr,g4,g5,h2,Nat.add_zero,ord80]
   exact hR3 _ _ (lP (lN (lR _)) (Nat.le_refl _)) (hle2 _ _)
theorem tfixed_spec(h:SAt RY lo s t T N O al rb cp sl){f k:Int}(hno:¬ hasT T f k→R (.tuple #[.string ⟨#[]⟩,.bool false,.bool false]) s)
  (hyes:hasT T f k→R (if (siteAt T f k).used=true∧(siteAt T f k).mega=false then .tuple #[.string (siteAt T f k).name,.bool (siteAt T f k).sets,.bool true] else .tuple #[.string ⟨#[]⟩,.bool false,.bool false]) s) :
  QC prog w0 82 #[.pointer (some ⟨t,0,none⟩),.int .i64 f,.int .i64 k] s R:=by
 refine wfun2 hmix ok82 func82 rfl ntmps82 results82 (by simp) ?_
 have hb:s.at' t=some (.cells [al,.int .i64 (T.hits:Int),.int .i64 (T.misses:Int)] 106 true):=h.bl
 simp -implicitDefEqProofs only[↓Zd,(Zp),simprocAttr,co128]
 refine thas_spec h (fun hnot=>?_) (fun i j hf hk hi hj hhas=>?_)
 ·simp -implicitDefEqProofs only[↓Zd,(Zp),simprocAttr,(HEx)]
  exact hno hnot
 subst hf hk
 have hR:=hyes hhas
 rw[siteAt_nat]at hR
 obtain⟨b,junk,rfl,ha,hg,_⟩:=h.ab hi
 have hii:(0:Int)≤(i:Int)∧(i:Int)<(T.fs:Int):=by omega
 have hjj:(0:Int)≤(j:Int)∧(j:Int)<(T.n i:Int):=by omega
 have hr:s.at' (rb i)=some (.cells (rows (fun m=>rsitC (T.st i m) (sl i m)) (T.n i)) 182 true):=h.row i hi
 obtain⟨g0,g1,g3,_,_⟩:=rsit_get h hj
 cases hu:(T.st i j).used with
 |false =>
  rw[if_neg (fun hc=>by rw[hu]at hc;cases hc.1)]at hR
  have hfn:forN (T.st i j)=0:=by unfold forN;rw[hu];rfl
  rw[hfn]at g0
  simp -implicitDefEqProofs only[↓Zd,(Zp),simprocAttr,cld2,(HEx),(RTx),hb,ha,hg,hii,hjj,hr,g0,Nat.add_zero]
  exact hR
 |true =>
  have hf0:¬ forN (T.st i j)=0:=by unfold forN;rw[hu];split<;>(try split)<;>simp_all
  have hf2:decide (forN (T.st i j)=2)=(T.st i j).sets:=by unfold forN;rw[hu];cases (T.st i j).sets<;>rfl
  cases hm:(T.st i j).mega with
  |true =>
   rw[hm]at g3
   rw[if_neg (fun hc=>by rw[hm]at hc;cases hc.2)]at hR
   simp -implicitDefEqProofs only[↓Zd,(Zp),simprocAttr,cld2,(HEx),(RTx),hb,ha,hg,hii,hjj,hr,g0,g3,hf0,Nat.add_zero]
   exact hR
  |false =>
   rw[hm]at g3
   rw[if_pos ⟨hu,hm⟩,← hf2]at hR
   simp -implicitDefEqProofs only[↓Zd,(Zp),simprocAttr,cld2,(HEx),(RTx),hb,ha,hg,hii,hjj,hr,g0,g1,g3,hf0,Nat.add_zero,ord82]
   exact hR
end
def stE(T:Tab)(f k:Int):List Ent:=if hasT T f k∧(siteAt T f k).mega=false then (siteAt T f k).es else []
def stN(T:Tab)(f k:Int):Int:=if hasT T f k then if (siteAt T f k).mega=true then 3 else min ((siteAt T f k).es.length:Int) 2 else 0
def nmB(T:Tab)(f k:Int):Bool:=decide (hasT T f k) && (siteAt T f k).used && !(siteAt T f k).mega
def nmX(T:Tab)(f k:Int):ByteArray:=if nmB T f k=true then (siteAt T f k).name else ⟨#[]⟩
def nmS(T:Tab)(f k:Int):Bool:=if nmB T f k=true then (siteAt T f k).sets else false
theorem TabOk.few0{H:Hp}{T:Tab}(h:TabOk H T)(hH:HOk H)(hF:FOk H.F){f k:Int}(hhas:hasT T f k):(siteAt T f k).es.length≤4∧∀ e∈(siteAt T f k).es,e.deps.length≤1000:=by
 have hz:=h.has hhas
 refine⟨hz.few,fun e he=>?_⟩
 cases hs:(siteAt T f k).sets with
 |false=>have:=((hz.gets hs e he).small hH hF).2.2.2.2.1;omega
 |true =>
  have:=(hz.sets hs e he).2.2.1
  rw[this];exact Nat.zero_le _
theorem TabOk.few{H:Hp}{T:Tab}(h:TabOk H T)(hH:HOk H)(hF:FOk H.F)(f k:Int):(stE T f k).length≤4∧∀ e∈stE T f k,e.deps.length≤1000:=by
 unfold stE
 split
 ·rename_i hc
  exact h.few0 hH hF hc.1
 ·exact⟨Nat.zero_le _,fun e he=>by cases he⟩
section
variable {lo t N:Nat}{T:Tab}{O:Nat→Prop}
theorem ents_nil(Y:STy)(s:St M)(O:Nat→Prop):EntsAt Y s O (.slice none 0 0) []:=⟨fun _ => .slice none 0 0,.inl ⟨rfl,rfl,rfl⟩,fun q n c e=>(by cases e),fun m hm=>absurd hm (Nat.not_lt_zero _),fun _=>rfl⟩
theorem tstate2_spec(h:STab PY lo s t T N O)(hfs:0<T.fs){f k:Int}{H:Hp}(hT:TabOk H T)(hH:HOk H)(hF:FOk H.F)
  (hR:∀ s' v,s.le s'→EntsAt PY s' (fun b=>s.next≤b∧b<s'.next) v (stE T f k)→R (.tuple #[.int .i64 (stN T f k),v]) s') :
  QC prog w0 13 #[.pointer (some ⟨t,0,none⟩),.int .i64 f,.int .i64 k] s R:=by
 obtain⟨al,rb,cp,sl,h⟩:=h
 cases hm:(siteAt T f k).mega with
 |true =>
  have he:stE T f k=[]:=by unfold stE;rw[if_neg (fun hc=>by rw[hm]at hc;cases hc.2)]
  rw[he]at hR
  unfold stN at hR
  refine tstate_spec h hfs (fun hhas=>hT.few0 hH hF hhas) (fun hno=>?_) (fun hhas _=>?_) (fun _ h0=>by rw[hm]at h0;cases h0)
  ·rw[if_neg hno]at hR
   exact hR s _ (lR _) (ents_nil _ _ _)
  ·rw[if_pos hhas,if_pos hm]at hR
   exact hR s _ (lR _) (ents_nil _ _ _)
 |false =>
  unfold stE stN at *
  refine tstate_spec h hfs (fun hhas=>hT.few0 hH hF hhas) (fun hno=>?_) (fun _ h0=>by rw[hm]at h0;cases h0) (fun hhas _ s' v h1 h2=>?_)
  ·rw[if_neg hno,if_neg (fun hc=>hno hc.1)]at hR
   exact hR s _ (lR _) (ents_nil _ _ _)
  ·rw[if_pos hhas,if_pos ⟨hhas,hm⟩,if_neg (fun hc=>by rw[hm]at hc;cases hc)]at hR
   exact hR s' v h1 h2
theorem rstate2_spec(h:STab RY lo s t T N O){f k:Int}
  (hR:∀ s' v,s.le s'→EntsAt RY s' O v (stE T f k)→R (.tuple #[.int .i64 (stN T f k),v]) s') :
  QC prog w0 80 #[.pointer (some ⟨t,0,none⟩),.int .i64 f,.int .i64 k] s R:=by
 obtain⟨al,rb,cp,sl,h⟩:=h
 cases hm:(siteAt T f k).mega with
 |true =>
  have he:stE T f k=[]:=by unfold stE;rw[if_neg (fun hc=>by rw[hm]at hc;cases hc.2)]
  rw[he]at hR
  unfold stN at hR
  refine rstate_spec h (fun hno=>?_) (fun hhas _ s' hs'=>?_) (fun _ h0=>by rw[hm]at h0;cases h0)
  ·rw[if_neg hno]at hR
   exact hR s _ (lR _) (ents_nil _ _ _)
  ·rw[if_pos hhas,if_pos hm]at hR
   exact hR s' _ hs' (ents_nil _ _ _)
 |false =>
  unfold stE stN at *
  refine rstate_spec h (fun hno=>?_) (fun _ h0=>by rw[hm]at h0;cases h0) (fun hhas _ s' v h1 h2=>?_)
  ·rw[if_neg hno,if_neg (fun hc=>hno hc.1)]at hR
   exact hR s _ (lR _) (ents_nil _ _ _)
  ·rw[if_pos hhas,if_pos ⟨hhas,hm⟩,if_neg (fun hc=>by rw[hm]at hc;cases hc)]at hR
   exact hR s' v h1 h2
theorem tname2_spec(h:STab PY lo s t T N O)(hfs:0<T.fs){f k:Int}(hR:R (.tuple #[.string (nmX T f k),.bool (nmS T f k),.bool (nmB T f k)]) s) :
  QC prog w0 81 #[.pointer (some ⟨t,0,none⟩),.int .i64 f,.int .i64 k] s R:=by
 obtain⟨al,rb,cp,sl,h⟩:=h
 unfold nmX nmS at hR
 refine tname_spec h hfs (fun hno=>?_) (fun hhas=>?_)
 ·have e:nmB T f k=false:=by unfold nmB;rw[decide_eq_false hno];rfl
  rw[e]at hR
  exact hR
 ·split
  ·rename_i hc
   have e:nmB T f k=true:=by unfold nmB;rw[decide_eq_true hhas,hc.1,hc.2];rfl
   rw[e]at hR
   exact hR
  ·rename_i hc
   have e:nmB T f k=false:=by
    unfold nmB
    rw[decide_eq_true hhas]
    cases hu:(siteAt T f k).used with
    |false=>rfl
    |true =>
     cases hm:(siteAt T f k).mega with
     |false=>exact absurd ⟨hu,hm⟩ hc
     |true=>rfl
   rw[e]at hR
   exact hR
theorem tfixed2_spec(h:STab RY lo s t T N O){f k:Int}(hR:R (.tuple #[.string (nmX T f k),.bool (nmS T f k),.bool (nmB T f k)]) s) :
  QC prog w0 82 #[.pointer (some ⟨t,0,none⟩),.int .i64 f,.int .i64 k] s R:=by
 obtain⟨al,rb,cp,sl,h⟩:=h
 unfold nmX nmS at hR
 refine tfixed_spec h (fun hno=>?_) (fun hhas=>?_)
 ·have e:nmB T f k=false:=by unfold nmB;rw[decide_eq_false hno];rfl
  rw[e]at hR
  exact hR
 ·split
  ·rename_i hc
   have e:nmB T f k=true:=by unfold nmB;rw[decide_eq_true hhas,hc.1,hc.2];rfl
   rw[e]at hR
   exact hR
  ·rename_i hc
   have e:nmB T f k=false:=by
    unfold nmB
    rw[decide_eq_true hhas]
    cases hu:(siteAt T f k).used with
    |false=>rfl
    |true =>
     cases hm:(siteAt T f k).mega with
     |false=>exact absurd ⟨hu,hm⟩ hc
     |true=>rfl
   rw[e]at hR
   exact hR
structure Ph(s s':St M)(P O P' O':Nat→Prop):Prop where
 next:s.next≤s'.next
 keep:∀ b,b<s.next→¬ P b→¬ O b→s'.at' b=s.at' b
 oP:∀ b,P' b→P b∨s.next≤b
 oO:∀ b,O' b→O b∨s.next≤b
 dis:∀ b,P' b→¬ O' b
theorem Ph.one{s':St M}{P O P':Nat→Prop}(h:Upd s s' P P')(hd:∀ b,P b→¬ O b)(hO:∀ b,O b→b<s.next):Ph s s' P O P' O:=
 ⟨h.next,fun b hb h1 _=>h.keep b hb h1,h.own,fun b hb => .inl hb,fun b hb hb2=>by
  rcases h.own b hb with h1|h1
  ·exact hd b h1 hb2
  ·have:=hO b hb2;omega⟩
theorem Ph.two{s':St M}{P O O':Nat→Prop}(h:Upd s s' O O')(hd:∀ b,P b→¬ O b)(hP:∀ b,P b→b<s.next):Ph s s' P O P O':=
 ⟨h.next,fun b hb _ h1=>h.keep b hb h1,fun b hb => .inl hb,h.own,fun b hb hb2=>by
  rcases h.own b hb2 with h1|h1
  ·exact hd b hb h1
  ·have:=hP b hb;omega⟩
structure Four(lo:Nat)(s:St M)(p r t u:Nat)(H:Hp)(T:Tab)(NN N:Nat)(P Q O U:Nat→Prop):Prop where
 hp:HpAt lo s p H NN P
 hr:RHpAt lo s r H NN Q
 ht:STab PY lo s t T N O
 hu:STab RY lo s u T N U
 PO:∀ b,P b→¬ O b
 QU:∀ b,Q b→¬ U b
 PQ:∀ b,P b→¬ Q b
 PU:∀ b,P b→¬ U b
 OQ:∀ b,O b→¬ Q b
 OU:∀ b,O b→¬ U b
 ok:TabOk H T
 fs:0<T.fs
variable {p r u NN:Nat}{H:Hp}{P Q U:Nat→Prop}
theorem Four.le{s':St M}(h:Four lo s p r t u H T NN N P Q O U)(hs:s.le s'):Four lo s' p r t u H T NN N P Q O U:=⟨h.hp.le hs,h.hr.le hs,h.ht.le hs,h.hu.le hs,h.PO,h.QU,h.PQ,h.PU,h.OQ,h.OU,h.ok,h.fs⟩
theorem Four.mono{NN' N':Nat}(h:Four lo s p r t u H T NN N P Q O U)(h1:NN≤NN')(h2:N≤N'):Four lo s p r t u H T NN' N' P Q O U:=⟨h.hp.mono h1,h.hr.mono h1,h.ht.mono h2,h.hu.mono h2,h.PO,h.QU,h.PQ,h.PU,h.OQ,h.OU,h.ok,h.fs⟩
theorem Four.mid{s':St M}{P' O':Nat→Prop}(h:Four lo s p r t u H T NN N P Q O U)(f:Ph s s' P O P' O'):RHpAt lo s' r H NN Q∧STab RY lo s' u T N U:=
 ⟨h.hr.same f.next fun c hc=>f.keep c (h.hr.own c hc).2 (fun hb=>h.PQ c hb hc) (fun hb=>h.OQ c hb hc),h.hu.same f.next fun c hc=>f.keep c (h.hu.own c hc).2 (fun hb=>h.PU c hb hc) (fun hb=>h.OU c hb hc)⟩
theorem Four.step{s1 s2:St M}{P1 O1 Q2 U2:Nat→Prop}{H':Hp}{T':Tab}{NN' N':Nat}(h:Four lo s p r t u H T NN N P Q O U)(f:Ph s s1 P O P1 O1)(g:Ph s1 s2 Q U Q2 U2)
  (h1:HpAt lo s1 p H' NN' P1)(h2:STab PY lo s1 t T' N' O1)(h3:RHpAt lo s2 r H' NN' Q2)(h4:STab RY lo s2 u T' N' U2)(hok:TabOk H' T')(hfs:T'.fs=T.fs):Four lo s2 p r t u H' T' NN' N' P1 Q2 O1 U2∧s.next≤s2.next∧∀ b,b<s.next→¬ P b→¬ O b→¬ Q b→¬ U b→s2.at' b=s.at' b:=by
 have a1:∀ b,P1 b→¬ Q b:=fun b hb hq=>by
  rcases f.oP b hb with h5|h5
  ·exact h.PQ b h5 hq
  ·have:=(h.hr.own b hq).2;omega
 have a2:∀ b,P1 b→¬ U b:=fun b hb hq=>by
  rcases f.oP b hb with h5|h5
  ·exact h.PU b h5 hq
  ·have:=(h.hu.own b hq).2;omega
 have a3:∀ b,O1 b→¬ Q b:=fun b hb hq=>by
  rcases f.oO b hb with h5|h5
  ·exact h.OQ b h5 hq
  ·have:=(h.hr.own b hq).2;omega
 have a4:∀ b,O1 b→¬ U b:=fun b hb hq=>by
  rcases f.oO b hb with h5|h5
  ·exact h.OU b h5 hq
  ·have:=(h.hu.own b hq).2;omega
 have n1:=f.next
 have n2:=g.next
 refine⟨⟨h1.same n2 fun c hc=>g.keep c (h1.own c hc).2 (a1 c hc) (a2 c hc),h3,h2.same n2 fun c hc=>g.keep c (h2.own c hc).2 (a3 c hc) (a4 c hc),h4,f.dis,g.dis,fun b hb hq=>?_,fun b hb hq=>?_,fun b hb hq=>?_,fun b hb hq=>?_,hok,by rw[hfs];exact h.fs⟩,by omega,fun b hb b1 b2 b3 b4=>by rw[g.keep b (by omega) b3 b4,f.keep b hb b1 b2]⟩
 ·rcases g.oP b hq with h5|h5
  ·exact a1 b hb h5
  ·have:=(h1.own b hb).2;omega
 ·rcases g.oO b hq with h5|h5
  ·exact a2 b hb h5
  ·have:=(h1.own b hb).2;omega
 ·rcases g.oP b hq with h5|h5
  ·exact a3 b hb h5
  ·have:=(h2.own b hb).2;omega
 ·rcases g.oO b hq with h5|h5
  ·exact a4 b hb h5
  ·have:=(h2.own b hb).2;omega
end
section
variable {lo p r t u NN N:Nat}{H:Hp}{T:Tab}{P Q O U:Nat→Prop}
theorem slike_spec(h:Four lo s p r t u H T NN N P Q O U)(hN:N≤1000000)(hR:∀ s',s.le s'→R (.bool true) s') :
  QC prog w0 27 #[.pointer (some ⟨t,0,none⟩),.pointer (some ⟨u,0,none⟩)] s R:=by
 refine wfun2 hmix ok27 func27 rfl ntmps27 results27 (by simp) ?_
 obtain⟨al,rb,cp,sl,ha⟩:=id h.ht
 obtain⟨al2,rb2,cp2,sl2,hb⟩:=id h.hu
 obtain⟨qa,qc,hal⟩:=hb.alf
 have ub:s.at' u=some (.cells [al2,.int .i64 (T.hits:Int),.int .i64 (T.misses:Int)] 106 true):=hb.bl
 rw[hal]at ub
 simp -implicitDefEqProofs only[↓Zd,(Zp),simprocAttr,co34]
 refine scounts_spec ha ?_
 simp -implicitDefEqProofs only[↓Zd,(Zp),simprocAttr,cld2,(HEx),(HEx),(REx),(RTx),ub]
 refine wloop_inv hmix (fun fuel env s'=>env 0 = .pointer (some ⟨t,0,none⟩)∧env 1 = .pointer (some ⟨u,0,none⟩)∧∃ f:Int,env 7 = .int .i64 f ∧ -1≤f∧f≤4∧fuel=(4 - f).toNat∧s.le s') 5 ⟨rfl,rfl,-1,rfl,by omega,by omega,rfl,lR _⟩ ?_
 rintro fuel env s2 ⟨e0,e1,f,e7,hf1,hf2,rfl,l2⟩
 by_cases hf:f<4
 case neg =>
  simp -implicitDefEqProofs only[↓Zd,(Zp),simprocAttr,e7,hf]
  exact hR _ l2
 have wf:IntKind.i64.wrap (f+1)=f+1:=wrap_i64 (by omega)
 simp -implicitDefEqProofs only[↓Zd,(Zp),simprocAttr,e7,hf]
 refine wloop_inv hmix (fun fuel env s'=>env 0 = .pointer (some ⟨t,0,none⟩)∧env 1 = .pointer (some ⟨u,0,none⟩)∧env 7 = .int .i64 f∧∃ k:Int,env 8 = .int .i64 k ∧ -1≤k∧k≤4∧fuel=(4 - k).toNat∧s.le s') 5 ⟨by simp only[upd_apply];simpa using e0,by simp only[upd_apply];simpa using e1,by simp only[upd_apply];simpa using e7,-1,rfl,by omega,by omega,rfl,l2⟩ ?_
 rintro fuel env3 s3 ⟨e0,e1,e7,k,e8,hk1,hk2,rfl,l3⟩
 by_cases hk:k<4
 case neg =>
  simp -implicitDefEqProofs only[↓Zd,(Zp),simprocAttr,e0,e1,e7,e8,hk,wf]
  exact⟨(4 - (f+1)).toNat,by omega,f+1,rfl,by omega,by omega,rfl,l3⟩
 have wk:IntKind.i64.wrap (k+1)=k+1:=wrap_i64 (by omega)
 simp -implicitDefEqProofs only[↓Zd,(Zp),simprocAttr,e0,e7,e8,hk,co13]
 refine tstate2_spec (h.ht.le l3) h.fs h.ok h.hp.ok h.hp.fok fun s4 v1 l34 hE1=>?_
 have hn3:=l34.1
 obtain⟨q1,c1,rfl⟩:=hE1.form
 simp -implicitDefEqProofs only[↓Zd,(Zp),simprocAttr,(STx),e1,e7,e8,co80]
 refine rstate2_spec ((h.hu.le l3).le l34) fun s5 v2 l45 hE2=>?_
 have hn4:=l45.1
 obtain⟨q2,c2,rfl⟩:=hE2.form
 have l5:=lT (lT l3 l34) l45
 simp -implicitDefEqProofs only[↓Zd,(Zp),simprocAttr,(RTx),e0,e7,e8,co81]
 refine tname2_spec (h.ht.le l5) h.fs ?_
 simp -implicitDefEqProofs only[↓Zd,(Zp),simprocAttr,(RTx),e1,e7,e8,co82]
 refine tfixed2_spec (h.hu.le l5) ?_
 simp -implicitDefEqProofs only[↓Zd,(Zp),simprocAttr,(HEx),(STx),(HEx),(RTx)]
 have hO5:∀ b,U b→b<s5.next:=fun b hb=>by have:=((h.hu.le l5).own b hb).2;omega
 obtain⟨hes,hds⟩:=h.ok.few h.hp.ok h.hp.fok f k
 have hE1':EntsAt PY s5 (fun b=>b<s5.next) (.slice q1 (stE T f k).length c1) (stE T f k):=hE1.same fun b hb=>⟨by have:=hb.2;omega,l45.2 b hb.2⟩
 have hE2':EntsAt RY s5 (fun b=>b<s5.next) (.slice q2 (stE T f k).length c2) (stE T f k):=hE2.same fun b hb=>⟨hO5 b hb,rfl⟩
 generalize stE T f k=es at hE1' hE2' hes hds ⊢
 obtain⟨d1,g1,gO1,gD1,_⟩:=hE1'
 obtain⟨d2,g2,gO2,gD2,_⟩:=hE2'
 refine wloop_inv hmix (fun fuel env s'=>env 0 = .pointer (some ⟨t,0,none⟩)∧env 1 = .pointer (some ⟨u,0,none⟩)∧env 7 = .int .i64 f∧env 8 = .int .i64 k∧env 10 = .slice q1 es.length c1∧env 12 = .slice q2 es.length c2∧∃ m:Nat,env 19 = .int .i64 (m:Int)∧m≤es.length∧fuel=es.length - m∧s5.le s') (es.length - 0) ⟨by simp only[upd_apply];simpa using e0,by simp only[upd_apply];simpa using e1,by simp only[upd_apply];simpa using e7,by simp only[upd_apply];simpa using e8,rfl,rfl,0,rfl,by omega,rfl,lR _⟩ ?_
 rintro fuel env4 s6 ⟨e0,e1,e7,e8,e10,e12,m,e19,hm1,rfl,l6⟩
 have hn6:=l6.1
 by_cases hm:m<es.length
 case neg =>
  have hm':¬ (m:Int)<(es.length:Int):=by omega
  simp -implicitDefEqProofs only[↓Zd,(Zp),simprocAttr,(STx),e0,e1,e7,e8,e10,e19,hm',wk]
  exact⟨(4 - (k+1)).toNat,by omega,k+1,rfl,by omega,by omega,rfl,lT l5 l6⟩
 have hm':(m:Int)<(es.length:Int):=by omega
 have hmm:(0:Int)≤(m:Int)∧(m:Int)<(es.length:Int):=by omega
 have wm:IntKind.i64.wrap ((m:Int)+1)=((m+1:Nat):Int):=by rw[wrap_i64 (by omega)];omega
 rcases id g1 with ⟨h0,_,_⟩|⟨b1,j1,hv,g1b,_⟩
 ·omega
 cases hv
 rcases id g2 with ⟨h0,_,_⟩|⟨b2,j2,hv,g2b,_⟩
 ·omega
 cases hv
 have g1b:s5.at' b1=some (.cells (rows (fun j=>entC (es.getD j Tryz.e0) (d1 j)) es.length++j1) 51 true):=g1b
 have g2b:s5.at' b2=some (.cells (rows (fun j=>entC (es.getD j Tryz.e0) (d2 j)) es.length++j2) 161 true):=g2b
 have hb1n:b1<s5.next:=gO1 _ _ _ rfl
 have hb2n:b2<s5.next:=gO2 _ _ _ rfl
 have g1c:=(l6.2 _ hb1n).trans g1b
 have g2c:=(l6.2 _ hb2n).trans g2b
 obtain⟨u1,u2⟩:=rows_cut (c:=fun j=>entC (es.getD j Tryz.e0) (d1 j)) (k:=5) (fun _=>rfl) j1 hm
 obtain⟨v1,v2⟩:=rows_cut (c:=fun j=>entC (es.getD j Tryz.e0) (d2 j)) (k:=5) (fun _=>rfl) j2 hm
 have hD1:=gD1 m hm
 have hD2:=gD2 m hm
 have hdl:=hds (es.getD m Tryz.e0) (by rw[getD_at hm];exact List.getElem_mem hm)
 generalize es.getD m Tryz.e0=e at hD1 hD2 hdl u2 v2
 obtain⟨x1,z1,f1⟩:∃ a c,d1 m=Value.slice a e.deps.length c:=by
  rcases hD1.1 with ⟨e1,_,e2⟩|⟨b,_,e2,_⟩
  ·exact⟨none,0,by rw[e2,e1]⟩
  ·exact⟨_,_,e2⟩
 obtain⟨x2,z2,f2⟩:∃ a c,d2 m=Value.slice a e.deps.length c:=by
  rcases hD2.1 with ⟨e1,_,e2⟩|⟨b,_,e2,_⟩
  ·exact⟨none,0,by rw[e2,e1]⟩
  ·exact⟨_,_,e2⟩
 rw[f1]at u2 hD1
 rw[f2]at v2 hD2
 have u3:List.take 5 (List.drop (m*5) (rows (fun j=>entC (es.getD j Tryz.e0) (d1 j)) es.length++j1))=[.int .i64 (e.shape:Int),.int .i64 e.holder,.int .i64 e.slot,.int .i64 (e.to:Int),.slice x1 e.deps.length z1]:=u2
 have v3:List.take 5 (List.drop (m*5) (rows (fun j=>entC (es.getD j Tryz.e0) (d2 j)) es.length++j2))=[.int .i64 (e.shape:Int),.int .i64 e.holder,.int .i64 e.slot,.int .i64 (e.to:Int),.slice x2 e.deps.length z2]:=v2
 clear g1b g2b u2 v2
 have n1:¬ b1=s6.next:=by omega
 have n2:¬ b1=s6.next+1:=by omega
 have n3:¬ b2=s6.next:=by omega
 have n4:¬ b2=s6.next+1:=by omega
 simp -implicitDefEqProofs only[↓Zd,(Zp),simprocAttr,qP,Value.cells,cut,qC,cld2,(HEx),(STx),(HEx),(RTx),e10,e12,e19,hm',hmm,g1c,g2c,u1,u3,v1,v3,n3,n4,Nat.add_zero,ord27]
 have l7:s5.le ((((s6.new (.cells [.int .i64 0,.int .i64 0,.int .i64 0,.int .i64 0,.slice none 0 0] 51 true)).new (.cells [.int .i64 0,.int .i64 0,.int .i64 0,.int .i64 0,.slice none 0 0] 161 true)).put s6.next (.cells [.int .i64 (e.shape:Int),.int .i64 e.holder,.int .i64 e.slot,.int .i64 (e.to:Int),.slice x1 e.deps.length z1] 51 true)).put (s6.next+1) (.cells [.int .i64 (e.shape:Int),.int .i64 e.holder,.int .i64 e.slot,.int .i64 (e.to:Int),.slice x2 e.deps.length z2] 161 true)):=lP (lP (lN (lN l6)) (by omega)) (by omega)
 have k20:((((s6.new (.cells [.int .i64 0,.int .i64 0,.int .i64 0,.int .i64 0,.slice none 0 0] 51 true)).new (.cells [.int .i64 0,.int .i64 0,.int .i64 0,.int .i64 0,.slice none 0 0] 161 true)).put s6.next (.cells [.int .i64 (e.shape:Int),.int .i64 e.holder,.int .i64 e.slot,.int .i64 (e.to:Int),.slice x1 e.deps.length z1] 51 true)).put (s6.next+1) (.cells [.int .i64 (e.shape:Int),.int .i64 e.holder,.int .i64 e.slot,.int .i64 (e.to:Int),.slice x2 e.deps.length z2] 161 true)).at' s6.next=some (.cells [.int .i64 (e.shape:Int),.int .i64 e.holder,.int .i64 e.slot,.int .i64 (e.to:Int),.slice x1 e.deps.length z1] 51 true):=by
  rw[St.at_put,if_neg (by omega),St.at_put,if_pos rfl]
 have k21:((((s6.new (.cells [.int .i64 0,.int .i64 0,.int .i64 0,.int .i64 0,.slice none 0 0] 51 true)).new (.cells [.int .i64 0,.int .i64 0,.int .i64 0,.int .i64 0,.slice none 0 0] 161 true)).put s6.next (.cells [.int .i64 (e.shape:Int),.int .i64 e.holder,.int .i64 e.slot,.int .i64 (e.to:Int),.slice x1 e.deps.length z1] 51 true)).put (s6.next+1) (.cells [.int .i64 (e.shape:Int),.int .i64 e.holder,.int .i64 e.slot,.int .i64 (e.to:Int),.slice x2 e.deps.length z2] 161 true)).at' (s6.next+1)=some (.cells [.int .i64 (e.shape:Int),.int .i64 e.holder,.int .i64 e.slot,.int .i64 (e.to:Int),.slice x2 e.deps.length z2] 161 true):=by
  rw[St.at_put,if_pos rfl]
 generalize (((s6.new (.cells [.int .i64 0,.int .i64 0,.int .i64 0,.int .i64 0,.slice none 0 0] 51 true)).new (.cells [.int .i64 0,.int .i64 0,.int .i64 0,.int .i64 0,.slice none 0 0] 161 true)).put s6.next (.cells [.int .i64 (e.shape:Int),.int .i64 e.holder,.int .i64 e.slot,.int .i64 (e.to:Int),.slice x1 e.deps.length z1] 51 true)).put (s6.next+1) (.cells [.int .i64 (e.shape:Int),.int .i64 e.holder,.int .i64 e.slot,.int .i64 (e.to:Int),.slice x2 e.deps.length z2] 161 true)=s7 at l7 k20 k21 ⊢
 refine wloop_inv hmix (fun fuel env s'=>s'=s7∧env 0 = .pointer (some ⟨t,0,none⟩)∧env 1 = .pointer (some ⟨u,0,none⟩)∧env 7 = .int .i64 f∧env 8 = .int .i64 k∧env 10 = .slice (some ⟨b1,0,none⟩) es.length UNK∧env 12 = .slice (some ⟨b2,0,none⟩) es.length UNK∧env 19 = .int .i64 (m:Int)∧env 20 = .pointer (some ⟨s6.next,0,none⟩)∧env 21 = .pointer (some ⟨s6.next+1,0,none⟩)∧∃ d:Nat,env 22 = .int .i64 (d:Int)∧d≤e.deps.length∧fuel=e.deps.length - d) (e.deps.length - 0) ⟨rfl,by simp only[upd_apply];simpa using e0,by simp only[upd_apply];simpa using e1,by simp only[upd_apply];simpa using e7,by simp only[upd_apply];simpa using e8,by simp only[upd_apply];simpa using e10,by simp only[upd_apply];simpa using e12,by simp only[upd_apply];simpa using e19,by rfl,by rfl,0,rfl,by omega,rfl⟩ ?_
 rintro fuel env5 s8 ⟨rfl,e0,e1,e7,e8,e10,e12,e19,e20,e21,d,e22,hd1,rfl⟩
 by_cases hd:d<e.deps.length
 case neg =>
  have hd':¬ (d:Int)<(e.deps.length:Int):=by omega
  simp -implicitDefEqProofs only[↓Zd,(Zp),simprocAttr,cld2,(STx),e0,e1,e7,e8,e10,e12,e19,e20,e22,k20,hd',wm]
  exact⟨_,Nat.sub_lt_sub_left hm (Nat.lt_succ_self m),m+1,rfl,by omega,rfl,l7⟩
 have hd':(d:Int)<(e.deps.length:Int):=by omega
 have hdd:(0:Int)≤(d:Int)∧(d:Int)<(e.deps.length:Int):=by omega
 have wd:IntKind.i64.wrap ((d:Int)+1)=((d+1:Nat):Int):=by rw[wrap_i64 (by omega)];omega
 rcases id hD1.1 with ⟨h0,_,_⟩|⟨b3,j3,hv,g3b,_⟩
 ·omega
 cases hv
 rcases id hD2.1 with ⟨h0,_,_⟩|⟨b4,j4,hv,g4b,_⟩
 ·omega
 cases hv
 have hb3n:b3<s5.next:=hD1.2.1 _ _ _ rfl
 have hb4n:b4<s5.next:=hD2.2.1 _ _ _ rfl
 have g3c:s8.at' b3=some (.cells (rows (fun j=>depC (e.deps.getD j (0,0))) e.deps.length++j3) 99 true):=(l7.2 _ hb3n).trans g3b
 have g4c:s8.at' b4=some (.cells (rows (fun j=>depC (e.deps.getD j (0,0))) e.deps.length++j4) 162 true):=(l7.2 _ hb4n).trans g4b
 have p3:∀ j,(rows (fun j=>depC (e.deps.getD j (0,0))) e.deps.length++j)[d*2]?=some (.int .i64 ((e.deps.getD d (0,0)).1:Int)):=fun j=>rows_get (c:=fun j=>depC (e.deps.getD j (0,0))) (k:=2) (fun _=>rfl) j hd (j:=0) (by omega)
 have p4:∀ j,(rows (fun j=>depC (e.deps.getD j (0,0))) e.deps.length++j)[d*2+1]?=some (.int .i64 ((e.deps.getD d (0,0)).2:Int)):=fun j=>rows_get (c:=fun j=>depC (e.deps.getD j (0,0))) (k:=2) (fun _=>rfl) j hd (j:=1) (by omega)
 simp -implicitDefEqProofs only[↓Zd,(Zp),simprocAttr,cld2,(HEx),(STx),(HEx),(RTx),e0,e1,e7,e8,e10,e12,e19,e20,e21,e22,k20,k21,hd',hdd,g3c,g4c,p3,p4,wd,Nat.add_zero]
 exact⟨_,Nat.sub_lt_sub_left hd (Nat.lt_succ_self d),d+1,rfl,by omega,rfl⟩
end
section
variable {lo p r t u NN N:Nat}{H:Hp}{T:Tab}{P Q O U:Nat→Prop}
theorem sdone_spec(h:Four lo s p r t u H T NN N P Q O U)(hlo:lo≤s.next){x:A17D}(hx:Act17Ok x)(hNN:NN+3≤1000000)(h32:32≤NN)(hN:N+1≤1000000)(hsz:HSz 1000000 H)(hpsz:PSz 1000000 (x.a5,x.a6))
  (hR:∀ s' H' T' P' Q' O' U',Four lo s' p r t u H' T' (NN+3) (N+1) P' Q' O' U'→HSz 1000000 H'→s.next≤s'.next→(∀ b,b<s.next→¬ P b→¬ O b→¬ Q b→¬ U b→s'.at' b=s.at' b)→R (.bool true) s') :
  QC prog w0 14 #[.pointer (some ⟨t,0,none⟩),.pointer (some ⟨p,0,none⟩),.pointer (some ⟨u,0,none⟩),.pointer (some ⟨r,0,none⟩),.agg #[.int .i64 x.a0,.int .i64 x.a1,.int .i64 x.a2,.int .i64 x.a3,.int .i64 x.a4,.string x.a5,.int .i64 x.a6.1,.int .i64 x.a6.2.1,.string x.a6.2.2]] s R:=by
 obtain⟨x0,x1,x2,x3,x4,x5,v1,v2,v3⟩:=x
 obtain⟨q0,q1,q2,q3,q4,q5,q6⟩:=hx
 simp only[I64]at q0 q1 q2 q3 q4 q5 q6
 have hpsz:PSz 1000000 (x5,(v1,v2,v3)):=hpsz
 refine wfun2 hmix ok14 func14 rfl ntmps14 results14 (by simp) ?_
 have l1:s.le (s.new (.cells [.int .i64 x0,.int .i64 x1,.int .i64 x2,.int .i64 x3,.int .i64 x4,.string x5,.int .i64 v1,.int .i64 v2,.string v3] 38 true)):=lN (lR _)
 have c9:(s.new (.cells [.int .i64 x0,.int .i64 x1,.int .i64 x2,.int .i64 x3,.int .i64 x4,.string x5,.int .i64 v1,.int .i64 v2,.string v3] 38 true)).at' s.next=some (.cells [.int .i64 x0,.int .i64 x1,.int .i64 x2,.int .i64 x3,.int .i64 x4,.string x5,.int .i64 v1,.int .i64 v2,.string v3] 38 true):=by rw[St.at_new,if_pos rfl]
 have h1:=h.le l1
 have hn1:(s.new (.cells [.int .i64 x0,.int .i64 x1,.int .i64 x2,.int .i64 x3,.int .i64 x4,.string x5,.int .i64 v1,.int .i64 v2,.string v3] 38 true)).next=s.next+1:=rfl
 generalize hs1:s.new (.cells [.int .i64 x0,.int .i64 x1,.int .i64 x2,.int .i64 x3,.int .i64 x4,.string x5,.int .i64 v1,.int .i64 v2,.string v3] 38 true)=s1 at l1 c9 h1 hn1
 have hlo1:lo≤s1.next:=by omega
 have hPn:∀ b,P b→b<s.next:=fun b hb=>(h.hp.own b hb).2
 have hQn:∀ b,Q b→b<s.next:=fun b hb=>(h.hr.own b hb).2
 have hOn:∀ b,O b→b<s.next:=fun b hb=>(h.ht.own b hb).2
 have hUn:∀ b,U b→b<s.next:=fun b hb=>(h.hu.own b hb).2
 have hPm:∀ b,P b→b<s1.next:=fun b hb=>by have:=hPn b hb;omega
 have hOm:∀ b,O b→b<s1.next:=fun b hb=>by have:=hOn b hb;omega
 have keep:∀ {s2:St M}{P1 O1:Nat→Prop},Ph s1 s2 P O P1 O1→s2.at' s.next=some (.cells [.int .i64 x0,.int .i64 x1,.int .i64 x2,.int .i64 x3,.int .i64 x4,.string x5,.int .i64 v1,.int .i64 v2,.string v3] 38 true):=fun hf=>(hf.keep _ (by omega) (fun hc=>by have:=hPn _ hc;omega) (fun hc=>by have:=hOn _ hc;omega)).trans c9
 have hend:∀ {s2 s3:St M}{P1 O1 Q2 U2:Nat→Prop}{H':Hp}{T':Tab}{NN' N':Nat},Ph s1 s2 P O P1 O1→Ph s2 s3 Q U Q2 U2→HpAt lo s2 p H' NN' P1→STab PY lo s2 t T' N' O1→RHpAt lo s3 r H' NN' Q2→STab RY lo s3 u T' N' U2→NN'≤NN+3→N'≤N+1→TabOk H' T'→T'.fs=T.fs→HSz 1000000 H'→R (.bool true) s3:=fun f g a1 a2 a3 a4 a5 a6 a7 a8 a9=>by
  obtain⟨b1,b2,b3⟩:=h1.step f g a1 a2 a3 a4 a7 a8
  exact hR _ _ _ _ _ _ _ (b1.mono a5 a6) a9 (by omega) fun b hb h1 h2 h3 h4=>(b3 b (by omega) h1 h2 h3 h4).trans (l1.2 b hb)
 have hok0:=h.hp.ok
 have hpro0:=h.hp.1
 have hpro1:=h.hr.1
 by_cases d0:x0=0
 ·subst d0
  simp -implicitDefEqProofs only[↓Zd,(Zp),simprocAttr,qP,Value.cells,cld2,(HEx),(HEx),(A7x),hs1,c9,co17]
  refine hmake_spec h1.hp hlo1 fun s2 P1 hP1 hU1=>?_
  have f1:Ph s1 s2 P O P1 O := .one hU1 h1.PO hOm
  have c92:=keep f1
  obtain⟨m1,m2⟩:=h1.mid f1
  have hn2:=f1.next
  have hlo2:lo≤s2.next:=by omega
  have hQm:∀ b,Q b→b<s2.next:=fun b hb=>by have:=hQn b hb;omega
  have hUm:∀ b,U b→b<s2.next:=fun b hb=>by have:=hUn b hb;omega
  have hmv:∃ a b,makeV H = .tuple #[.int .i64 a,.int .i64 b]:=by unfold makeV;split<;>exact⟨_,_,rfl⟩
  obtain⟨ma,mb,hmv⟩:=hmv
  rw[hmv]
  simp -implicitDefEqProofs only[↓Zd,(Zp),simprocAttr,(HEx),(HEx),co38]
  refine rmake_spec m1 hlo2 fun s3 Q2 hP2 hU2=>?_
  rw[hmv]
  simp -implicitDefEqProofs only[↓Zd,(Zp),simprocAttr,(REx)]
  exact hend f1 (.one hU2 h1.QU hUm) hP1 (h1.ht.other hU1 h1.PO).1 hP2 (m2.other hU2 h1.QU).1 (by omega) (by omega) (h1.ok.grows hok0 hP1.ok (make_grows H)) rfl hsz.make
 by_cases d1:x0=1
 ·subst d1
  obtain⟨ee,hr⟩:=look_total hok0 x5 x3
  simp -implicitDefEqProofs only[↓Zd,(Zp),simprocAttr,qP,Value.cells,cld2,(HEx),(HEx),(A7x),hs1,c9,ord14,co18]
  refine tget_spec h1.hp h1.ht h1.fs h1.PO h1.ok hlo1 hN q3 hr fun s2 O1 v hP1 hU1 hv=>?_
  have f1:=Ph.two hU1 h1.PO hPm
  have c92:=keep f1
  obtain⟨m1,m2⟩:=h1.mid f1
  have hn2:=f1.next
  have hlo2:lo≤s2.next:=by omega
  have hQm:∀ b,Q b→b<s2.next:=fun b hb=>by have:=hQn b hb;omega
  have hUm:∀ b,U b→b<s2.next:=fun b hb=>by have:=hUn b hb;omega
  obtain⟨w1,w2,w3⟩:=v
  simp only[vOf,vA]
  simp -implicitDefEqProofs only[↓Zd,(Zp),simprocAttr,cld2,(HEx),(HEx),c92,co39]
  refine etget_spec m1 m2 h1.QU h1.ok hlo2 hN (by omega) q3 hr fun s3 U2 v' hP2 hU2 hv'=>?_
  cases hv.one hv'
  simp only[vOf,vA]
  simp -implicitDefEqProofs only[↓Zd,(Zp),simprocAttr,(HEx),(HEx),Vsame]
  exact hend f1 (.two hU2 h1.QU hQm) (h1.hp.other hU1 (fun b a c=>h1.PO b c a)).1 hP1 (m1.same hU2.next fun c hc=>hU2.keep c (hQm c hc) (h1.QU c hc)) hP2 (by omega) (by omega) (get_ok hok0 hpro0 h1.ok hr) (getT_n _ _ _ _ _ _ _).1 hsz
 by_cases d2:x0=2
 ·subst d2
  simp -implicitDefEqProofs only[↓Zd,(Zp),simprocAttr,qP,Value.cells,cut,cld2,(HEx),(HEx),(A7x),hs1,c9,ord14,co20]
  refine tset_spec (vk:=v1) (vn:=v2) (vy:=v3) h1.hp h1.ht h1.fs h1.PO h1.ok hlo1 hN hNN h32 q3 fun s2 P1 O1 hP1 hT1 g1 g2 g3 g4 g5=>?_
  have f1:Ph s1 s2 P O P1 O1:=⟨g2,g3,g4,g5,g1⟩
  have c92:=keep f1
  obtain⟨m1,m2⟩:=h1.mid f1
  have hn2:=f1.next
  have hlo2:lo≤s2.next:=by omega
  have hQm:∀ b,Q b→b<s2.next:=fun b hb=>by have:=hQn b hb;omega
  have hUm:∀ b,U b→b<s2.next:=fun b hb=>by have:=hUn b hb;omega
  simp -implicitDefEqProofs only[↓Zd,(Zp),simprocAttr,cut,cld2,(HEx),(HEx),c92,co40]
  refine etset_spec (vk:=v1) (vn:=v2) (vy:=v3) m1 m2 h1.QU h1.ok hlo2 hN hNN q3 fun s3 Q2 U2 a1 a2 a3 a4 a5 a6 a7=>?_
  simp -implicitDefEqProofs only[↓Zd,(Zp),simprocAttr,(HEx),(HEx)]
  exact hend f1 ⟨a4,a5,a6,a7,a3⟩ hP1 hT1 a1 a2 (by omega) (by omega) (set_tab hok0 hpro0 h1.ok _ _ _ _ _) (setT_n _ _ _ _ _ _ _).1 (hsz.set _ hpsz)
 by_cases d3:x0=3
 ·subst d3
  simp -implicitDefEqProofs only[↓Zd,(Zp),simprocAttr,qP,Value.cells,cut,cld2,(HEx),(HEx),(A7x),hs1,c9,ord14,co21]
  refine hset_spec (k:=v1) (n:=v2) (y:=v3) h1.hp hlo1 hNN h32 q3 fun s2 P1 hP1 hU1=>?_
  have f1:Ph s1 s2 P O P1 O := .one hU1 h1.PO hOm
  have c92:=keep f1
  obtain⟨m1,m2⟩:=h1.mid f1
  have hn2:=f1.next
  have hlo2:lo≤s2.next:=by omega
  have hQm:∀ b,Q b→b<s2.next:=fun b hb=>by have:=hQn b hb;omega
  have hUm:∀ b,U b→b<s2.next:=fun b hb=>by have:=hUn b hb;omega
  simp -implicitDefEqProofs only[↓Zd,(Zp),simprocAttr,cut,cld2,(HEx),(HEx),c92,co41]
  refine rset_spec (k:=v1) (n:=v2) (y:=v3) m1 hlo2 hNN fun s3 Q2 hP2 hU2=>?_
  simp -implicitDefEqProofs only[↓Zd,(Zp),simprocAttr,(HEx),(HEx)]
  exact hend f1 (.one hU2 h1.QU hUm) hP1 (h1.ht.other hU1 h1.PO).1 hP2 (m2.other hU2 h1.QU).1 (by omega) (by omega) (h1.ok.grows hok0 hP1.ok (set_grows _ _ _ _)) rfl (hsz.set _ hpsz)
 by_cases d4:x0=4
 ·subst d4
  simp -implicitDefEqProofs only[↓Zd,(Zp),simprocAttr,qP,Value.cells,cld2,(HEx),(HEx),(A7x),hs1,c9,ord14,co22]
  refine hdel_spec h1.hp hlo1 hNN h32 q3 fun s2 P1 hP1 hU1=>?_
  have f1:Ph s1 s2 P O P1 O := .one hU1 h1.PO hOm
  have c92:=keep f1
  obtain⟨m1,m2⟩:=h1.mid f1
  have hn2:=f1.next
  have hlo2:lo≤s2.next:=by omega
  have hQm:∀ b,Q b→b<s2.next:=fun b hb=>by have:=hQn b hb;omega
  have hUm:∀ b,U b→b<s2.next:=fun b hb=>by have:=hUn b hb;omega
  simp -implicitDefEqProofs only[↓Zd,(Zp),simprocAttr,cld2,(HEx),(HEx),c92,co42]
  refine rdel_spec m1 hlo2 hNN fun s3 Q2 hP2 hU2=>?_
  simp -implicitDefEqProofs only[↓Zd,(Zp),simprocAttr,(HEx),(HEx)]
  exact hend f1 (.one hU2 h1.QU hUm) hP1 (h1.ht.other hU1 h1.PO).1 hP2 (m2.other hU2 h1.QU).1 (by omega) (by omega) (h1.ok.grows hok0 hP1.ok (del_grows _ _ _)) rfl (hsz.del _ _)
 by_cases d5:x0=5
 ·subst d5
  simp -implicitDefEqProofs only[↓Zd,(Zp),simprocAttr,qP,Value.cells,cld2,(HEx),(HEx),(A7x),hs1,c9,ord14,co23]
  refine hsetproto_spec h1.hp hlo1 hNN h32 q3 q4 fun s2 P1 hP1 hU1=>?_
  have f1:Ph s1 s2 P O P1 O := .one hU1 h1.PO hOm
  have c92:=keep f1
  obtain⟨m1,m2⟩:=h1.mid f1
  have hn2:=f1.next
  have hlo2:lo≤s2.next:=by omega
  have hQm:∀ b,Q b→b<s2.next:=fun b hb=>by have:=hQn b hb;omega
  have hUm:∀ b,U b→b<s2.next:=fun b hb=>by have:=hUn b hb;omega
  simp -implicitDefEqProofs only[↓Zd,(Zp),simprocAttr,cld2,(HEx),(HEx),c92,co43]
  refine rsetproto_spec m1 hlo2 hNN fun s3 Q2 hP2 hU2=>?_
  simp -implicitDefEqProofs only[↓Zd,(Zp),simprocAttr,(HEx),(HEx)]
  exact hend f1 (.one hU2 h1.QU hUm) hP1 (h1.ht.other hU1 h1.PO).1 hP2 (m2.other hU2 h1.QU).1 (by omega) (by omega) (h1.ok.grows hok0 hP1.ok (proto_grows _ _ _)) rfl (hsz.protoH _ _)
 by_cases d6:x0=6
 ·subst d6
  simp -implicitDefEqProofs only[↓Zd,(Zp),simprocAttr,qP,Value.cells,cld2,(HEx),(HEx),(A7x),hs1,c9,co24]
  refine sflush_spec h1.ht h1.fs fun s2 hP1 hU1=>?_
  have f1:=Ph.two hU1 h1.PO hPm
  have c92:=keep f1
  obtain⟨m1,m2⟩:=h1.mid f1
  have hn2:=f1.next
  have hlo2:lo≤s2.next:=by omega
  have hQm:∀ b,Q b→b<s2.next:=fun b hb=>by have:=hQn b hb;omega
  have hUm:∀ b,U b→b<s2.next:=fun b hb=>by have:=hUn b hb;omega
  simp -implicitDefEqProofs only[↓Zd,(Zp),simprocAttr,cld2,(HEx),(HEx),(A7x),c92,co44]
  refine rflush_spec (m:=false) m2 fun s3 hP2 hU2=>?_
  simp -implicitDefEqProofs only[↓Zd,(Zp),simprocAttr,(HEx),(HEx)]
  exact hend f1 (.two hU2 h1.QU hQm) (h1.hp.other hU1 (fun b a c=>h1.PO b c a)).1 hP1 (m1.same hU2.next fun c hc=>hU2.keep c (hQm c hc) (h1.QU c hc)) hP2 (by omega) (by omega) (h1.ok.flush x1 false) (by unfold flushT;split<;>rfl) hsz
 by_cases d7:x0=7
 ·subst d7
  simp -implicitDefEqProofs only[↓Zd,(Zp),simprocAttr,qP,Value.cells,cld2,(HEx),(HEx),(A7x),hs1,c9,co25]
  refine smega_spec h1.ht h1.fs fun s2 hP1 hU1=>?_
  have f1:=Ph.two hU1 h1.PO hPm
  have c92:=keep f1
  obtain⟨m1,m2⟩:=h1.mid f1
  have hn2:=f1.next
  have hlo2:lo≤s2.next:=by omega
  have hQm:∀ b,Q b→b<s2.next:=fun b hb=>by have:=hQn b hb;omega
  have hUm:∀ b,U b→b<s2.next:=fun b hb=>by have:=hUn b hb;omega
  simp -implicitDefEqProofs only[↓Zd,(Zp),simprocAttr,cld2,(HEx),(HEx),(A7x),c92,co44]
  refine rflush_spec (m:=true) m2 fun s3 hP2 hU2=>?_
  simp -implicitDefEqProofs only[↓Zd,(Zp),simprocAttr,(HEx),(HEx)]
  exact hend f1 (.two hU2 h1.QU hQm) (h1.hp.other hU1 (fun b a c=>h1.PO b c a)).1 hP1 (m1.same hU2.next fun c hc=>hU2.keep c (hQm c hc) (h1.QU c hc)) hP2 (by omega) (by omega) (h1.ok.flush x1 true) (by unfold flushT;split<;>rfl) hsz
 simp -implicitDefEqProofs only[↓Zd,(Zp),simprocAttr,qP,Value.cells,cld2,(HEx),(HEx),(A7x),hs1,c9,d0,d1,d2,d3,d4,d5,d6,d7]
 exact hR _ _ _ _ _ _ _ (h1.mono (by omega) (by omega)) hsz (by omega) fun b hb _ _ _ _=>l1.2 b hb
end
theorem rmks3:cmks prog 107 (.int .i64 3) (.int .i64 3)=some (.cells (rows (fun _=>rsitC s0 (.slice none 0 0)) 3) 182 true,fun b => .slice (some ⟨b,0,none⟩) 3 3):=by kernel_rfl
theorem rmks2:cmks prog 107 (.int .i64 2) (.int .i64 2)=some (.cells (rows (fun _=>rsitC s0 (.slice none 0 0)) 2) 182 true,fun b => .slice (some ⟨b,0,none⟩) 2 2):=by kernel_rfl
theorem rmks0:cmks prog 107 (.int .i64 0) (.int .i64 0)=some (.cells (rows (fun _=>rsitC s0 (.slice none 0 0)) 0) 182 true,fun b => .slice (some ⟨b,0,none⟩) 0 0):=by kernel_rfl
section
theorem RObAt.lowr{lo lo' N b:Nat}{o:Ob}{O:Nat→Prop}(h:RObAt lo s N b o O)(hl:lo'≤lo):RObAt lo' s N b o O:=
 ⟨fun c hc=>⟨by have:=(h.own c hc).1;omega,(h.own c hc).2⟩,h.pin,h.ep,h.bl⟩
theorem RHpAt.lowr{lo lo' p N:Nat}{H:Hp}{O:Nat→Prop}(h:RHpAt lo s p H N O)(hl:lo'≤lo):RHpAt lo' s p H N O:=by
 obtain⟨hp,tg,pf,sl,tl,bs,h⟩:=h
 exact⟨hp,tg,pf,sl,tl,bs,fun c hc=>⟨by have:=(h.own c hc).1;omega,(h.own c hc).2⟩,h.ok,h.tn,h.pin,h.bl,h.row,h.rowO,h.fo.low hl,h.ta,h.taO,h.len,fun i b o h1 h2=>(h.obj i b o h1 h2).lowr hl⟩
theorem etnew3_spec{lb:Nat}(hL:s.at' lb=some (.cells [.int .i64 3,.int .i64 2,.int .i64 (-1)] 3 true))(hlbn:lb<s.next)(hR:∀ s' t O,STab RY s.next s' t (newT [3,2,-1]) 0 O→s.le s'→R (.pointer (some ⟨t,0,none⟩)) s'):QC prog w0 15 #[.slice (some ⟨lb,0,none⟩) 3 3] s R:=by
 refine etnew_spec (L:=[3,2,-1]) (lc:=3) hL hlbn (by decide) (fun i hi=>?_) hR
 match i,hi with
 |0,_=>exact rmks3
 |1,_=>exact rmks2
 |2,_=>exact rmks0
theorem sitePlays_spec{n:Int}{A:List A17D}{ad:Option Addr}{cp:Nat}(hn:0≤n∧n≤255)(hA:QRow 38 act17C s ad A)(hok:∀ a∈A,Act17Ok a)(hAl:A.length≤9223372036854775807)
  (hR:∀ s',R (.bool true) s'):QC prog w0 5 #[.int .u8 n,.slice ad A.length cp] s R:=by
 refine wfun2 hmix ok5 func5 rfl ntmps5 results5 (by simp) ?_
 have hbL:cbuild prog 26 #[(0,.int .i64 9),(2,.int .i64 14)]=some (.agg #[.int .i64 9,.int .i64 0,.int .i64 14,.int .i64 0]):=by kernel_rfl
 simp -implicitDefEqProofs only[↓Zd,(Zp),simprocAttr,qP,Value.cells,cut,qC,cld2,(HEx),(HEx),underlying26,sz26,ce26,ag26,ze26,hbL,wrap_u8i hn,co6]
 refine hnew_spec fun s1 p hH1 hs1=>?_
 have hn1:=hs1.1
 simp only[(Sn)]at hn1
 have c5:s1.at' s.next=some (.cells [.int .i64 9,.int .i64 0,.int .i64 14,.int .i64 0] 26 true):=by rw[hs1.2 _ (by simp only[(Sn)];omega)];first|rw[St.at_put,if_pos rfl]|rw[St.at_new,if_pos rfl]
 simp -implicitDefEqProofs only[↓Zd,(Zp),simprocAttr,cut,cld2,(HEx),(HEx),underlying26,ce26,ag26,c5,wrap_u8i hn,co7]
 refine rnew_spec fun s2 r hH2 hs2=>?_
 have hn2:=hs2.1
 simp -implicitDefEqProofs only[↓Zd,(Zp),simprocAttr,(REx),co9]
 refine sites_spec ?_
 simp -implicitDefEqProofs only[↓Zd,(Zp),simprocAttr,(REx),co8]
 refine snew3_spec (lb:=s2.next) ?_ ?_ fun s3 t O hS3 hs3=>?_
 ·rw[St.at_new,if_pos rfl]
 ·simp only[St.next_new];omega
 have hn3:=hs3.1
 simp only[St.next_new]at hn3 hS3
 have hs23:s2.le s3:=lT (lN (lR _)) hs3
 simp -implicitDefEqProofs only[↓Zd,(Zp),simprocAttr,(STx),co9]
 refine sites_spec ?_
 simp -implicitDefEqProofs only[↓Zd,(Zp),simprocAttr,(REx),co15]
 refine etnew3_spec (lb:=s3.next) ?_ ?_ fun s4 u U hS4 hs4=>?_
 ·rw[St.at_new,if_pos rfl]
 ·simp only[St.next_new];omega
 have hn4:=hs4.1
 simp only[St.next_new]at hn4 hS4
 have hs34:s3.le s4:=lT (lN (lR _)) hs4
 have hT0:Four (s.next+1) s4 p r t u (newH 9 14 n) (newT [3,2,-1]) 32 0 (fun b=>s.next+1≤b∧b<s1.next) (fun b=>s1.next≤b∧b<s2.next) O U:=by
  refine⟨?_,?_,(hS3.low (by omega)).le hs34,hS4.low (by omega),fun b h1 h2=>by have:=(hS3.own b h2).1;omega,fun b h1 h2=>by have:=(hS4.own b h2).1;omega,fun b h1 h2=>by omega,fun b h1 h2=>by have:=(hS4.own b h2).1;omega,fun b h1 h2=>by have:=(hS3.own b h1).1;omega,fun b h1 h2=>by have:=(hS3.own b h1).2;have:=(hS4.own b h2).1;omega,newT_ok _ _,by decide⟩
  ·have:=(((hH1.mono (Nat.zero_le 32)).le hs2).le hs23).le hs34
   simpa using this
  ·exact (((hH2.mono (Nat.zero_le 32)).lowr (by omega)).le hs23).le hs34
 have hold:∀ c,c<s.next→s4.at' c=s.at' c:=fun c hc=>by
  rw[hs34.2 c (by omega),hs23.2 c (by omega),hs2.2 c (by omega),hs1.2 c (by simp only[(Sn)];omega)]
  first|rw[St.at_put,if_neg (by omega),St.at_new,if_neg (by omega)]|rw[St.at_new,if_neg (by omega)]
 simp -implicitDefEqProofs only[↓Zd,(Zp),simprocAttr,(RTx)]
 refine wloop_inv hmix (fun fuel env s3=>env 1 = .slice ad A.length cp∧env 6 = .pointer (some ⟨p,0,none⟩)∧env 7 = .pointer (some ⟨r,0,none⟩)∧env 8 = .pointer (some ⟨t,0,none⟩)∧env 9 = .pointer (some ⟨u,0,none⟩)∧∃ (k:Nat) (H:Hp) (T:Tab) (P Q O U:Nat→Prop),fuel=71 - k∧k≤70∧env 10 = .int .i64 (k:Int)∧Four (s.next+1) s3 p r t u H T (32+3*k) k P Q O U∧HSz 1000000 H∧s.next+1≤s3.next∧∀ c,c<s.next→s3.at' c=s.at' c) 71 ⟨rfl,rfl,rfl,rfl,rfl,0,_,_,_,_,_,_,rfl,by omega,rfl,hT0,.new _ _ _ _,by omega,hold⟩ ?_
 clear hT0 hold hS3 hS4 hs4 hs34 hs3 hs23 hs2 hs1
 rintro fuel env s3 ⟨e1,e6,e7,e8,e9,k,H,T,P,Q,O,U,rfl,hk,e10,h4,hsz,hlo3,hold⟩
 rcases (show ((k:Int)<(A.length:Int)∧(k:Int)<70)∨¬ (k:Int)<(A.length:Int)∨((k:Int)<(A.length:Int)∧¬ (k:Int)<70) by omega) with ⟨k1,k2⟩|k1|⟨k1,k2⟩
 case' inr.inl=>simp -implicitDefEqProofs only[↓Zd,(Zp),simprocAttr,(A7x),e1,e8,e9,e10,k1,co27]
 case' inr.inr=>simp -implicitDefEqProofs only[↓Zd,(Zp),simprocAttr,(A7x),e1,e8,e9,e10,k1,k2,co27]
 case inr.inl|inr.inr =>
  refine slike_spec h4 (by omega) fun s5 hs5=>?_
  simp -implicitDefEqProofs only[↓Zd,(Zp),simprocAttr,(HEx),(HEx),e6,co26]
  refine hdump_spec (h4.le hs5).hp (by omega) hsz fun s6 hs6=>?_
  simp -implicitDefEqProofs only[↓Zd,(Zp),simprocAttr,(HEx),(HEx),e7,co28]
  refine rdump_spec ((h4.le hs5).le hs6).hr (by omega) hsz fun s7 hs7=>?_
  simp -implicitDefEqProofs only[↓Zd,(Zp),simprocAttr,(HEx),(HEx),co11]
  refine works17_spec ?_
  simp -implicitDefEqProofs only[↓Zd,(Zp),simprocAttr,(HEx),(HEx)]
  exact hR _
 have hkA:k<A.length:=by omega
 have hx:A[k]?=some A[k]:=by simp[hkA]
 have hxok:=hok _ (List.mem_of_getElem? hx)
 generalize A[k]=x at hx hxok
 rcases hA with rfl|⟨j,us,rfl,hj,hjb,hus⟩
 ·simp at hkA
 have hux:us[k]?=some x:=by rw[hus k hkA];exact hx
 obtain⟨c1,c2⟩:=acts17_cut us k x hux
 have hjb3:s3.at' j=some (.cells (us.flatMap act17C) 38 false):=by rw[hold j hj];exact hjb
 have hkk:(0:Int)≤(k:Int)∧(k:Int)<(A.length:Int):=by omega
 have w1:IntKind.i64.wrap ((k:Int)+1)=((k+1:Nat):Int):=by rw[wrap_i64 (by omega)];omega
 obtain⟨x0,x1,x2,x3,x4,x5,v1,v2,v3⟩:=x
 have c2:List.take 9 (List.drop (k*9) (us.flatMap act17C))=[.int .i64 x0,.int .i64 x1,.int .i64 x2,.int .i64 x3,.int .i64 x4,.string x5,.int .i64 v1,.int .i64 v2,.string v3]:=c2
 simp -implicitDefEqProofs only[↓Zd,(Zp),simprocAttr,cut,cld2,(A7x),e1,e10,k1,k2,hkk,hjb3,c1,c2,co10]
 refine long17_spec ?_
 have l5:s3.le (s3.new (.cells [.int .i64 x0,.int .i64 x1,.int .i64 x2,.int .i64 x3,.int .i64 x4,.string x5,.int .i64 v1,.int .i64 v2,.string v3] 38 true)):=lN (lR _)
 generalize s3.new (.cells [.int .i64 x0,.int .i64 x1,.int .i64 x2,.int .i64 x3,.int .i64 x4,.string x5,.int .i64 v1,.int .i64 v2,.string v3] 38 true)=s5 at l5 ⊢
 have h5:=h4.le l5
 have hn5:=l5.1
 by_cases hl:(decide ((300:Int)<x5.size) || decide ((300:Int)<v3.size))=true
 ·rw[hl]
  simp -implicitDefEqProofs only[↓Zd,(Zp),simprocAttr,(HEx),(HEx),co11]
  refine works17_spec ?_
  simp -implicitDefEqProofs only[↓Zd,(Zp),simprocAttr,(HEx),(HEx)]
  exact hR _
 rw[Bool.eq_false_iff.2 hl]
 have hl2:x5.size≤300∧v3.size≤300:=by
  simp only[Bool.or_eq_true,decide_eq_true_eq,not_or]at hl
  omega
 have hpsz:PSz 1000000 (x5,(v1,v2,v3)):=⟨by show x5.size≤_;omega,by show v3.size≤_;omega,hxok.2.2.2.2.2.2⟩
 have hjb5:=(l5.2 j (by omega)).trans hjb3
 simp -implicitDefEqProofs only[↓Zd,(Zp),simprocAttr,cut,cld2,(HEx),(HEx),(A7x),e1,e6,e7,e8,e9,e10,hkk,hjb5,c1,c2,co14]
 refine sdone_spec (x:=⟨x0,x1,x2,x3,x4,x5,v1,v2,v3⟩) h5 (by omega) hxok (by omega) (by omega) (by omega) hsz hpsz fun s6 H' T' P' Q' O' U' h6 hsz6 hn6 hk6=>?_
 have hold6:∀ c,c<s.next→s6.at' c=s.at' c:=fun c hc=>by
  rw[hk6 c (by omega) (fun hb=>by have:=(h5.hp.own c hb).1;omega) (fun hb=>by have:=(h5.ht.own c hb).1;omega) (fun hb=>by have:=(h5.hr.own c hb).1;omega) (fun hb=>by have:=(h5.hu.own c hb).1;omega),l5.2 c (by omega)]
  exact hold c hc
 by_cases h8:(k:Int).tmod 6=0
 ·simp -implicitDefEqProofs only[↓Zd,(Zp),Zr,simprocAttr,(HEx),(HEx),e8,e9,e10,h8,co27]
  refine slike_spec h6 (by omega) fun s7 hs7=>?_
  simp -implicitDefEqProofs only[↓Zd,(Zp),simprocAttr,(HEx),(HEx),e1,e6,e7,e8,e9,e10,w1]
  exact⟨71 - (k+1),by omega,k+1,_,_,_,_,_,_,rfl,by omega,rfl,(h6.le hs7).mono (by omega) (by omega),hsz6,by have:=hs7.1;omega,fun c hc=>(hs7.2 c (by omega)).trans (hold6 c hc)⟩
 ·simp -implicitDefEqProofs only[↓Zd,(Zp),Zr,simprocAttr,(HEx),(HEx),e1,e6,e7,e8,e9,e10,w1,h8]
  exact⟨71 - (k+1),by omega,k+1,_,_,_,_,_,_,rfl,by omega,rfl,h6.mono (by omega) (by omega),hsz6,by omega,hold6⟩
end
theorem sitePlays_walk{n:Int}{A us:List A17D}{cp:Nat}{oi:Option BI}{ad:Nat→Option Addr}{v:Value}{w:World}(hf:(Lit.int .u8 n).wf=true)(hr:∀ ρ,QIn ρ w oi (us.flatMap act17C))(hv:∀ (ρ:Ren) j,ρ j=oi→VRel ρ (.slice (ad j) A.length cp) v)(hok:∀ a∈A,Act17Ok a)(ht:A=[]∨(ad=fun j=>some ⟨j,0,none⟩)∧∀ k,k<A.length→us[k]?=A[k]?)(hl:A.length≤9223372036854775807) :
  Calls prog 5 #[.int .u8 n,v] w fun e w'=>e = .returned (.bool true)∧Below w.heap.size w w':=by
 refine calls_q (L:=[(38,us.flatMap act17C)]) (B:=[oi]) (args:=#[.int .u8 n,.slice (ad 0) A.length cp]) rfl ?_ ⟨rfl,?_⟩ (sitePlays_spec ?_ ?_ hok hl fun _=>rfl)
 ·intro j oi' r h1 h2
  match j,h1,h2 with
  |0,h1,h2=>cases h1;cases h2;exact hr _
 ·intro i hi
  match i,hi with
  |0,_=>exact .int _ _
  |1,_=>exact hv _ 0 rfl
 ·simp only[Lit.wf,Bool.and_eq_true,decide_eq_true_eq]at hf;exact hf
 ·rcases ht with ht|⟨rfl,ht⟩
  ·exact .inl ht
  ·exact .inr ⟨0,us,rfl,Nat.zero_lt_one,rfl,ht⟩
end Go.Proofs.Tryz
