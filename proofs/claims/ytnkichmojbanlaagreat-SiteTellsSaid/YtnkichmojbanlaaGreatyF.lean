/- Lemmas, laid one behind the other by squeeze2.py. -/
import Derived.Test.YtnkichmojbanlaaGreatyE
set_option linter.unusedSimpArgs false
set_option linter.unusedVariables false
set_option linter.unusedSectionVars false
set_option linter.defProp false
namespace Go.Proofs.Tryz
open Go.Cs
open Go.RowKit (Below)
set_option maxRecDepth 100000
attribute [local irreducible] QC WLoop WScope CRound WRange
set_option maxHeartbeats 32000000
variable {M:Type}[Mem M]{w0:World}{s:St M}{R:Value→St M→Prop}
theorem mkn8:cmks prog 33 (.int .i64 8) (.int .i64 8)=some (.cells ((List.replicate 8 (⟨#[]⟩:ByteArray)).map Value.string) 9 true,fun b => .slice (some ⟨b,0,none⟩) 8 8):=by kernel_rfl
theorem mkb8:cmks prog 34 (.int .i64 8) (.int .i64 8)=some (.cells ((List.replicate 8 false).map Value.bool) 4 true,fun b => .slice (some ⟨b,0,none⟩) 8 8):=by kernel_rfl
theorem newT_nm:NmOk (newT [3,2,-1]) (List.replicate 8 ⟨#[]⟩) (List.replicate 8 false):=by
 refine⟨rfl,rfl,by decide,fun a b ha hb _=>⟨fun _=>⟨?_,rfl⟩,fun h=>by cases h⟩⟩
 rw[List.getElem?_replicate,if_pos (by omega)]
section
theorem dot_extract(x:ByteArray):((⟨#[46]⟩:ByteArray)++x).extract 1 (1+x.size)=x:=by
 apply ByteArray.ext
 rw[ByteArray.data_extract,ByteArray.data_append]
 apply Array.toList_inj.1
 rw[Array.toList_extract,Array.toList_append]
 show List.take _ (List.drop 1 (46::x.data.toList))=_
 rw[List.drop_succ_cons,List.drop_zero]
 exact List.take_of_length_le (by show x.data.size≤1+x.data.size - 1;omega)
theorem sl_dot{x:ByteArray}:cslice prog 9 (.string (⟨#[46]⟩++x)) (some (.int .i64 1)) none none=some (.string x):=by
 have hs:((⟨#[46]⟩:ByteArray)++x).size=1+x.size:=by rw[ByteArray.size_append];rfl
 unfold cslice cbound
 simp only[underlying9,hs]
 simp[dot_extract,show (1:Int)≤1+(x.size:Int) by omega]
theorem st_kind(T:Tab)(f k:Int):(stN T f k=3∧((stE T f k).length:Int)=0)∨(stN T f k=0∧((stE T f k).length:Int)=0)∨(¬ stN T f k=3∧¬ stN T f k=0∧¬ ((stE T f k).length:Int)=0):=by
 unfold stN stE
 by_cases h:hasT T f k
 ·cases hm:(siteAt T f k).mega with
  |true=>exact .inl ⟨by rw[if_pos h,if_pos rfl],by rw[if_neg (fun hc=>by cases hc.2)];rfl⟩
  |false =>
   rw[if_pos h,if_neg (by decide),if_pos ⟨h,rfl⟩]
   by_cases h0:((siteAt T f k).es.length:Int)=0
   ·exact .inr (.inl ⟨by omega,h0⟩)
   ·exact .inr (.inr ⟨by omega,by omega,h0⟩)
 ·exact .inr (.inl ⟨by rw[if_neg h],by rw[if_neg (fun hc=>h hc.1)];rfl⟩)
structure Noted(s0 s:St M)(p t r f bn bg:Nat)(H:Hp)(T:Tab)(k:Nat)(P O:Nat→Prop)(nm:List ByteArray)(gt:List Bool):Prop where
 te:Tells s0.next s p t r f H T (32+3*k) k P O
 cn:s.at' bn=some (.cells (nm.map Value.string) 9 true)
 cg:s.at' bg=some (.cells (gt.map Value.bool) 4 true)
 lt:s0.next≤bn∧bn<s.next∧bn<bg∧bg<s.next
 rf:r<bn∧f<bn
 nO:(¬ P bn∧¬ O bn)∧¬ P bg∧¬ O bg
 old:∀ c,c<s0.next→s.at' c=s0.at' c
theorem Noted.le{s0 s':St M}{p t r f bn bg k:Nat}{H:Hp}{T:Tab}{P O:Nat→Prop}{nm:List ByteArray}{gt:List Bool}(h:Noted s0 s p t r f bn bg H T k P O nm gt)(hs:s.le s'):Noted s0 s' p t r f bn bg H T k P O nm gt:=by
 have hl:=h.lt
 have hn:=hs.1
 exact⟨h.te.le hs,(hs.2 _ hl.2.1).trans h.cn,(hs.2 _ hl.2.2.2).trans h.cg,⟨hl.1,by omega,hl.2.2.1,by omega⟩,h.rf,h.nO,fun c hc=>(hs.2 c (by omega)).trans (h.old c hc)⟩
theorem Noted.up{s0:St M}{p t r f bn bg k:Nat}{H:Hp}{T:Tab}{P O:Nat→Prop}{nm:List ByteArray}{gt:List Bool}(h:Noted s0 s p t r f bn bg H T k P O nm gt):Noted s0 s p t r f bn bg H T (k+1) P O nm gt:=
 ⟨h.te.mono (by omega) (by omega),h.cn,h.cg,h.lt,h.rf,h.nO,h.old⟩
theorem Noted.note{s0:St M}{p t r f bn bg k:Nat}{H:Hp}{T:Tab}{P O:Nat→Prop}{nm:List ByteArray}{gt:List Bool}(h:Noted s0 s p t r f bn bg H T k P O nm gt){i:Nat}{y:ByteArray}{z:Bool} :
  Noted s0 ((s.put bn (.cells ((nm.map Value.string).set i (.string y)) 9 true)).put bg (.cells ((gt.map Value.bool).set i (.bool z)) 4 true)) p t r f bn bg H T k P O (nm.set i y) (gt.set i z):=by
 obtain⟨l1,l2,l3,l4⟩:=h.lt
 obtain⟨⟨n1,n2⟩,n3,n4⟩:=h.nO
 obtain⟨r1,r2⟩:=h.rf
 refine⟨h.te.keep (Nat.le_refl _) fun c hc=>?_,?_,?_,⟨l1,l2,l3,l4⟩,h.rf,h.nO,fun c hc=>?_⟩
 ·rw[St.at_put,if_neg,St.at_put,if_neg]
  ·rintro rfl;rcases hc with hc|hc|hc|hc;exact n1 hc;exact n2 hc;omega;omega
  ·rintro rfl;rcases hc with hc|hc|hc|hc;exact n3 hc;exact n4 hc;omega;omega
 ·rw[St.at_put,if_neg (by omega),St.at_put,if_pos rfl,List.map_set]
 ·rw[St.at_put,if_pos rfl,List.map_set]
 ·rw[St.at_put,if_neg (by omega),St.at_put,if_neg (by omega)]
  exact h.old c hc
theorem Noted.done{s0 s':St M}{p t r f u bn bg k:Nat}{H H':Hp}{T T':Tab}{P O P' O':Nat→Prop}{nm:List ByteArray}{gt:List Bool}(h:Noted s0 s p t r f bn bg H T k P O nm gt)(hu:bg<u)(ht:Tells s0.next s' p t r f H' T' (32+3*k+3) (k+1) P' O')(hn:s.next≤s'.next)(hk:∀ c,c<s.next→¬ P c→¬ O c→c≠u→s'.at' c=s.at' c)
  (oP:∀ c,P' c→P c∨s.next≤c)(oO:∀ c,O' c→O c∨s.next≤c):Noted s0 s' p t r f bn bg H' T' (k+1) P' O' nm gt:=by
 obtain⟨l1,l2,l3,l4⟩:=h.lt
 obtain⟨⟨n1,n2⟩,n3,n4⟩:=h.nO
 refine⟨ht.mono (by omega) (by omega),(hk bn l2 n1 n2 (by omega)).trans h.cn,(hk bg l4 n3 n4 (by omega)).trans h.cg,⟨l1,by omega,l3,by omega⟩,h.rf,⟨⟨fun hc=>?_,fun hc=>?_⟩,fun hc=>?_,fun hc=>?_⟩,fun c hc=>(hk c (by omega) (fun hP=>by have:=(h.te.hp.own c hP).1;omega) (fun hO=>by have:=(h.te.ht.own c hO).1;omega) (by omega)).trans (h.old c hc)⟩
 ·rcases oP _ hc with h5|h5;exact n1 h5;omega
 ·rcases oO _ hc with h5|h5;exact n2 h5;omega
 ·rcases oP _ hc with h5|h5;exact n3 h5;omega
 ·rcases oO _ hc with h5|h5;exact n4 h5;omega
theorem siteTells_spec{A:List A17D}{ad:Option Addr}{cp:Nat}(hA:QRow 38 act17C s ad A)(hok:∀ a∈A,Act17Ok a)(hAl:A.length≤9223372036854775807)
  (hR:∀ s',R (.bool true) s'):QC prog w0 3 #[.slice ad A.length cp] s R:=by
 refine wfun2 hmix ok3 func3 rfl ntmps3 results3 (by simp) ?_
 have hbL:cbuild prog 26 #[(0,.int .i64 9),(2,.int .i64 14)]=some (.agg #[.int .i64 9,.int .i64 0,.int .i64 14,.int .i64 0]):=by kernel_rfl
 have hbZ:cbuild prog 26 #[]=some (.agg #[.int .i64 0,.int .i64 0,.int .i64 0,.int .i64 0]):=by kernel_rfl
 simp -implicitDefEqProofs only[↓Zd,(Zp),if_true,if_false,ne_eq,implies_true,forall_const,Nat.reduceEqDiff,reduceIte,reduceCtorEq,Int.reduceEq,Int.reduceNeg,Int.reduceLE,Int.reduceLT,Nat.reduceAdd,Nat.reduceLeDiff,Int.reduceToNat,Nat.reduceMul,Nat.reduceBEq,qP,Value.cells,cut,qC,cld2,(HEx),(STx),vA,(HEx),(REx),(RTx),vA,(A7x),underlying26,sz26,is26,ce26,ag26,ze26,fa26x0,fa26x1,fa26x2,fa26x3,hbL,hbZ,co6]
 refine hnew_spec fun s1 p hH1 hs1=>?_
 have hn1:=hs1.1
 simp -implicitDefEqProofs only[↓Zd,(Zp),if_true,if_false,ne_eq,implies_true,forall_const,Nat.reduceEqDiff,reduceIte,reduceCtorEq,Int.reduceEq,Int.reduceNeg,Int.reduceLE,Int.reduceLT,Nat.reduceAdd,Nat.reduceLeDiff,Int.reduceToNat,Nat.reduceMul,Nat.reduceBEq,qP,Value.cells,cut,qC,cld2,(HEx),(STx),vA,(HEx),(REx),(RTx),vA,(A7x),underlying26,sz26,is26,ce26,ag26,ze26,fa26x0,fa26x1,fa26x2,fa26x3,hbL,hbZ,co7]
 refine rzNew rfl rfl rfl fun s2 r f hz hs2 hr hf=>?_
 have hn2:=hs2.1
 simp -implicitDefEqProofs only[↓Zd,(Zp),if_true,if_false,ne_eq,implies_true,forall_const,Nat.reduceEqDiff,reduceIte,reduceCtorEq,Int.reduceEq,Int.reduceNeg,Int.reduceLE,Int.reduceLT,Nat.reduceAdd,Nat.reduceLeDiff,Int.reduceToNat,Nat.reduceMul,Nat.reduceBEq,qP,Value.cells,cut,qC,cld2,(HEx),(STx),vA,(HEx),(REx),(RTx),vA,(A7x),co9]
 refine sites_spec ?_
 simp -implicitDefEqProofs only[↓Zd,(Zp),if_true,if_false,ne_eq,implies_true,forall_const,Nat.reduceEqDiff,reduceIte,reduceCtorEq,Int.reduceEq,Int.reduceNeg,Int.reduceLE,Int.reduceLT,Nat.reduceAdd,Nat.reduceLeDiff,Int.reduceToNat,Nat.reduceMul,Nat.reduceBEq,qP,Value.cells,cut,qC,cld2,(HEx),(STx),vA,(HEx),(REx),(RTx),vA,(A7x),underlying31,sz31,is31,ce31,ag31,ze31,co8]
 refine snew3_spec (lb:=s2.next) ?_ ?_ fun s3 t O hS3 hs3=>?_
 ·rw[St.at_new,if_pos rfl]
 ·simp only[St.next_new];omega
 have hn3:=hs3.1
 simp only[St.next_new]at hn3 hS3
 have hs23:s2.le s3:=lT (lN (lR _)) hs3
 have hrn:=hz.rn
 have hfn:=hz.fn
 have l5:s3.le ((s3.new (.cells ((List.replicate 8 (⟨#[]⟩:ByteArray)).map Value.string) 9 true)).new (.cells ((List.replicate 8 false).map Value.bool) 4 true)):=lN (lN (lR _))
 have hT0:Noted s ((s3.new (.cells ((List.replicate 8 (⟨#[]⟩:ByteArray)).map Value.string) 9 true)).new (.cells ((List.replicate 8 false).map Value.bool) 4 true)) p t r f s3.next (s3.next+1) (newH 9 14 150) (newT [3,2,-1]) 0 (fun b=>s.next≤b∧b<s1.next) O (List.replicate 8 ⟨#[]⟩) (List.replicate 8 false):=by
  refine⟨(Tells.le (s:=s3) ⟨((hH1.mono (Nat.zero_le 32)).le hs2).le hs23,hS3.low (by omega),fun b h1 h2=>by have:=(hS3.own b h2).1;omega,newT_ok _ _,by decide,hz.le hs23,⟨fun h=>by omega,fun h=>by have:=(hS3.own r h).1;omega⟩,fun h=>by omega,fun h=>by have:=(hS3.own f h).1;omega⟩ l5),?_,?_,⟨by omega,by simp only[St.next_new];omega,by omega,by simp only[St.next_new];omega⟩,⟨by omega,by omega⟩,⟨⟨fun h=>by omega,fun h=>by have:=(hS3.own _ h).2;omega⟩,fun h=>by omega,fun h=>by have:=(hS3.own _ h).2;omega⟩,fun c hc=>?_⟩
  ·rw[St.at_new,if_neg (by simp only[St.next_new];omega),St.at_new,if_pos rfl]
  ·rw[St.at_new,if_pos (by simp only[St.next_new])]
  ·rw[l5.2 c (by omega),hs23.2 c (by omega),hs2.2 c (by omega),hs1.2 c (by omega)]
 simp -implicitDefEqProofs only[↓Zd,(Zp),if_true,if_false,ne_eq,implies_true,forall_const,Nat.reduceEqDiff,reduceIte,reduceCtorEq,Int.reduceEq,Int.reduceNeg,Int.reduceLE,Int.reduceLT,Nat.reduceAdd,Nat.reduceLeDiff,Int.reduceToNat,Nat.reduceMul,Nat.reduceBEq,qP,Value.cells,cut,qC,cld2,(HEx),(STx),vA,(HEx),(REx),(RTx),vA,(A7x),underlying33,sz33,is33,ce33,ag33,ze33,underlying34,sz34,is34,ce34,ag34,ze34,mkn8,mkb8,↓o_mks,↓f_mks]
 refine wloop_inv hmix (fun fuel env s5=>env 0 = .slice ad A.length cp∧env 3 = .pointer (some ⟨p,0,none⟩)∧env 4 = .pointer (some ⟨r,0,none⟩)∧env 5 = .pointer (some ⟨t,0,none⟩)∧env 6 = .slice (some ⟨s3.next,0,none⟩) 8 8∧env 7 = .slice (some ⟨s3.next+1,0,none⟩) 8 8∧∃ (k:Nat) (H:Hp) (T:Tab) (P O:Nat→Prop) (nm:List ByteArray) (gt:List Bool),fuel=71 - k∧k≤70∧env 8 = .int .i64 (k:Int)∧Noted s s5 p t r f s3.next (s3.next+1) H T k P O nm gt∧NmOk T nm gt) 71 ⟨rfl,rfl,rfl,rfl,rfl,rfl,0,_,_,_,_,_,_,rfl,by omega,rfl,hT0,newT_nm⟩ ?_
 generalize s3.next=bn
 generalize bn+1=bg
 clear hT0 l5 hfn hrn hs23 hn3 hs3 hS3 hz hr hf hn2 hs2 hn1 hs1 hH1
 rintro fuel env sL ⟨e0,e3,e4,e5,e6,e7,k,H,T,P,O,nm,gt,rfl,hk,e8,hT,hnm⟩
 rcases (show ((k:Int)<(A.length:Int)∧(k:Int)<70)∨¬ (k:Int)<(A.length:Int)∨((k:Int)<(A.length:Int)∧¬ (k:Int)<70) by omega) with ⟨k1,k2⟩|k1|⟨k1,k2⟩
 case' inr.inl=>simp -implicitDefEqProofs only[↓Zd,(Zp),if_true,if_false,ne_eq,implies_true,forall_const,Nat.reduceEqDiff,reduceIte,reduceCtorEq,Int.reduceEq,Int.reduceNeg,Int.reduceLE,Int.reduceLT,Nat.reduceAdd,Nat.reduceLeDiff,Int.reduceToNat,Nat.reduceMul,Nat.reduceBEq,qP,Value.cells,cut,qC,cld2,(HEx),(STx),vA,(HEx),(REx),(RTx),vA,(A7x),e0,e3,e4,e5,e6,e7,e8,k1]
 case' inr.inr=>simp -implicitDefEqProofs only[↓Zd,(Zp),if_true,if_false,ne_eq,implies_true,forall_const,Nat.reduceEqDiff,reduceIte,reduceCtorEq,Int.reduceEq,Int.reduceNeg,Int.reduceLE,Int.reduceLT,Nat.reduceAdd,Nat.reduceLeDiff,Int.reduceToNat,Nat.reduceMul,Nat.reduceBEq,qP,Value.cells,cut,qC,cld2,(HEx),(STx),vA,(HEx),(REx),(RTx),vA,(A7x),e0,e3,e4,e5,e6,e7,e8,k1,k2]
 case inr.inl|inr.inr =>
  clear hA
  refine wloop_inv hmix (fun fuel env s'=>env 3 = .pointer (some ⟨p,0,none⟩)∧env 5 = .pointer (some ⟨t,0,none⟩)∧env 6 = .slice (some ⟨bn,0,none⟩) 8 8∧env 7 = .slice (some ⟨bg,0,none⟩) 8 8∧∃ f0:Nat,env 13 = .int .i64 (f0:Int)∧f0≤2∧fuel=2 - f0∧sL.le s') 2 ⟨by simp only[upd_apply];simpa using e3,by simp only[upd_apply];simpa using e5,by simp only[upd_apply];simpa using e6,by simp only[upd_apply];simpa using e7,0,rfl,by omega,rfl,lR _⟩ ?_
  rintro fuel env2 s2 ⟨e3,e5,e6,e7,f0,e13,hf0,rfl,l2⟩
  by_cases hf:f0<2
  case neg =>
   have hf':¬ (f0:Int)<2:=by omega
   simp -implicitDefEqProofs only[↓Zd,(Zp),if_true,if_false,ne_eq,implies_true,forall_const,Nat.reduceEqDiff,reduceIte,reduceCtorEq,Int.reduceEq,Int.reduceNeg,Int.reduceLE,Int.reduceLT,Nat.reduceAdd,Nat.reduceLeDiff,Int.reduceToNat,Nat.reduceMul,Nat.reduceBEq,qP,Value.cells,cut,qC,cld2,(HEx),(STx),vA,(HEx),(REx),(RTx),vA,(A7x),e13,hf',co11]
   refine works17_spec ?_
   simp -implicitDefEqProofs only[↓Zd,(Zp),if_true,if_false,ne_eq,implies_true,forall_const,Nat.reduceEqDiff,reduceIte,reduceCtorEq,Int.reduceEq,Int.reduceNeg,Int.reduceLE,Int.reduceLT,Nat.reduceAdd,Nat.reduceLeDiff,Int.reduceToNat,Nat.reduceMul,Nat.reduceBEq,qP,Value.cells,cut,qC,cld2,(HEx),(STx),vA]
   exact hR _
  have hf':(f0:Int)<2:=by omega
  have wf:IntKind.i64.wrap ((f0:Int)+1)=((f0+1:Nat):Int):=by rw[wrap_i64 (by omega)];omega
  simp -implicitDefEqProofs only[↓Zd,(Zp),if_true,if_false,ne_eq,implies_true,forall_const,Nat.reduceEqDiff,reduceIte,reduceCtorEq,Int.reduceEq,Int.reduceNeg,Int.reduceLE,Int.reduceLT,Nat.reduceAdd,Nat.reduceLeDiff,Int.reduceToNat,Nat.reduceMul,Nat.reduceBEq,qP,Value.cells,cut,qC,cld2,(HEx),(STx),vA,(HEx),(REx),(RTx),vA,(A7x),e3,e5,e6,e7,e13,hf']
  refine wloop_inv hmix (fun fuel env s'=>env 3 = .pointer (some ⟨p,0,none⟩)∧env 5 = .pointer (some ⟨t,0,none⟩)∧env 6 = .slice (some ⟨bn,0,none⟩) 8 8∧env 7 = .slice (some ⟨bg,0,none⟩) 8 8∧env 13 = .int .i64 (f0:Int)∧∃ k0:Nat,env 14 = .int .i64 (k0:Int)∧k0≤4∧fuel=4 - k0∧sL.le s') 4 ⟨by simp only[upd_apply];simpa using e3,by simp only[upd_apply];simpa using e5,by simp only[upd_apply];simpa using e6,by simp only[upd_apply];simpa using e7,by simp only[upd_apply];simpa using e13,0,rfl,by omega,rfl,l2⟩ ?_
  rintro fuel env3 s3 ⟨e3,e5,e6,e7,e13,k0,e14,hk0,rfl,l3⟩
  by_cases hk:k0<4
  case neg =>
   have hk':¬ (k0:Int)<4:=by omega
   simp -implicitDefEqProofs only[↓Zd,(Zp),if_true,if_false,ne_eq,implies_true,forall_const,Nat.reduceEqDiff,reduceIte,reduceCtorEq,Int.reduceEq,Int.reduceNeg,Int.reduceLE,Int.reduceLT,Nat.reduceAdd,Nat.reduceLeDiff,Int.reduceToNat,Nat.reduceMul,Nat.reduceBEq,qP,Value.cells,cut,qC,cld2,(HEx),(STx),vA,(HEx),(REx),(RTx),vA,(A7x),e3,e5,e6,e7,e13,e14,hk',wf]
   exact⟨2 - (f0+1),by omega,f0+1,rfl,by omega,rfl,l3⟩
  have hk':(k0:Int)<4:=by omega
  have wk:IntKind.i64.wrap ((k0:Int)+1)=((k0+1:Nat):Int):=by rw[wrap_i64 (by omega)];omega
  have hT3:=hT.le l3
  simp -implicitDefEqProofs only[↓Zd,(Zp),if_true,if_false,ne_eq,implies_true,forall_const,Nat.reduceEqDiff,reduceIte,reduceCtorEq,Int.reduceEq,Int.reduceNeg,Int.reduceLE,Int.reduceLT,Nat.reduceAdd,Nat.reduceLeDiff,Int.reduceToNat,Nat.reduceMul,Nat.reduceBEq,qP,Value.cells,cut,qC,cld2,(HEx),(STx),vA,(HEx),(REx),(RTx),vA,(A7x),e3,e5,e6,e7,e13,e14,hk',co13]
  refine tstate2_spec hT3.te.ht hT3.te.fs hT3.te.ok hT3.te.hp.ok hT3.te.hp.fok fun s4 v l34 hE=>?_
  have hn4:=l34.1
  have l4:=lT l3 l34
  have hT4:=hT3.le l34
  obtain⟨q1,c1,rfl⟩:=hE.form
  obtain⟨hes,_⟩:=hT3.te.ok.few hT3.te.hp.ok hT3.te.hp.fok (f0:Int) (k0:Int)
  have hst:=st_kind T (f0:Int) (k0:Int)
  have hge:∀ e∈stE T (f0:Int) (k0:Int),gt[4*f0+k0]?=some true→∃ x,nm[4*f0+k0]?=some (⟨#[46]⟩++x)∧GetOk H x e:=fun e he hgt=>by
   unfold stE at he
   split at he
   ·rename_i hc
    obtain⟨hh,_⟩:=hc
    have hz:=hT3.te.ok.has hh
    rw[siteAt_nat]at he hz
    obtain⟨_,_,_,h4⟩:=hnm
    have h9:(k0:Int)<(T.n (f0:Int).toNat:Int):=hh.2.2.2
    rw[Int.toNat_natCast]at h9
    cases hu:(T.st f0 k0).used with
    |false=>rw[hz.fresh hu]at he;cases he
    |true =>
     obtain⟨g1,g2⟩:=(h4 f0 k0 hf hk (by omega)).2 hu
     rw[hgt]at g2
     have g3:(T.st f0 k0).sets=false:=by cases hs:(T.st f0 k0).sets with
      |false=>rfl
      |true=>rw[hs]at g2;cases g2
     exact⟨_,g1,hz.gets g3 e he⟩
   ·cases he
  generalize stE T (f0:Int) (k0:Int)=es at hE hes hst hge ⊢
  have hes':¬ (4:Int)<(es.length:Int):=by omega
  rcases hst with ⟨z1,z2⟩|⟨z1,z2⟩|⟨z1,z2,z3⟩
  case' inl=>simp -implicitDefEqProofs only[↓Zd,(Zp),if_true,if_false,ne_eq,implies_true,forall_const,Nat.reduceEqDiff,reduceIte,reduceCtorEq,Int.reduceEq,Int.reduceNeg,Int.reduceLE,Int.reduceLT,Nat.reduceAdd,Nat.reduceLeDiff,Int.reduceToNat,Nat.reduceMul,Nat.reduceBEq,qP,Value.cells,cut,qC,cld2,(HEx),(STx),vA,(HEx),(REx),(RTx),vA,(A7x),e3,e5,e6,e7,e13,e14,hes',z1,z2,decide_true,decide_false]
  case' inr.inl=>simp -implicitDefEqProofs only[↓Zd,(Zp),if_true,if_false,ne_eq,implies_true,forall_const,Nat.reduceEqDiff,reduceIte,reduceCtorEq,Int.reduceEq,Int.reduceNeg,Int.reduceLE,Int.reduceLT,Nat.reduceAdd,Nat.reduceLeDiff,Int.reduceToNat,Nat.reduceMul,Nat.reduceBEq,qP,Value.cells,cut,qC,cld2,(HEx),(STx),vA,(HEx),(REx),(RTx),vA,(A7x),e3,e5,e6,e7,e13,e14,hes',z1,z2,decide_true,decide_false]
  case' inr.inr=>simp -implicitDefEqProofs only[↓Zd,(Zp),if_true,if_false,ne_eq,implies_true,forall_const,Nat.reduceEqDiff,reduceIte,reduceCtorEq,Int.reduceEq,Int.reduceNeg,Int.reduceLE,Int.reduceLT,Nat.reduceAdd,Nat.reduceLeDiff,Int.reduceToNat,Nat.reduceMul,Nat.reduceBEq,qP,Value.cells,cut,qC,cld2,(HEx),(STx),vA,(HEx),(REx),(RTx),vA,(A7x),e3,e5,e6,e7,e13,e14,hes',z1,z2,z3,decide_true,decide_false]
  all_goals
   refine wloop_inv hmix (fun fuel env s'=>env 3 = .pointer (some ⟨p,0,none⟩)∧env 5 = .pointer (some ⟨t,0,none⟩)∧env 6 = .slice (some ⟨bn,0,none⟩) 8 8∧env 7 = .slice (some ⟨bg,0,none⟩) 8 8∧env 13 = .int .i64 (f0:Int)∧env 14 = .int .i64 (k0:Int)∧env 16 = .slice q1 es.length c1∧∃ m:Nat,env 17 = .int .i64 (m:Int)∧m≤es.length∧fuel=es.length - m∧s4.le s') (es.length - 0) ⟨by simp only[upd_apply];simpa using e3,by simp only[upd_apply];simpa using e5,by simp only[upd_apply];simpa using e6,by simp only[upd_apply];simpa using e7,by simp only[upd_apply];simpa using e13,by simp only[upd_apply];simpa using e14,rfl,0,rfl,by omega,rfl,lR _⟩ ?_
   rintro fuel env4 s6 ⟨e3,e5,e6,e7,e13,e14,e16,m,e17,hm1,rfl,l6⟩
   have hn6:=l6.1
   have hgo:∃ m_1,m_1<4 - k0∧∃ k1:Nat,Value.int .i64 ((k0+1:Nat):Int) = .int .i64 (k1:Int)∧k1≤4∧m_1=4 - k1∧sL.le s6:=⟨4 - (k0+1),by omega,k0+1,rfl,by omega,rfl,lT l4 l6⟩
   by_cases hm:m<es.length
   case neg =>
    have hm':¬ (m:Int)<(es.length:Int):=by omega
    simp -implicitDefEqProofs only[↓Zd,(Zp),if_true,if_false,ne_eq,implies_true,forall_const,Nat.reduceEqDiff,reduceIte,reduceCtorEq,Int.reduceEq,Int.reduceNeg,Int.reduceLE,Int.reduceLT,Nat.reduceAdd,Nat.reduceLeDiff,Int.reduceToNat,Nat.reduceMul,Nat.reduceBEq,qP,Value.cells,cut,qC,cld2,(HEx),(STx),vA,(HEx),(REx),(RTx),vA,(A7x),e3,e5,e6,e7,e13,e14,e16,e17,hm',wk]
    exact hgo
   have hm':(m:Int)<(es.length:Int):=by omega
   have hmm:(0:Int)≤(m:Int)∧(m:Int)<(es.length:Int):=by omega
   have wm:IntKind.i64.wrap ((m:Int)+1)=((m+1:Nat):Int):=by rw[wrap_i64 (by omega)];omega
   have w4:IntKind.i64.wrap (4*(f0:Int))=((4*f0:Nat):Int):=by rw[wrap_i64 (by omega)];omega
   have w5:IntKind.i64.wrap (((4*f0:Nat):Int)+(k0:Int))=((4*f0+k0:Nat):Int):=by rw[wrap_i64 (by omega)];omega
   have hb8:(0:Int)≤((4*f0+k0:Nat):Int)∧((4*f0+k0:Nat):Int)<((8:Nat):Int):=by omega
   have hb9:((4*f0+k0:Nat):Int)<((8:Nat):Int):=hb8.2
   have cn6:=(hT4.le l6).cn
   have cg6:=(hT4.le l6).cg
   generalize 4*f0=ff at w4 w5 hb8 hb9 hge
   obtain⟨gl,hgl⟩:∃ y,gt[ff+k0]?=some y:=⟨gt[ff+k0]'(by have:=hnm.2.1;omega),List.getElem?_eq_getElem _⟩
   have g7:(gt.map Value.bool)[ff+k0]?=some (.bool gl):=by rw[List.getElem?_map,hgl];rfl
   cases gl with
   |false =>
    simp -implicitDefEqProofs only[↓Zd,(Zp),if_true,if_false,ne_eq,implies_true,forall_const,Nat.reduceEqDiff,reduceIte,reduceCtorEq,Int.reduceEq,Int.reduceNeg,Int.reduceLE,Int.reduceLT,Nat.reduceAdd,Nat.reduceLeDiff,Int.reduceToNat,Nat.reduceMul,Nat.reduceBEq,qP,Value.cells,cut,qC,cld2,(HEx),(STx),vA,(HEx),(REx),(RTx),vA,(A7x),underlying33,sz33,is33,ce33,ag33,ze33,underlying34,sz34,is34,ce34,ag34,ze34,e3,e5,e6,e7,e13,e14,e16,e17,hm',w4,w5,hb8,hb9,cg6,g7,wk,Nat.mul_one,Nat.zero_add,Nat.add_zero]
    exact hgo
   |true =>
    rcases id hE with ⟨d1,g1,gO1,gD1,_⟩
    rcases id g1 with ⟨h0,_,_⟩|⟨b1,j1,hv,g1b,_⟩
    ·omega
    cases hv
    have hb1n:b1<s4.next:=(gO1 _ _ _ rfl).2
    have g1b:s4.at' b1=some (.cells (rows (fun j=>entC (es.getD j Tryz.e0) (d1 j)) es.length++j1) 51 true):=g1b
    have g1c:=(l6.2 _ hb1n).trans g1b
    obtain⟨u1,u2⟩:=rows_cut (c:=fun j=>entC (es.getD j Tryz.e0) (d1 j)) (k:=5) (fun _=>rfl) j1 hm
    have hD1:=gD1 m hm
    have hmem:es.getD m Tryz.e0∈es:=by rw[getD_at hm];exact List.getElem_mem hm
    obtain⟨x,hx1,hx2⟩:=hge _ hmem hgl
    generalize es.getD m Tryz.e0=e at hD1 hx2 u2
    have u3:List.take 5 (List.drop (m*5) (rows (fun j=>entC (es.getD j Tryz.e0) (d1 j)) es.length++j1))=[.int .i64 (e.shape:Int),.int .i64 e.holder,.int .i64 e.slot,.int .i64 (e.to:Int),d1 m]:=u2
    have g6:(nm.map Value.string)[ff+k0]?=some (.string (⟨#[46]⟩++x)):=by rw[List.getElem?_map,hx1];rfl
    simp -implicitDefEqProofs only[↓Zd,(Zp),if_true,if_false,ne_eq,implies_true,forall_const,Nat.reduceEqDiff,reduceIte,reduceCtorEq,Int.reduceEq,Int.reduceNeg,Int.reduceLE,Int.reduceLT,Nat.reduceAdd,Nat.reduceLeDiff,Int.reduceToNat,Nat.reduceMul,Nat.reduceBEq,qP,Value.cells,cut,qC,cld2,(HEx),(STx),vA,(HEx),(REx),(RTx),vA,(A7x),underlying33,sz33,is33,ce33,ag33,ze33,underlying34,sz34,is34,ce34,ag34,ze34,e3,e5,e6,e7,e13,e14,e16,e17,hm',hmm,w4,w5,hb8,hb9,cg6,cn6,g6,g7,wk,g1c,u1,u3,sl_dot,ze51,Nat.mul_one,Nat.zero_add,Nat.add_zero,ord3,co16]
    refine .inl (stells_spec (e:=e) (dl:=d1 m) (D:=fun b=>s3.next≤b∧b<s4.next) ((hT4.le l6).te.hp) (hD1.same fun b hb=>⟨hb,l6.2 b hb.2⟩) (fun b hb=>by have:=hb.2;omega) hx2 fun s7 l7=>?_)
    simp -implicitDefEqProofs only[↓Zd,(Zp),if_true,if_false,ne_eq,implies_true,forall_const,Nat.reduceEqDiff,reduceIte,reduceCtorEq,Int.reduceEq,Int.reduceNeg,Int.reduceLE,Int.reduceLT,Nat.reduceAdd,Nat.reduceLeDiff,Int.reduceToNat,Nat.reduceMul,Nat.reduceBEq,qP,Value.cells,cut,qC,cld2,(HEx),(STx),vA,(HEx),(REx),(RTx),vA,(A7x),e3,e5,e6,e7,e13,e14,e16,e17,wm,sl_dot,ord3]
    exact⟨_,Nat.sub_lt_sub_left hm (Nat.lt_succ_self m),m+1,rfl,by omega,rfl,lT l6 l7⟩
 have hkA:k<A.length:=by omega
 have hx:A[k]?=some A[k]:=by simp[hkA]
 have hxok:=hok _ (List.mem_of_getElem? hx)
 generalize A[k]=x at hx hxok
 rcases hA with rfl|⟨j,us,rfl,hj,hjb,hus⟩
 ·simp at hkA
 have hux:us[k]?=some x:=by rw[hus k hkA];exact hx
 obtain⟨c1,c2⟩:=acts17_cut us k x hux
 have hjb3:sL.at' j=some (.cells (us.flatMap act17C) 38 false):=by rw[hT.old j hj];exact hjb
 have hkk:(0:Int)≤(k:Int)∧(k:Int)<(A.length:Int):=by omega
 have hz30:=ze38
 have hlt:=hT.lt
 have hjn:¬ j=sL.next:=by omega
 have w1:IntKind.i64.wrap ((k:Int)+1)=((k+1:Nat):Int):=by rw[wrap_i64 (by omega)];omega
 obtain⟨x0,x1,x2,x3,x4,x5,v1,v2,v3⟩:=x
 have c2:List.take 9 (List.drop (k*9) (us.flatMap act17C))=[.int .i64 x0,.int .i64 x1,.int .i64 x2,.int .i64 x3,.int .i64 x4,.string x5,.int .i64 v1,.int .i64 v2,.string v3]:=c2
 simp -implicitDefEqProofs only[↓Zd,(Zp),if_true,if_false,ne_eq,implies_true,forall_const,Nat.reduceEqDiff,reduceIte,reduceCtorEq,Int.reduceEq,Int.reduceNeg,Int.reduceLE,Int.reduceLT,Nat.reduceAdd,Nat.reduceLeDiff,Int.reduceToNat,Nat.reduceMul,Nat.reduceBEq,qP,Value.cells,cut,qC,cld2,(HEx),(STx),vA,(HEx),(REx),(RTx),vA,(A7x),hz30,e0,e3,e4,e5,e6,e7,e8,k1,k2,hkk,hjb3,hjn,c1,c2,co10]
 refine long17_spec ?_
 have hxo:=hxok
 obtain⟨q0,q1,q2,q3,q4,q5,q6⟩:=hxok
 simp only[I64]at q0 q1 q2 q3 q4 q5 q6
 have l6:sL.le (((sL.new (.cells [.int .i64 0,.int .i64 0,.int .i64 0,.int .i64 0,.int .i64 0,.string ⟨#[]⟩,.int .i64 0,.int .i64 0,.string ⟨#[]⟩] 38 true)).put sL.next (.cells [.int .i64 x0,.int .i64 x1,.int .i64 x2,.int .i64 x3,.int .i64 x4,.string x5,.int .i64 v1,.int .i64 v2,.string v3] 38 true)).new (.cells [.int .i64 x0,.int .i64 x1,.int .i64 x2,.int .i64 x3,.int .i64 x4,.string x5,.int .i64 v1,.int .i64 v2,.string v3] 38 true)):=lN (lP (lN (lR _)) (Nat.le_refl _))
 have c9:(((sL.new (.cells [.int .i64 0,.int .i64 0,.int .i64 0,.int .i64 0,.int .i64 0,.string ⟨#[]⟩,.int .i64 0,.int .i64 0,.string ⟨#[]⟩] 38 true)).put sL.next (.cells [.int .i64 x0,.int .i64 x1,.int .i64 x2,.int .i64 x3,.int .i64 x4,.string x5,.int .i64 v1,.int .i64 v2,.string v3] 38 true)).new (.cells [.int .i64 x0,.int .i64 x1,.int .i64 x2,.int .i64 x3,.int .i64 x4,.string x5,.int .i64 v1,.int .i64 v2,.string v3] 38 true)).at' sL.next=some (.cells [.int .i64 x0,.int .i64 x1,.int .i64 x2,.int .i64 x3,.int .i64 x4,.string x5,.int .i64 v1,.int .i64 v2,.string v3] 38 true):=by
  rw[St.at_new,if_neg (by simp only[(Sn)];omega),St.at_put,if_pos rfl]
 have n6:(((sL.new (.cells [.int .i64 0,.int .i64 0,.int .i64 0,.int .i64 0,.int .i64 0,.string ⟨#[]⟩,.int .i64 0,.int .i64 0,.string ⟨#[]⟩] 38 true)).put sL.next (.cells [.int .i64 x0,.int .i64 x1,.int .i64 x2,.int .i64 x3,.int .i64 x4,.string x5,.int .i64 v1,.int .i64 v2,.string v3] 38 true)).new (.cells [.int .i64 x0,.int .i64 x1,.int .i64 x2,.int .i64 x3,.int .i64 x4,.string x5,.int .i64 v1,.int .i64 v2,.string v3] 38 true)).next=sL.next+2:=rfl
 generalize (((sL.new (.cells [.int .i64 0,.int .i64 0,.int .i64 0,.int .i64 0,.int .i64 0,.string ⟨#[]⟩,.int .i64 0,.int .i64 0,.string ⟨#[]⟩] 38 true)).put sL.next (.cells [.int .i64 x0,.int .i64 x1,.int .i64 x2,.int .i64 x3,.int .i64 x4,.string x5,.int .i64 v1,.int .i64 v2,.string v3] 38 true)).new (.cells [.int .i64 x0,.int .i64 x1,.int .i64 x2,.int .i64 x3,.int .i64 x4,.string x5,.int .i64 v1,.int .i64 v2,.string v3] 38 true))=s6 at l6 c9 n6 ⊢
 have hN:=hT.le l6
 by_cases hl:(decide ((300:Int)<x5.size) || decide ((300:Int)<v3.size))=true
 ·rw[hl]
  simp -implicitDefEqProofs only[↓Zd,(Zp),if_true,if_false,ne_eq,implies_true,forall_const,Nat.reduceEqDiff,reduceIte,reduceCtorEq,Int.reduceEq,Int.reduceNeg,Int.reduceLE,Int.reduceLT,Nat.reduceAdd,Nat.reduceLeDiff,Int.reduceToNat,Nat.reduceMul,Nat.reduceBEq,qP,Value.cells,cut,qC,cld2,(HEx),(STx),vA,(HEx),(REx),(RTx),vA,(A7x),co11]
  refine works17_spec ?_
  simp -implicitDefEqProofs only[↓Zd,(Zp),if_true,if_false,ne_eq,implies_true,forall_const,Nat.reduceEqDiff,reduceIte,reduceCtorEq,Int.reduceEq,Int.reduceNeg,Int.reduceLE,Int.reduceLT,Nat.reduceAdd,Nat.reduceLeDiff,Int.reduceToNat,Nat.reduceMul,Nat.reduceBEq,qP,Value.cells,cut,qC,cld2,(HEx),(STx),vA]
  exact hR _
 rw[Bool.eq_false_iff.2 hl]
 have hfin:∀ {s8:St M}{H':Hp}{T':Tab}{P' O':Nat→Prop}{nm':List ByteArray}{gt':List Bool},Noted s s8 p t r f bn bg H' T' (k+1) P' O' nm' gt'→NmOk T' nm' gt'→∃ m,m<71 - k∧∃ (k':Nat) (H:Hp) (T:Tab) (P O:Nat→Prop) (nm:List ByteArray) (gt:List Bool),m=71 - k'∧k'≤70∧Value.int .i64 ((k+1:Nat):Int) = .int .i64 (k':Int)∧Noted s s8 p t r f bn bg H T k' P O nm gt∧NmOk T nm gt:=fun a b=>⟨71 - (k+1),by omega,k+1,_,_,_,_,_,_,rfl,by omega,rfl,a,b⟩
 have hsame:(∀ a b,a<2→b<4→b<T.n a→actC H T ⟨x0,x1,x2,x3,x4,x5,v1,v2,v3⟩ a b→(T.st a b).used=true)→∀ T',MarkT T T' (actC H T ⟨x0,x1,x2,x3,x4,x5,v1,v2,v3⟩) (decide (x0=2)) x5→NmOk T' nm gt:=fun hc T' hm=>hnm.same hm hc
 obtain⟨hpro,tg,pf,pn,sl,bs,hi6⟩:=id hN.te.hp
 have hsplit:¬ 0≤x1∨(0≤x1∧¬ x1<2)∨((0≤x1∧x1<2)∧¬ 0≤x2)∨((0≤x1∧x1<2)∧0≤x2∧¬ x2<4)∨((0≤x1∧x1<2)∧(0≤x2∧x2<4)∧¬ x0=1∧¬ x0=2)∨((0≤x1∧x1<2)∧(0≤x2∧x2<4)∧x0=1)∨((0≤x1∧x1<2)∧(0≤x2∧x2<4)∧¬ x0=1∧x0=2):=by omega
 refine hsplit.elim (fun a1=>?gA) fun hs=>hs.elim (fun ⟨a1,a2⟩=>?gB) fun hs=>hs.elim (fun ⟨⟨a1,a2⟩,a3⟩=>?gC) fun hs=>hs.elim (fun ⟨⟨a1,a2⟩,a3,a4⟩=>?gD) fun hs=>hs.elim (fun ⟨⟨a1,a2⟩,⟨a3,a4⟩,d1,d2⟩=>?gE) fun hs=>hs.elim (fun ⟨⟨a1,a2⟩,⟨a3,a4⟩,d1⟩=>?gF) fun ⟨⟨a1,a2⟩,⟨a3,a4⟩,d0,d1⟩=>?gG
 case' gA =>
  simp -implicitDefEqProofs only[↓Zd,(Zp),if_true,if_false,ne_eq,implies_true,forall_const,Nat.reduceEqDiff,reduceIte,reduceCtorEq,Int.reduceEq,Int.reduceNeg,Int.reduceLE,Int.reduceLT,Nat.reduceAdd,Nat.reduceLeDiff,Int.reduceToNat,Nat.reduceMul,Nat.reduceBEq,qP,Value.cells,cut,qC,cld2,(HEx),(STx),vA,(HEx),(REx),(RTx),vA,(A7x),e0,e3,e4,e5,e6,e7,e8,c9,a1,decide_false]
  have hnm7:=hsame fun a b _ _ _ hc=>absurd hc.1.1.1 a1
 case' gB =>
  simp -implicitDefEqProofs only[↓Zd,(Zp),if_true,if_false,ne_eq,implies_true,forall_const,Nat.reduceEqDiff,reduceIte,reduceCtorEq,Int.reduceEq,Int.reduceNeg,Int.reduceLE,Int.reduceLT,Nat.reduceAdd,Nat.reduceLeDiff,Int.reduceToNat,Nat.reduceMul,Nat.reduceBEq,qP,Value.cells,cut,qC,cld2,(HEx),(STx),vA,(HEx),(REx),(RTx),vA,(A7x),e0,e3,e4,e5,e6,e7,e8,c9,a1,a2,decide_false,decide_true]
  have hnm7:=hsame fun a b ha _ _ hc=>by have:a=x1.toNat:=hc.2.1;omega
 case' gC =>
  simp -implicitDefEqProofs only[↓Zd,(Zp),if_true,if_false,ne_eq,implies_true,forall_const,Nat.reduceEqDiff,reduceIte,reduceCtorEq,Int.reduceEq,Int.reduceNeg,Int.reduceLE,Int.reduceLT,Nat.reduceAdd,Nat.reduceLeDiff,Int.reduceToNat,Nat.reduceMul,Nat.reduceBEq,qP,Value.cells,cut,qC,cld2,(HEx),(STx),vA,(HEx),(REx),(RTx),vA,(A7x),e0,e3,e4,e5,e6,e7,e8,c9,a1,a2,a3,decide_false,decide_true]
  have hnm7:=hsame fun a b _ _ _ hc=>absurd hc.1.1.2.2.1 a3
 case' gD =>
  simp -implicitDefEqProofs only[↓Zd,(Zp),if_true,if_false,ne_eq,implies_true,forall_const,Nat.reduceEqDiff,reduceIte,reduceCtorEq,Int.reduceEq,Int.reduceNeg,Int.reduceLE,Int.reduceLT,Nat.reduceAdd,Nat.reduceLeDiff,Int.reduceToNat,Nat.reduceMul,Nat.reduceBEq,qP,Value.cells,cut,qC,cld2,(HEx),(STx),vA,(HEx),(REx),(RTx),vA,(A7x),e0,e3,e4,e5,e6,e7,e8,c9,a1,a2,a3,a4,decide_false,decide_true]
  have hnm7:=hsame fun a b _ hb _ hc=>by have:b=x2.toNat:=hc.2.2;omega
 case' gE =>
  simp -implicitDefEqProofs only[↓Zd,(Zp),if_true,if_false,ne_eq,implies_true,forall_const,Nat.reduceEqDiff,reduceIte,reduceCtorEq,Int.reduceEq,Int.reduceNeg,Int.reduceLE,Int.reduceLT,Nat.reduceAdd,Nat.reduceLeDiff,Int.reduceToNat,Nat.reduceMul,Nat.reduceBEq,qP,Value.cells,cut,qC,cld2,(HEx),(STx),vA,(HEx),(REx),(RTx),vA,(A7x),e0,e3,e4,e5,e6,e7,e8,c9,a1,a2,a3,a4,d1,d2,decide_false,decide_true]
  have hnm7:=hsame fun a b _ _ _ hc=>(hc.1.2.2.elim d1 d2).elim
 case' gF=>simp -implicitDefEqProofs only[↓Zd,(Zp),if_true,if_false,ne_eq,implies_true,forall_const,Nat.reduceEqDiff,reduceIte,reduceCtorEq,Int.reduceEq,Int.reduceNeg,Int.reduceLE,Int.reduceLT,Nat.reduceAdd,Nat.reduceLeDiff,Int.reduceToNat,Nat.reduceMul,Nat.reduceBEq,qP,Value.cells,cut,qC,cld2,(HEx),(STx),vA,(HEx),(REx),(RTx),vA,(A7x),e0,e3,e4,e5,e6,e7,e8,c9,a1,a2,a3,a4,d1,decide_false,decide_true,co12]
 case' gG=>simp -implicitDefEqProofs only[↓Zd,(Zp),if_true,if_false,ne_eq,implies_true,forall_const,Nat.reduceEqDiff,reduceIte,reduceCtorEq,Int.reduceEq,Int.reduceNeg,Int.reduceLE,Int.reduceLT,Nat.reduceAdd,Nat.reduceLeDiff,Int.reduceToNat,Nat.reduceMul,Nat.reduceBEq,qP,Value.cells,cut,qC,cld2,(HEx),(STx),vA,(HEx),(REx),(RTx),vA,(A7x),e0,e3,e4,e5,e6,e7,e8,c9,a1,a2,a3,a4,d0,d1,decide_false,decide_true,co12]
 case gA|gB|gC|gD|gE =>
  have hN7:=hN
  have c97:=c9
  by_cases d6:x0=6
  ·simp -implicitDefEqProofs only[↓Zd,(Zp),if_true,if_false,ne_eq,implies_true,forall_const,Nat.reduceEqDiff,reduceIte,reduceCtorEq,Int.reduceEq,Int.reduceNeg,Int.reduceLE,Int.reduceLT,Nat.reduceAdd,Nat.reduceLeDiff,Int.reduceToNat,Nat.reduceMul,Nat.reduceBEq,qP,Value.cells,cut,qC,cld2,(HEx),(STx),vA,(HEx),(REx),(RTx),vA,(A7x),e0,e3,e4,e5,e6,e7,e8,c97,d6,w1,decide_true]
   exact hfin hN7.up (hnm7 T (act_same (by rintro (h|h)<;>(have h:x0=_:=h;omega)) rfl rfl rfl))
  by_cases d7:x0=7
  ·simp -implicitDefEqProofs only[↓Zd,(Zp),if_true,if_false,ne_eq,implies_true,forall_const,Nat.reduceEqDiff,reduceIte,reduceCtorEq,Int.reduceEq,Int.reduceNeg,Int.reduceLE,Int.reduceLT,Nat.reduceAdd,Nat.reduceLeDiff,Int.reduceToNat,Nat.reduceMul,Nat.reduceBEq,qP,Value.cells,cut,qC,cld2,(HEx),(STx),vA,(HEx),(REx),(RTx),vA,(A7x),e0,e3,e4,e5,e6,e7,e8,c97,d6,d7,w1,decide_true,decide_false]
   exact hfin hN7.up (hnm7 T (act_same (by rintro (h|h)<;>(have h:x0=_:=h;omega)) rfl rfl rfl))
  simp -implicitDefEqProofs only[↓Zd,(Zp),if_true,if_false,ne_eq,implies_true,forall_const,Nat.reduceEqDiff,reduceIte,reduceCtorEq,Int.reduceEq,Int.reduceNeg,Int.reduceLE,Int.reduceLT,Nat.reduceAdd,Nat.reduceLeDiff,Int.reduceToNat,Nat.reduceMul,Nat.reduceBEq,qP,Value.cells,cut,qC,cld2,(HEx),(STx),vA,(HEx),(REx),(RTx),vA,(A7x),e0,e3,e4,e5,e6,e7,e8,c97,d6,d7,decide_false,ord3,co15]
  have hl7:=hN7.lt
  have hr7:=hN7.rf
  refine uzNew fun s8 hs8 hu hun=>?_
  have n8:=hs8.1
  have c98:=(hs8.2 sL.next (by omega)).trans c97
  simp -implicitDefEqProofs only[↓Zd,(Zp),if_true,if_false,ne_eq,implies_true,forall_const,Nat.reduceEqDiff,reduceIte,reduceCtorEq,Int.reduceEq,Int.reduceNeg,Int.reduceLE,Int.reduceLT,Nat.reduceAdd,Nat.reduceLeDiff,Int.reduceToNat,Nat.reduceMul,Nat.reduceBEq,qP,Value.cells,cut,qC,cld2,(HEx),(STx),vA,(HEx),(REx),(RTx),vA,(A7x),e0,e3,e4,e5,e6,e7,e8,c98,ord3,co14]
  refine sdone0_spec (x:=⟨x0,x1,x2,x3,x4,x5,v1,v2,v3⟩) (hN7.le hs8).te (by omega) hu hun ⟨by omega,by omega⟩ ⟨fun h=>by have:=(hN7.te.hp.own _ h).2;omega,fun h=>by have:=(hN7.te.ht.own _ h).2;omega⟩ hxo ⟨d6,d7⟩ (by omega) (by omega) (by omega) fun s9 H' T' P' O' b hT9 hm n9 k9 oP oO=>?_
  simp -implicitDefEqProofs only[↓Zd,(Zp),if_true,if_false,ne_eq,implies_true,forall_const,Nat.reduceEqDiff,reduceIte,reduceCtorEq,Int.reduceEq,Int.reduceNeg,Int.reduceLE,Int.reduceLT,Nat.reduceAdd,Nat.reduceLeDiff,Int.reduceToNat,Nat.reduceMul,Nat.reduceBEq,qP,Value.cells,cut,qC,cld2,(HEx),(STx),vA,(HEx),(REx),(RTx),vA,(A7x),e0,e3,e4,e5,e6,e7,e8,w1,ord3]
  exact hfin ((hN7.le hs8).done (by omega) hT9 n9 k9 oP oO) (hnm7 T' hm)
 all_goals
  refine hshape_spec hi6 q3 ?_
  rcases (show ¬ 0<shapeV H x3∨0<shapeV H x3 by omega) with h0|h0
  ·simp -implicitDefEqProofs only[↓Zd,(Zp),if_true,if_false,ne_eq,implies_true,forall_const,Nat.reduceEqDiff,reduceIte,reduceCtorEq,Int.reduceEq,Int.reduceNeg,Int.reduceLE,Int.reduceLT,Nat.reduceAdd,Nat.reduceLeDiff,Int.reduceToNat,Nat.reduceMul,Nat.reduceBEq,qP,Value.cells,cut,qC,cld2,(HEx),(STx),vA,(HEx),(REx),(RTx),vA,(A7x),e0,e3,e4,e5,e6,e7,e8,c9,h0,decide_false,decide_true]
   have hnm7:=hsame fun a b _ _ _ hc=>by
    have h1:shapeV H x3≠0:=hc.1.2.1
    have:0≤shapeV H x3:=by unfold shapeV;split<;>omega
    omega
   have hN7:=hN
   have c97:=c9
   by_cases d6:x0=6
   ·simp -implicitDefEqProofs only[↓Zd,(Zp),if_true,if_false,ne_eq,implies_true,forall_const,Nat.reduceEqDiff,reduceIte,reduceCtorEq,Int.reduceEq,Int.reduceNeg,Int.reduceLE,Int.reduceLT,Nat.reduceAdd,Nat.reduceLeDiff,Int.reduceToNat,Nat.reduceMul,Nat.reduceBEq,qP,Value.cells,cut,qC,cld2,(HEx),(STx),vA,(HEx),(REx),(RTx),vA,(A7x),e0,e3,e4,e5,e6,e7,e8,c97,d6,w1,decide_true]
    exact hfin hN7.up (hnm7 T (act_same (by rintro (h|h)<;>(have h:x0=_:=h;omega)) rfl rfl rfl))
   by_cases d7:x0=7
   ·simp -implicitDefEqProofs only[↓Zd,(Zp),if_true,if_false,ne_eq,implies_true,forall_const,Nat.reduceEqDiff,reduceIte,reduceCtorEq,Int.reduceEq,Int.reduceNeg,Int.reduceLE,Int.reduceLT,Nat.reduceAdd,Nat.reduceLeDiff,Int.reduceToNat,Nat.reduceMul,Nat.reduceBEq,qP,Value.cells,cut,qC,cld2,(HEx),(STx),vA,(HEx),(REx),(RTx),vA,(A7x),e0,e3,e4,e5,e6,e7,e8,c97,d6,d7,w1,decide_true,decide_false]
    exact hfin hN7.up (hnm7 T (act_same (by rintro (h|h)<;>(have h:x0=_:=h;omega)) rfl rfl rfl))
   simp -implicitDefEqProofs only[↓Zd,(Zp),if_true,if_false,ne_eq,implies_true,forall_const,Nat.reduceEqDiff,reduceIte,reduceCtorEq,Int.reduceEq,Int.reduceNeg,Int.reduceLE,Int.reduceLT,Nat.reduceAdd,Nat.reduceLeDiff,Int.reduceToNat,Nat.reduceMul,Nat.reduceBEq,qP,Value.cells,cut,qC,cld2,(HEx),(STx),vA,(HEx),(REx),(RTx),vA,(A7x),e0,e3,e4,e5,e6,e7,e8,c97,d6,d7,decide_false,ord3,co15]
   have hl7:=hN7.lt
   have hr7:=hN7.rf
   refine uzNew fun s8 hs8 hu hun=>?_
   have n8:=hs8.1
   have c98:=(hs8.2 sL.next (by omega)).trans c97
   simp -implicitDefEqProofs only[↓Zd,(Zp),if_true,if_false,ne_eq,implies_true,forall_const,Nat.reduceEqDiff,reduceIte,reduceCtorEq,Int.reduceEq,Int.reduceNeg,Int.reduceLE,Int.reduceLT,Nat.reduceAdd,Nat.reduceLeDiff,Int.reduceToNat,Nat.reduceMul,Nat.reduceBEq,qP,Value.cells,cut,qC,cld2,(HEx),(STx),vA,(HEx),(REx),(RTx),vA,(A7x),e0,e3,e4,e5,e6,e7,e8,c98,ord3,co14]
   refine sdone0_spec (x:=⟨x0,x1,x2,x3,x4,x5,v1,v2,v3⟩) (hN7.le hs8).te (by omega) hu hun ⟨by omega,by omega⟩ ⟨fun h=>by have:=(hN7.te.hp.own _ h).2;omega,fun h=>by have:=(hN7.te.ht.own _ h).2;omega⟩ hxo ⟨d6,d7⟩ (by omega) (by omega) (by omega) fun s9 H' T' P' O' b hT9 hm n9 k9 oP oO=>?_
   simp -implicitDefEqProofs only[↓Zd,(Zp),if_true,if_false,ne_eq,implies_true,forall_const,Nat.reduceEqDiff,reduceIte,reduceCtorEq,Int.reduceEq,Int.reduceNeg,Int.reduceLE,Int.reduceLT,Nat.reduceAdd,Nat.reduceLeDiff,Int.reduceToNat,Nat.reduceMul,Nat.reduceBEq,qP,Value.cells,cut,qC,cld2,(HEx),(STx),vA,(HEx),(REx),(RTx),vA,(A7x),e0,e3,e4,e5,e6,e7,e8,w1,ord3]
   exact hfin ((hN7.le hs8).done (by omega) hT9 n9 k9 oP oO) (hnm7 T' hm)
  simp -implicitDefEqProofs only[↓Zd,(Zp),if_true,if_false,ne_eq,implies_true,forall_const,Nat.reduceEqDiff,reduceIte,reduceCtorEq,Int.reduceEq,Int.reduceNeg,Int.reduceLE,Int.reduceLT,Nat.reduceAdd,Nat.reduceLeDiff,Int.reduceToNat,Nat.reduceMul,Nat.reduceBEq,qP,Value.cells,cut,qC,cld2,(HEx),(STx),vA,(HEx),(REx),(RTx),vA,(A7x),e0,e3,e4,e5,e6,e7,e8,c9,h0,decide_false,decide_true,co13]
  refine tstate2_spec hN.te.ht hN.te.fs hN.te.ok hN.te.hp.ok hN.te.hp.fok fun s7 v l7 hE=>?_
  have n7:=l7.1
  obtain⟨qa,qc,rfl⟩:=hE.form
  have hN7:=hN.le l7
  have c97:=(l7.2 sL.next (by omega)).trans c9
  obtain⟨at0,hat⟩:∃ n:Nat,4*x1+x2=(n:Int):=⟨(4*x1+x2).toNat,by omega⟩
  have w4:IntKind.i64.wrap (4*x1)=4*x1:=wrap_i64 (by omega)
  have w5:IntKind.i64.wrap (4*x1+x2)=(at0:Int):=by rw[wrap_i64 (by omega),hat]
  have hb8:(0:Int)≤(at0:Int)∧(at0:Int)<((8:Nat):Int):=by omega
  have hb9:(at0:Int)<((8:Nat):Int):=hb8.2
  obtain⟨nl1,nl2,nl3,nl4⟩:=id hnm
  obtain⟨y,hy⟩:∃ y,nm[at0]?=some y:=⟨nm[at0]'(by omega),List.getElem?_eq_getElem _⟩
  have g6:(nm.map Value.string)[at0]?=some (.string y):=by rw[List.getElem?_map,hy];rfl
  have hidx:∀ a b,actC H T ⟨x0,x1,x2,x3,x4,x5,v1,v2,v3⟩ a b→4*a+b=at0∧(T.st a b)=siteAt T x1 x2∧hasT T x1 x2:=fun a b hc=>by
   obtain⟨h1,h2,h3⟩:=hc
   have h2:a=x1.toNat:=h2
   have h3:b=x2.toNat:=h3
   subst h2 h3
   exact⟨by omega,rfl,h1.1⟩
  have cn7:=hN7.cn
  have cg7:=hN7.cg
  by_cases hy0:y=⟨#[]⟩
  case neg =>
   simp -implicitDefEqProofs only[↓Zd,(Zp),if_true,if_false,ne_eq,implies_true,forall_const,Nat.reduceEqDiff,reduceIte,reduceCtorEq,Int.reduceEq,Int.reduceNeg,Int.reduceLE,Int.reduceLT,Nat.reduceAdd,Nat.reduceLeDiff,Int.reduceToNat,Nat.reduceMul,Nat.reduceBEq,qP,Value.cells,cut,qC,cld2,(HEx),(STx),vA,(HEx),(REx),(RTx),vA,(A7x),e0,e3,e4,e5,e6,e7,e8,c97,w4,w5,hb8,hb9,cn7,g6,hy0,underlying33,sz33,is33,ce33,ag33,ze33,underlying34,sz34,is34,ce34,ag34,ze34,underlying43,sz43,is43,ce43,ag43,Nat.mul_one,Nat.zero_add,Nat.add_zero,decide_false,decide_true]
   have hnm7:=hsame fun a b ha hb hn hc=>by
    cases hu:(T.st a b).used with
    |true=>rfl
    |false =>
     have:=(nl4 a b ha hb hn).1 hu
     rw[(hidx a b hc).1,hy]at this
     exact absurd (Option.some.inj this.1) hy0
   by_cases d6:x0=6
   ·simp -implicitDefEqProofs only[↓Zd,(Zp),if_true,if_false,ne_eq,implies_true,forall_const,Nat.reduceEqDiff,reduceIte,reduceCtorEq,Int.reduceEq,Int.reduceNeg,Int.reduceLE,Int.reduceLT,Nat.reduceAdd,Nat.reduceLeDiff,Int.reduceToNat,Nat.reduceMul,Nat.reduceBEq,qP,Value.cells,cut,qC,cld2,(HEx),(STx),vA,(HEx),(REx),(RTx),vA,(A7x),e0,e3,e4,e5,e6,e7,e8,c97,d6,w1,decide_true]
    exact hfin hN7.up (hnm7 T (act_same (by rintro (h|h)<;>(have h:x0=_:=h;omega)) rfl rfl rfl))
   by_cases d7:x0=7
   ·simp -implicitDefEqProofs only[↓Zd,(Zp),if_true,if_false,ne_eq,implies_true,forall_const,Nat.reduceEqDiff,reduceIte,reduceCtorEq,Int.reduceEq,Int.reduceNeg,Int.reduceLE,Int.reduceLT,Nat.reduceAdd,Nat.reduceLeDiff,Int.reduceToNat,Nat.reduceMul,Nat.reduceBEq,qP,Value.cells,cut,qC,cld2,(HEx),(STx),vA,(HEx),(REx),(RTx),vA,(A7x),e0,e3,e4,e5,e6,e7,e8,c97,d6,d7,w1,decide_true,decide_false]
    exact hfin hN7.up (hnm7 T (act_same (by rintro (h|h)<;>(have h:x0=_:=h;omega)) rfl rfl rfl))
   simp -implicitDefEqProofs only[↓Zd,(Zp),if_true,if_false,ne_eq,implies_true,forall_const,Nat.reduceEqDiff,reduceIte,reduceCtorEq,Int.reduceEq,Int.reduceNeg,Int.reduceLE,Int.reduceLT,Nat.reduceAdd,Nat.reduceLeDiff,Int.reduceToNat,Nat.reduceMul,Nat.reduceBEq,qP,Value.cells,cut,qC,cld2,(HEx),(STx),vA,(HEx),(REx),(RTx),vA,(A7x),e0,e3,e4,e5,e6,e7,e8,c97,d6,d7,decide_false,ord3,co15]
   have hl7:=hN7.lt
   have hr7:=hN7.rf
   refine uzNew fun s8 hs8 hu hun=>?_
   have n8:=hs8.1
   have c98:=(hs8.2 sL.next (by omega)).trans c97
   simp -implicitDefEqProofs only[↓Zd,(Zp),if_true,if_false,ne_eq,implies_true,forall_const,Nat.reduceEqDiff,reduceIte,reduceCtorEq,Int.reduceEq,Int.reduceNeg,Int.reduceLE,Int.reduceLT,Nat.reduceAdd,Nat.reduceLeDiff,Int.reduceToNat,Nat.reduceMul,Nat.reduceBEq,qP,Value.cells,cut,qC,cld2,(HEx),(STx),vA,(HEx),(REx),(RTx),vA,(A7x),e0,e3,e4,e5,e6,e7,e8,c98,ord3,co14]
   refine sdone0_spec (x:=⟨x0,x1,x2,x3,x4,x5,v1,v2,v3⟩) (hN7.le hs8).te (by omega) hu hun ⟨by omega,by omega⟩ ⟨fun h=>by have:=(hN7.te.hp.own _ h).2;omega,fun h=>by have:=(hN7.te.ht.own _ h).2;omega⟩ hxo ⟨d6,d7⟩ (by omega) (by omega) (by omega) fun s9 H' T' P' O' b hT9 hm n9 k9 oP oO=>?_
   simp -implicitDefEqProofs only[↓Zd,(Zp),if_true,if_false,ne_eq,implies_true,forall_const,Nat.reduceEqDiff,reduceIte,reduceCtorEq,Int.reduceEq,Int.reduceNeg,Int.reduceLE,Int.reduceLT,Nat.reduceAdd,Nat.reduceLeDiff,Int.reduceToNat,Nat.reduceMul,Nat.reduceBEq,qP,Value.cells,cut,qC,cld2,(HEx),(STx),vA,(HEx),(REx),(RTx),vA,(A7x),e0,e3,e4,e5,e6,e7,e8,w1,ord3]
   exact hfin ((hN7.le hs8).done (by omega) hT9 n9 k9 oP oO) (hnm7 T' hm)
  subst hy0
  by_cases hk0:stN T x1 x2=0
  case neg =>
   simp -implicitDefEqProofs only[↓Zd,(Zp),if_true,if_false,ne_eq,implies_true,forall_const,Nat.reduceEqDiff,reduceIte,reduceCtorEq,Int.reduceEq,Int.reduceNeg,Int.reduceLE,Int.reduceLT,Nat.reduceAdd,Nat.reduceLeDiff,Int.reduceToNat,Nat.reduceMul,Nat.reduceBEq,qP,Value.cells,cut,qC,cld2,(HEx),(STx),vA,(HEx),(REx),(RTx),vA,(A7x),e0,e3,e4,e5,e6,e7,e8,c97,w4,w5,hb8,hb9,cn7,g6,hk0,underlying33,sz33,is33,ce33,ag33,ze33,underlying34,sz34,is34,ce34,ag34,ze34,underlying43,sz43,is43,ce43,ag43,Nat.mul_one,Nat.zero_add,Nat.add_zero,decide_false,decide_true]
   have hnm7:=hsame fun a b ha hb hn hc=>by
    obtain⟨g1,g2,g3⟩:=hidx a b hc
    cases hu:(T.st a b).used with
    |true=>rfl
    |false =>
     have h1:=(nl4 a b ha hb hn).1 hu
     rw[g2]at h1 hu
     have h2:=(hN.te.ok.has g3).fresh hu
     exact absurd (by unfold stN;rw[if_pos g3,if_neg (by rw[h1.2];decide),h2];rfl) hk0
   by_cases d6:x0=6
   ·simp -implicitDefEqProofs only[↓Zd,(Zp),if_true,if_false,ne_eq,implies_true,forall_const,Nat.reduceEqDiff,reduceIte,reduceCtorEq,Int.reduceEq,Int.reduceNeg,Int.reduceLE,Int.reduceLT,Nat.reduceAdd,Nat.reduceLeDiff,Int.reduceToNat,Nat.reduceMul,Nat.reduceBEq,qP,Value.cells,cut,qC,cld2,(HEx),(STx),vA,(HEx),(REx),(RTx),vA,(A7x),e0,e3,e4,e5,e6,e7,e8,c97,d6,w1,decide_true]
    exact hfin hN7.up (hnm7 T (act_same (by rintro (h|h)<;>(have h:x0=_:=h;omega)) rfl rfl rfl))
   by_cases d7:x0=7
   ·simp -implicitDefEqProofs only[↓Zd,(Zp),if_true,if_false,ne_eq,implies_true,forall_const,Nat.reduceEqDiff,reduceIte,reduceCtorEq,Int.reduceEq,Int.reduceNeg,Int.reduceLE,Int.reduceLT,Nat.reduceAdd,Nat.reduceLeDiff,Int.reduceToNat,Nat.reduceMul,Nat.reduceBEq,qP,Value.cells,cut,qC,cld2,(HEx),(STx),vA,(HEx),(REx),(RTx),vA,(A7x),e0,e3,e4,e5,e6,e7,e8,c97,d6,d7,w1,decide_true,decide_false]
    exact hfin hN7.up (hnm7 T (act_same (by rintro (h|h)<;>(have h:x0=_:=h;omega)) rfl rfl rfl))
   simp -implicitDefEqProofs only[↓Zd,(Zp),if_true,if_false,ne_eq,implies_true,forall_const,Nat.reduceEqDiff,reduceIte,reduceCtorEq,Int.reduceEq,Int.reduceNeg,Int.reduceLE,Int.reduceLT,Nat.reduceAdd,Nat.reduceLeDiff,Int.reduceToNat,Nat.reduceMul,Nat.reduceBEq,qP,Value.cells,cut,qC,cld2,(HEx),(STx),vA,(HEx),(REx),(RTx),vA,(A7x),e0,e3,e4,e5,e6,e7,e8,c97,d6,d7,decide_false,ord3,co15]
   have hl7:=hN7.lt
   have hr7:=hN7.rf
   refine uzNew fun s8 hs8 hu hun=>?_
   have n8:=hs8.1
   have c98:=(hs8.2 sL.next (by omega)).trans c97
   simp -implicitDefEqProofs only[↓Zd,(Zp),if_true,if_false,ne_eq,implies_true,forall_const,Nat.reduceEqDiff,reduceIte,reduceCtorEq,Int.reduceEq,Int.reduceNeg,Int.reduceLE,Int.reduceLT,Nat.reduceAdd,Nat.reduceLeDiff,Int.reduceToNat,Nat.reduceMul,Nat.reduceBEq,qP,Value.cells,cut,qC,cld2,(HEx),(STx),vA,(HEx),(REx),(RTx),vA,(A7x),e0,e3,e4,e5,e6,e7,e8,c98,ord3,co14]
   refine sdone0_spec (x:=⟨x0,x1,x2,x3,x4,x5,v1,v2,v3⟩) (hN7.le hs8).te (by omega) hu hun ⟨by omega,by omega⟩ ⟨fun h=>by have:=(hN7.te.hp.own _ h).2;omega,fun h=>by have:=(hN7.te.ht.own _ h).2;omega⟩ hxo ⟨d6,d7⟩ (by omega) (by omega) (by omega) fun s9 H' T' P' O' b hT9 hm n9 k9 oP oO=>?_
   simp -implicitDefEqProofs only[↓Zd,(Zp),if_true,if_false,ne_eq,implies_true,forall_const,Nat.reduceEqDiff,reduceIte,reduceCtorEq,Int.reduceEq,Int.reduceNeg,Int.reduceLE,Int.reduceLT,Nat.reduceAdd,Nat.reduceLeDiff,Int.reduceToNat,Nat.reduceMul,Nat.reduceBEq,qP,Value.cells,cut,qC,cld2,(HEx),(STx),vA,(HEx),(REx),(RTx),vA,(A7x),e0,e3,e4,e5,e6,e7,e8,w1,ord3]
   exact hfin ((hN7.le hs8).done (by omega) hT9 n9 k9 oP oO) (hnm7 T' hm)
  have hsz:(⟨#[46]⟩:ByteArray).size+x5.size≤9223372036854775807:=by
   have h1:(⟨#[46]⟩:ByteArray).size=1:=rfl
   simp only[Bool.or_eq_true,decide_eq_true_eq,not_or]at hl
   omega
  have hlN:at0+1≤(nm.map Value.string).length:=by rw[List.length_map];omega
  have hlG:at0+1≤(gt.map Value.bool).length:=by rw[List.length_map];omega
  have hl7:=hN7.lt
  have hne1:¬ bg=bn:=by omega
  have hne2:¬ sL.next=bn:=by omega
  have hne3:¬ sL.next=bg:=by omega
  simp -implicitDefEqProofs only[↓Zd,(Zp),if_true,if_false,ne_eq,implies_true,forall_const,Nat.reduceEqDiff,reduceIte,reduceCtorEq,Int.reduceEq,Int.reduceNeg,Int.reduceLE,Int.reduceLT,Nat.reduceAdd,Nat.reduceLeDiff,Int.reduceToNat,Nat.reduceMul,Nat.reduceBEq,qP,Value.cells,cut,qC,cld2,(HEx),(STx),vA,(HEx),(REx),(RTx),vA,(A7x),e0,e3,e4,e5,e6,e7,e8,c97,w4,w5,hb8,hb9,cn7,cg7,g6,hk0,hsz,hlN,hlG,hne1,hne2,hne3,underlying33,sz33,is33,ce33,ag33,ze33,underlying34,sz34,is34,ce34,ag34,ze34,underlying43,sz43,is43,ce43,ag43,Nat.mul_one,Nat.zero_add,Nat.add_zero,decide_false,decide_true]
  have hw:(!decide (x0=2))=decide (x0=1):=by rw[d1];rfl
  have hnm7:∀ T',MarkT T T' (actC H T ⟨x0,x1,x2,x3,x4,x5,v1,v2,v3⟩) (decide (x0=2)) x5→NmOk T' (nm.set at0 (⟨#[46]⟩++x5)) (gt.set at0 (decide (x0=1))):=fun T' hm=>by
   have:=hnm.new (p:=shapeV H x3≠0∧(x0=1∨x0=2)) hm ⟨by omega,by omega⟩ ⟨a1,a2⟩ ⟨a3,a4⟩ fun hh=>by
    cases hu:(siteAt T x1 x2).used with
    |false=>rfl
    |true =>
     have h9:x2<(T.n x1.toNat:Int):=hh.2.2.2
     have h1:=((nl4 x1.toNat x2.toNat (by omega) (by omega) (by omega)).2 hu).1
     rw[show 4*x1.toNat+x2.toNat=at0 by omega,hy]at h1
     have h2:=congrArg ByteArray.size (Option.some.inj h1)
     rw[ByteArray.size_append]at h2
     have h3:(⟨#[46]⟩:ByteArray).size=1:=rfl
     have h4:(⟨#[]⟩:ByteArray).size=0:=rfl
     omega
   rw[show (4*x1+x2).toNat=at0 by omega,hw]at this
   exact this
  have hN70:=hN7.note (i:=at0) (y:=⟨#[46]⟩++x5) (z:=decide (x0=1))
  have c970:((s7.put bn (.cells ((nm.map Value.string).set at0 (.string (⟨#[46]⟩++x5))) 9 true)).put bg (.cells ((gt.map Value.bool).set at0 (.bool (decide (x0=1)))) 4 true)).at' sL.next=some (.cells [.int .i64 x0,.int .i64 x1,.int .i64 x2,.int .i64 x3,.int .i64 x4,.string x5,.int .i64 v1,.int .i64 v2,.string v3] 38 true):=by rw[St.at_put,if_neg hne3,St.at_put,if_neg hne2];exact c97
  have n70:((s7.put bn (.cells ((nm.map Value.string).set at0 (.string (⟨#[46]⟩++x5))) 9 true)).put bg (.cells ((gt.map Value.bool).set at0 (.bool (decide (x0=1)))) 4 true)).next=s7.next:=rfl
  generalize (s7.put bn (.cells ((nm.map Value.string).set at0 (.string (⟨#[46]⟩++x5))) 9 true)).put bg (.cells ((gt.map Value.bool).set at0 (.bool (decide (x0=1)))) 4 true)=s70 at hN70 c970 n70 ⊢
  clear hN7 c97
  have hN7:=hN70
  have c97:=c970
  by_cases d6:x0=6
  ·simp -implicitDefEqProofs only[↓Zd,(Zp),if_true,if_false,ne_eq,implies_true,forall_const,Nat.reduceEqDiff,reduceIte,reduceCtorEq,Int.reduceEq,Int.reduceNeg,Int.reduceLE,Int.reduceLT,Nat.reduceAdd,Nat.reduceLeDiff,Int.reduceToNat,Nat.reduceMul,Nat.reduceBEq,qP,Value.cells,cut,qC,cld2,(HEx),(STx),vA,(HEx),(REx),(RTx),vA,(A7x),e0,e3,e4,e5,e6,e7,e8,c97,d6,w1,decide_true]
   exact hfin hN7.up (hnm7 T (act_same (by rintro (h|h)<;>(have h:x0=_:=h;omega)) rfl rfl rfl))
  by_cases d7:x0=7
  ·simp -implicitDefEqProofs only[↓Zd,(Zp),if_true,if_false,ne_eq,implies_true,forall_const,Nat.reduceEqDiff,reduceIte,reduceCtorEq,Int.reduceEq,Int.reduceNeg,Int.reduceLE,Int.reduceLT,Nat.reduceAdd,Nat.reduceLeDiff,Int.reduceToNat,Nat.reduceMul,Nat.reduceBEq,qP,Value.cells,cut,qC,cld2,(HEx),(STx),vA,(HEx),(REx),(RTx),vA,(A7x),e0,e3,e4,e5,e6,e7,e8,c97,d6,d7,w1,decide_true,decide_false]
   exact hfin hN7.up (hnm7 T (act_same (by rintro (h|h)<;>(have h:x0=_:=h;omega)) rfl rfl rfl))
  simp -implicitDefEqProofs only[↓Zd,(Zp),if_true,if_false,ne_eq,implies_true,forall_const,Nat.reduceEqDiff,reduceIte,reduceCtorEq,Int.reduceEq,Int.reduceNeg,Int.reduceLE,Int.reduceLT,Nat.reduceAdd,Nat.reduceLeDiff,Int.reduceToNat,Nat.reduceMul,Nat.reduceBEq,qP,Value.cells,cut,qC,cld2,(HEx),(STx),vA,(HEx),(REx),(RTx),vA,(A7x),e0,e3,e4,e5,e6,e7,e8,c97,d6,d7,decide_false,ord3,co15]
  have hl7:=hN7.lt
  have hr7:=hN7.rf
  refine uzNew fun s8 hs8 hu hun=>?_
  have n8:=hs8.1
  have c98:=(hs8.2 sL.next (by omega)).trans c97
  simp -implicitDefEqProofs only[↓Zd,(Zp),if_true,if_false,ne_eq,implies_true,forall_const,Nat.reduceEqDiff,reduceIte,reduceCtorEq,Int.reduceEq,Int.reduceNeg,Int.reduceLE,Int.reduceLT,Nat.reduceAdd,Nat.reduceLeDiff,Int.reduceToNat,Nat.reduceMul,Nat.reduceBEq,qP,Value.cells,cut,qC,cld2,(HEx),(STx),vA,(HEx),(REx),(RTx),vA,(A7x),e0,e3,e4,e5,e6,e7,e8,c98,ord3,co14]
  refine sdone0_spec (x:=⟨x0,x1,x2,x3,x4,x5,v1,v2,v3⟩) (hN7.le hs8).te (by omega) hu hun ⟨by omega,by omega⟩ ⟨fun h=>by have:=(hN7.te.hp.own _ h).2;omega,fun h=>by have:=(hN7.te.ht.own _ h).2;omega⟩ hxo ⟨d6,d7⟩ (by omega) (by omega) (by omega) fun s9 H' T' P' O' b hT9 hm n9 k9 oP oO=>?_
  simp -implicitDefEqProofs only[↓Zd,(Zp),if_true,if_false,ne_eq,implies_true,forall_const,Nat.reduceEqDiff,reduceIte,reduceCtorEq,Int.reduceEq,Int.reduceNeg,Int.reduceLE,Int.reduceLT,Nat.reduceAdd,Nat.reduceLeDiff,Int.reduceToNat,Nat.reduceMul,Nat.reduceBEq,qP,Value.cells,cut,qC,cld2,(HEx),(STx),vA,(HEx),(REx),(RTx),vA,(A7x),e0,e3,e4,e5,e6,e7,e8,w1,ord3]
  exact hfin ((hN7.le hs8).done (by omega) hT9 n9 k9 oP oO) (hnm7 T' hm)
end
theorem siteTells_walk{A us:List A17D}{cp:Nat}{oi:Option BI}{ad:Nat→Option Addr}{v:Value}{w:World}(hr:∀ ρ,QIn ρ w oi (us.flatMap act17C))(hv:∀ (ρ:Ren) j,ρ j=oi→VRel ρ (.slice (ad j) A.length cp) v)(hok:∀ a∈A,Act17Ok a)(ht:A=[]∨(ad=fun j=>some ⟨j,0,none⟩)∧∀ k,k<A.length→us[k]?=A[k]?)(hl:A.length≤9223372036854775807) :
  Calls prog 3 #[v] w fun e w'=>e = .returned (.bool true)∧Below w.heap.size w w':=by
 refine calls_q (L:=[(38,us.flatMap act17C)]) (B:=[oi]) (args:=#[.slice (ad 0) A.length cp]) rfl ?_ ⟨rfl,?_⟩ (siteTells_spec ?_ hok hl fun _=>rfl)
 ·intro j oi' r h1 h2
  match j,h1,h2 with
  |0,h1,h2=>cases h1;cases h2;exact hr _
 ·intro i hi
  match i,hi with
  |0,_=>exact hv _ 0 rfl
 ·rcases ht with ht|⟨rfl,ht⟩
  ·exact .inl ht
  ·exact .inr ⟨0,us,rfl,Nat.zero_lt_one,rfl,ht⟩
end Go.Proofs.Tryz
