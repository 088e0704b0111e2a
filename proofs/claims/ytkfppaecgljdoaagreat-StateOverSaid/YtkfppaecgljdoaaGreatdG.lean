/- Lemmas, laid one behind the other by squeeze2.py. -/
import Derived.Test.YtkfppaecgljdoaaGreatdF
set_option linter.unusedSimpArgs false
set_option linter.unusedVariables false
set_option linter.unusedSectionVars false
set_option linter.defProp false
namespace Go.Proofs.Tryz
open Go.Cs
open Go.RowKit (Below)
set_option maxRecDepth 100000
attribute [local irreducible] QC WLoop WScope CRound WRange
set_option maxHeartbeats 32000000
variable {M:Type}[Mem M]{w0:World}{s:St M}{R:Value→St M→Prop}
section
def wcut{M:Type}[Mem M](id:Nat)(X:Env→St M→Prop)(Q:Exit→Env→St M→Prop):Exit→Env→St M→Prop
 |.exit j,env,s=>if j=id then X env s else Q (.exit j) env s
 |e,env,s=>Q e env s
theorem wcut_exit{M:Type}[Mem M]{id:Nat}{X:Env→St M→Prop}{Q:Exit→Env→St M→Prop}{env:Env}{s:St M}:wcut id X Q (.exit id) env s=X env s:=if_pos rfl
theorem wcut_ret{M:Type}[Mem M]{id:Nat}{X:Env→St M→Prop}{Q:Exit→Env→St M→Prop}{env:Env}{s:St M}:wcut id X Q .ret env s=Q .ret env s:=rfl
theorem wloop_cut{M:Type}[Mem M]{P:Program}{w0:World}{o:Ord}{n:Nat}{c:Code}{Q:Exit→Env→St M→Prop}{env:Env}{s:St M}(id:Nat)(X:Env→St M→Prop)(h:WLoop P w0 o n c (wcut id X Q) env s)(h2:∀ env s,X env s→Q (.exit id) env s):WLoop P w0 o n c Q env s:=by
 unfold WLoop at h ⊢
 intro hc a ha dk ρ a' w hR hA hb b k cs hro
 obtain⟨e,a2,w2,hq,harr⟩:=h hc a ha dk ρ a' w hR hA hb b k cs hro
 refine⟨e,a2,w2,CPost.mono (P:=P) (w0:=w0) ?_ hq,harr⟩
 rintro e a s ⟨env,h1,h3⟩
 refine⟨env,h1,?_⟩
 unfold wcut at h3
 split at h3
 ·split at h3
  ·rename_i e;rw[e];exact h2 _ _ h3
  ·exact h3
 ·exact h3
section
variable {n0 q r N p gb:Nat}{D:StD}{O W L:Nat→Prop}{ov tv:Value}
theorem RObAt.low8{lo lo' N b:Nat}{o:Ob}{O:Nat→Prop}(h:RObAt lo s N b o O)(hl:lo'≤lo):RObAt lo' s N b o O:=
 ⟨fun c hc=>⟨by have:=(h.own c hc).1;omega,(h.own c hc).2⟩,h.pin,h.ep,h.bl⟩
theorem RHpAt.low8{lo lo' p N:Nat}{H:Hp}{O:Nat→Prop}(h:RHpAt lo s p H N O)(hl:lo'≤lo):RHpAt lo' s p H N O:=by
 obtain⟨hp,tg,pf,sl,tl,bs,h⟩:=h
 exact⟨hp,tg,pf,sl,tl,bs,fun c hc=>⟨by have:=(h.own c hc).1;omega,(h.own c hc).2⟩,h.ok,h.tn,h.pin,h.bl,h.row,h.rowO,h.fo.low hl,h.ta,h.taO,h.len,fun i b o h1 h2=>(h.obj i b o h1 h2).low8 hl⟩
theorem RSAt.low{lo lo':Nat}(h:RSAt lo s q N W)(hl:lo'≤lo):RSAt lo' s q N W:=by
 obtain⟨D,O,p,gb,ov,tv,⟨a1,a2,a3,a4,a5,a6,a7,a8,a9,a10⟩,rfl⟩:=h
 exact⟨D,O,p,gb,ov,tv,⟨a1.low8 hl,a2,a3,⟨oM,a4.2⟩,⟨oM,a5.2⟩,a6,a7,a8,fun b hb=>⟨by have:=(a9 b hb).1;omega,(a9 b hb).2⟩,fun b hb=>⟨by have:=(a10 b hb).1;omega,(a10 b hb).2⟩⟩,rfl⟩
theorem SoAt.le0{s1:St M}(h:SoAt L n0 s q r D N O p gb ov tv W)(hs:s.le s1):SoAt L n0 s1 q r D N O p gb ov tv W∧∀ c,L c→s1.at' c=s.at' c:=
 ⟨(h.le hs (k:=s.next) hs.1).sub fun c hc => .inl hc,fun c hc=>hs.2 c (h.fr c hc).1⟩
theorem newD_sz(g f a b c d n:Int):DSz 1000000 (newD g f a b c d n):=
 ⟨HSz.new _ _ _ _,fun x (hx:x∈([]:List ByteArray))=>(by cases hx),fun v hv=>(by rw[List.eq_of_mem_replicate hv];exact VSz.z _),fun x (hx:x∈([]:List ByteArray))=>(by cases hx),VSz.z _⟩
theorem long8_spec{a0 a1 a2:Int}{a3:ByteArray}{k4 n4:Int}{x4:ByteArray}{k5 n5:Int}{x5:ByteArray}{k6 n6:Int}{x6:ByteArray}
  (h:∀ s' b,s.le s'→(b=false→a3.size≤300∧x4.size≤300∧x5.size≤300∧x6.size≤300)→R (.bool b) s'):QC prog w0 7 #[act8V a0 a1 a2 a3 k4 n4 x4 k5 n5 x5 k6 n6 x6] s R:=by
 refine wfun2 hmix ok7 func7 rfl ntmps7 results7 (by simp) ?_
 unfold act8V
 have l1:s.le (s.new (.cells (act8L a0 a1 a2 a3 k4 n4 x4 k5 n5 x5 k6 n6 x6) 33 true)):=lN (lR _)
 by_cases h3:(300:Int)<a3.size
 ·simp only[↓Zd,Zp,Zs,simprocAttr,TAx,(A8x),h3]
  exact h _ _ l1 fun e=>by cases e
 by_cases h4:(300:Int)<x4.size
 ·simp only[↓Zd,Zp,Zs,simprocAttr,HEx,TAx,(A8x),h3,h4]
  exact h _ _ l1 fun e=>by cases e
 by_cases h5:(300:Int)<x5.size
 ·simp only[↓Zd,Zp,Zs,simprocAttr,HEx,TAx,(A8x),h3,h4,h5]
  exact h _ _ l1 fun e=>by cases e
 by_cases h6:(300:Int)<x6.size
 ·simp only[↓Zd,Zp,Zs,simprocAttr,HEx,TAx,(A8x),h3,h4,h5,h6]
  exact h _ _ l1 fun e=>by cases e
 ·simp only[↓Zd,Zp,Zs,simprocAttr,HEx,TAx,(A8x),h3,h4,h5,h6]
  exact h _ _ l1 fun _=>by omega
theorem over_tick{n:Int}(h:goesB D=false):tickS D n=D:=by unfold tickS;rw[if_pos h]
theorem over_make(h:goesB D=false):makeS D=D:=by unfold makeS;rw[h];rfl
theorem over_ch{so:Bool}{o e:Int}{H':Hp}(h:goesB D=false):chS D so o H' e=D:=by unfold chS;rw[h];exact goes_is h
theorem over_print{v:Int×Int×ByteArray}(h:goesB D=false):printS D v=D:=by unfold printS;rw[h];rfl
theorem over_setg{i:Int}{v:Int×Int×ByteArray}(h:goesB D=false):setgT D i v=D∧setgB D i=false:=by
 have:setgB D i=false:=by unfold setgB;rw[h];rfl
 exact⟨by unfold setgT;rw[this];rfl,this⟩
theorem over_setb{i:Int}(h:goesB D=false):setgB D i=false:=by unfold setgB;rw[h];rfl
theorem over_enter{so:Bool}(h:goesB D=false):enterS D so=D:=by unfold enterS;rw[h];exact goes_is h
theorem over_glob{i:Int}(h:goesB D=false):globV D i=zV:=by unfold globV;rw[h];rfl
theorem over_built{op:Int}{l:List (Int×Int×ByteArray)}(h:goesB D=false):builtS D op l=D:=by
 unfold builtS
 simp only[goes_need h,goes_is h,h,Bool.false_eq_true,if_false,ite_self]
end
end
section
theorem ccalls_ex{f:FuncId}{args:Array Value}{s1:St M}{K:Value→St M→Prop}{X:St M→Prop}(h:X s1)(k:∀ s1,X s1→QC prog w0 f args s1 K):QC prog w0 f args s1 K:=k s1 h
theorem ccalls_le{f:FuncId}{args:Array Value}{s s1:St M}{K:Value→St M→Prop}(h:s.le s1)(k:∀ s1,s.le s1→QC prog w0 f args s1 K):QC prog w0 f args s1 K:=k s1 h
theorem stateOver_spec{A B:List A18D}{ad bd:Option Addr}{cpa cpb:Nat}(hA:QRow 33 act18C s ad A)(hokA:∀ a∈A,Act18Ok a)(hAl:A.length≤9223372036854775807)(hB:QRow 33 act18C s bd B)(hokB:∀ a∈B,Act18Ok a)(hBl:B.length≤9223372036854775807)
  (hR:∀ s',R (.bool true) s'):QC prog w0 3 #[.slice ad A.length cpa,.slice bd B.length cpb] s R:=by
 refine wfun2 hmix ok3 func3 rfl ntmps3 results3 (by simp) ?_
 have hz:=ze24
 have bL:cbuild prog 24 #[(0,.int .i64 9),(1,.int .i64 9),(2,.int .i64 14),(3,.int .i64 30)]=some (.agg #[.int .i64 9,.int .i64 9,.int .i64 14,.int .i64 30]):=bLim 9 9 14 30
 simp only[↓Zd,Zp,Zs,simprocAttr,TAx,hz,bL,co5]
 obtain⟨S,hS⟩:∃ S,S=((s.new (.cells [.int .i64 0,.int .i64 0,.int .i64 0,.int .i64 0] 24 true)).put s.next (.cells [.int .i64 9,.int .i64 9,.int .i64 14,.int .i64 30] 24 true)):=⟨_,rfl⟩
 have lS:s.le S:=by rw[hS];exact oL
 have nS:S.next=s.next+1:=by rw[hS];rfl
 have kS:S.at' s.next=some (.cells [.int .i64 9,.int .i64 9,.int .i64 14,.int .i64 30] 24 true):=by rw[hS,aP,if_pos rfl]
 rw[← hS]
 clear hS
 refine snew_spec fun n0 s1 q p gb O hlo hlo1 h1 l1=>?_
 have k1:=(l1.2 s.next oM).trans kS
 simp only[↓Zd,Zp,Zs,simprocAttr,TAx,k1,co6]
 refine rsnew_spec fun n1 s2 r W hlo2 hlo3 h2 l2=>?_
 have n1':=l1.1
 have n2':=l2.1
 have g2:SoAt (fun c=>c<s.next) n0 s2 q r (newD 3 100 9 9 14 30 20) 32 O p gb (.slice none 0 0) (.slice none 0 0) W:=
  ⟨h1.le l2,h2.low oM,fun b hb hb2=>by have:=(h1.own b hb).2;have:=(h2.own b hb2).1;omega,oM,fun c hc=>⟨oM,fun hb=>by have:=(h1.own c hb).1;omega,fun hb=>by have:=(h2.own c hb).1;omega⟩,newD_sz _ _ _ _ _ _ _⟩
 have old2:∀ c,c<s.next→s2.at' c=s.at' c:=fun c hc=>by rw[l2.2 c oM,l1.2 c oM,lS.2 c hc]
 have q6:(q:Nat)=q:=rfl
 simp only[↓Zd,Zp,simprocAttr,RSx]
 refine wloop_cut 0 (fun env s'=>env 1 = .slice bd B.length cpb∧env 6 = .pointer (some ⟨q,0,none⟩)∧∃ (D:StD) (O:Nat→Prop) (ov tv:Value) (W:Nat→Prop),SoAt (fun c=>c<s.next) n0 s' q r D 400 O p gb ov tv W∧∀ c,c<s.next→s'.at' c=s.at' c) ?_ ?_
 refine wloop_inv hmix (fun fuel env s'=>env 0 = .slice ad A.length cpa∧env 1 = .slice bd B.length cpb∧env 6 = .pointer (some ⟨q,0,none⟩)∧env 7 = .pointer (some ⟨r,0,none⟩)∧∃ (k:Nat) (D:StD) (O:Nat→Prop) (ov tv:Value) (W:Nat→Prop),fuel=41 - k∧k≤40∧env 8 = .int .i64 (k:Int)∧SoAt (fun c=>c<s.next) n0 s' q r D (32+8*k) O p gb ov tv W∧∀ c,c<s.next→s'.at' c=s.at' c) 41 ⟨rfl,rfl,rfl,rfl,0,_,_,_,_,_,rfl,oM,rfl,g2,old2⟩ ?_
 rintro fuel env s3 ⟨e0,e1,e6,e7,k,D,O3,ov3,tv3,W3,rfl,hk,e8,g3,old3⟩
 by_cases hstop:(k:Int)<(A.length:Int)∧(k:Int)<40
 ·obtain⟨c1,c2⟩:=hstop
  have hkA:k<A.length:=oM
  have hx:A[k]?=some A[k]:=List.getElem?_eq_getElem hkA
  have hxok:=hokA _ (List.mem_of_getElem? hx)
  generalize A[k]=x at hx hxok
  rcases hA with rfl|⟨jj,us,rfl,hjq,hjb,hus⟩
  ·simp at hkA
  have hux:us[k]?=some x:=by rw[hus k hkA];exact hx
  obtain⟨d1,d2⟩:=acts18_cut us k x hux
  have hjb3:=(old3 jj hjq).trans hjb
  obtain⟨x0,x1,x2,x3,⟨x4,n4,y4⟩,⟨x5,n5,y5⟩,⟨x6,n6,y6⟩⟩:=x
  have d2:List.take 13 (List.drop (k*13) (us.flatMap act18C))=[.int .i64 x0,.int .i64 x1,.int .i64 x2,.string x3,.int .i64 x4,.int .i64 n4,.string y4,.int .i64 x5,.int .i64 n5,.string y5,.int .i64 x6,.int .i64 n6,.string y6]:=d2
  have hkk:(0:Int)≤(k:Int)∧(k:Int)<(A.length:Int):=oM
  have w1:IntKind.i64.wrap ((k:Int)+1)=((k+1:Nat):Int):=by rw[wrap_i64 oM];omega
  simp only[↓Zd,Zp,Zs,simprocAttr,(A8x),e0,e8,c1,c2,hkk,hjb3,d1,d2,co7]
  refine long8_spec fun s4 bl l4 hbl=>?_
  cases bl with
  |true =>
   simp only[↓Zd,Zp,simprocAttr,HEx,co8]
   refine works18_spec ?_
   simp only[↓Zd,Zp,simprocAttr,HEx,wcut_ret]
   exact hR _
  |false =>
   obtain⟨z3',z4,z5,z6⟩:=hbl rfl
   obtain⟨o1,o2,o3,o4,o5,o6,o7,o8,o9⟩:=hxok
   obtain⟨g4,old4⟩:=g3.le0 l4
   have hjb4:=(old4 jj hjq).trans hjb3
   simp only[↓Zd,Zp,Zs,simprocAttr,HEx,(A8x),e0,e6,e7,e8,c1,hkk,hjb4,d1,d2,co9]
   refine done8_spec g4 ⟨o2,o3,o5,o7,o9,z3',z4,z5,z6⟩ oM fun s5 D5 O5 ov5 tv5 W5 b5 g5 old5=>?_
   simp only[↓Zd,Zp,simprocAttr,HEx,e0,e1,e6,e7,e8,w1]
   exact⟨41 - (k+1),oM,k+1,_,_,_,_,_,rfl,oM,rfl,by rw[show 32+8*(k+1)=32+8*k+8 by omega];exact g5,fun c hc=>by rw[old5 c hc,old4 c hc];exact old3 c hc⟩
 have fin:SoAt (fun c=>c<s.next) n0 s3 q r D 400 O3 p gb ov3 tv3 W3:=g3.mono oM
 by_cases c1:(k:Int)<(A.length:Int)
 ·have c2:¬ (k:Int)<40:=fun h3=>hstop ⟨c1,h3⟩
  simp only[↓Zd,Zp,simprocAttr,(A8x),e0,e1,e6,e8,c1,c2,wcut_exit]
  exact⟨_,_,_,_,_,fin,old3⟩
 ·simp only[↓Zd,Zp,simprocAttr,(A8x),e0,e1,e6,e8,c1,wcut_exit]
  exact⟨_,_,_,_,_,fin,old3⟩
 rintro env s3 ⟨e1,e6,D,O3,ov3,tv3,W3,g3,old3⟩
 have hzO:=ze41
 simp only[↓Zd,Zp,simprocAttr,HEx,e6,co10]
 refine sfin_spec g3.st fun s4 h4 u4=>?_
 obtain⟨g4,old4⟩:=g3.real (Nat.le_refl _) h4 u4 (g3.sz.endS (VSz.z _))
 have hov:goesB (endS D 2 0 (0,0,⟨#[]⟩))=false:=goes_end (by decide)
 clear h4 u4
 generalize endS D 2 0 (0,0,⟨#[]⟩)=E at g4 hov
 have hk:¬ E.kind=0:=by unfold goesB at hov;simpa using hov
 simp only[↓Zd,Zp,simprocAttr,HEx,e6,co11]
 refine sdump_spec g4.st oM g4.sz fun s5 l5=>?_
 obtain⟨g5,old5⟩:=g4.le0 l5
 simp only[↓Zd,Zp,simprocAttr,TAx,e6,co12]
 refine soutc_spec g5.st oM hk g4.sz.v.2 fun s6 oa oc ox l6=>?_
 obtain⟨g6,old6⟩:=g5.le0 l6
 obtain⟨s7,hs7⟩:∃ s7,s7=((s6.new (.cells [.int .i64 0,.int .i64 0,.int .i64 0,.slice none 0 0,.string ⟨#[]⟩] 41 true)).put s6.next (.cells [.int .i64 E.kind,.int .i64 E.err,.int .i64 0,.slice oa E.out.length oc,.string ox] 41 true)):=⟨_,rfl⟩
 have l7:s6.le s7:=by rw[hs7];exact oL
 have g7:=(g6.le l7 (k:=s6.next+1) (by rw[hs7];simp only[Sn];omega)).sub (L':=fun c=>c<s.next∨c=s6.next) fun c hc=>by rcases hc with hc|hc;exact .inl hc;exact .inr oM
 have c7:s7.at' s6.next=some (.cells [.int .i64 E.kind,.int .i64 E.err,.int .i64 0,.slice oa E.out.length oc,.string ox] 41 true):=by rw[hs7,aP,if_pos rfl]
 have old7:∀ c,c<s.next→s7.at' c=s.at' c:=fun c hc=>by rw[l7.2 c (by have:=(g6.fr c hc).1;exact this),old6 c hc,old5 c hc,old4 c hc];exact old3 c hc
 simp only[↓Zd,Zp,Zs,simprocAttr,underlying41,sz41,hzO]
 rw[← hs7]
 clear hs7
 refine wloop_cut 2 (fun env s'=>env 6 = .pointer (some ⟨q,0,none⟩)∧env 9 = .string (dumpS E)∧env 10 = .pointer (some ⟨s6.next,0,none⟩)∧∃ (O:Nat→Prop) (ov tv:Value) (W:Nat→Prop),SoAt (fun c=>c<s.next∨c=s6.next) n0 s' q r E 900 O p gb ov tv W∧s'.at' s6.next=some (.cells [.int .i64 E.kind,.int .i64 E.err,.int .i64 0,.slice oa E.out.length oc,.string ox] 41 true)) ?_ ?_
 ·refine wloop_inv hmix (fun fuel env s'=>env 1 = .slice bd B.length cpb∧env 6 = .pointer (some ⟨q,0,none⟩)∧env 9 = .string (dumpS E)∧env 10 = .pointer (some ⟨s6.next,0,none⟩)∧∃ (k N:Nat) (O:Nat→Prop) (ov tv:Value) (W:Nat→Prop),fuel=21 - k∧k≤20∧env 11 = .int .i64 (k:Int)∧N≤400+20*k∧SoAt (fun c=>c<s.next∨c=s6.next) n0 s' q r E N O p gb ov tv W∧s'.at' s6.next=some (.cells [.int .i64 E.kind,.int .i64 E.err,.int .i64 0,.slice oa E.out.length oc,.string ox] 41 true)∧∀ c,c<s.next→s'.at' c=s.at' c) 21 ⟨?_,?_,rfl,rfl,0,_,_,_,_,_,rfl,oM,rfl,Nat.le_refl _,g7,c7,old7⟩ ?_
  ·simp[upd_apply,e1]
  ·simp[upd_apply,e6]
  rintro fuel env s8 ⟨e1,e6,e9,e10,k,N,O8,ov8,tv8,W8,rfl,hk,e11,hN,g8,c8,old8⟩
  by_cases hstop:(k:Int)<(B.length:Int)∧(k:Int)<20
  case neg =>
   by_cases c1:(k:Int)<(B.length:Int)
   ·have c2:¬ (k:Int)<20:=fun h3=>hstop ⟨c1,h3⟩
    simp only[↓Zd,Zp,simprocAttr,(A8x),e1,e6,e9,e10,e11,c1,c2,wcut_exit]
    exact⟨_,_,_,_,g8.mono oM,c8⟩
   ·simp only[↓Zd,Zp,simprocAttr,(A8x),e1,e6,e9,e10,e11,c1,wcut_exit]
    exact⟨_,_,_,_,g8.mono oM,c8⟩
  obtain⟨c1,c2⟩:=hstop
  have hkB:k<B.length:=oM
  have hx:B[k]?=some B[k]:=List.getElem?_eq_getElem hkB
  have hxok:=hokB _ (List.mem_of_getElem? hx)
  generalize B[k]=x at hx hxok
  rcases hB with rfl|⟨jj,us,rfl,hjq,hjb,hus⟩
  ·simp at hkB
  have hux:us[k]?=some x:=by rw[hus k hkB];exact hx
  obtain⟨d1,d2⟩:=acts18_cut us k x hux
  have hjb8:=(old8 jj hjq).trans hjb
  obtain⟨x0,x1,x2,x3,⟨x4,n4,y4⟩,⟨x5,n5,y5⟩,⟨x6,n6,y6⟩⟩:=x
  have d2:List.take 13 (List.drop (k*13) (us.flatMap act18C))=[.int .i64 x0,.int .i64 x1,.int .i64 x2,.string x3,.int .i64 x4,.int .i64 n4,.string y4,.int .i64 x5,.int .i64 n5,.string y5,.int .i64 x6,.int .i64 n6,.string y6]:=d2
  have hkk:(0:Int)≤(k:Int)∧(k:Int)<(B.length:Int):=oM
  have w1:IntKind.i64.wrap ((k:Int)+1)=((k+1:Nat):Int):=by rw[wrap_i64 oM];omega
  obtain⟨o1,o2,o3,o4,o5,o6,o7,o8,o9⟩:=hxok
  have hj8:¬ jj=s8.next:=by have:=(g8.fr jj (.inl hjq)).1;omega
  obtain⟨s9,hs9⟩:∃ s9,s9=((s8.new (.cells [.int .i64 0,.int .i64 0,.int .i64 0,.string ⟨#[]⟩,.int .i64 0,.int .i64 0,.string ⟨#[]⟩,.int .i64 0,.int .i64 0,.string ⟨#[]⟩,.int .i64 0,.int .i64 0,.string ⟨#[]⟩] 33 true)).put s8.next (.cells (act8L x0 x1 x2 x3 x4 n4 y4 x5 n5 y5 x6 n6 y6) 33 true)):=⟨_,rfl⟩
  have l9:s8.le s9:=by rw[hs9];exact oL
  have g9:=(g8.le l9 (k:=s8.next+1) (by rw[hs9];simp only[Sn];omega)).sub (L':=fun c=>(c<s.next∨c=s6.next)∨c=s8.next) fun c hc=>by rcases hc with hc|hc;exact .inl hc;exact .inr oM
  have k9:s9.at' s8.next=some (.cells (act8L x0 x1 x2 x3 x4 n4 y4 x5 n5 y5 x6 n6 y6) 33 true):=by rw[hs9,aP,if_pos rfl]
  have w9:∀ c,c<s.next∨c=s6.next→s9.at' c=s8.at' c:=fun c hc=>l9.2 c (g8.fr c hc).1
  unfold act8L at hs9 k9
  have hzA:=ze33
  simp only[↓Zd,Zp,Zs,simprocAttr,(A8x),hzA,e1,e11,c1,c2,hkk,hjb8,d1,d2,co7]
  rw[← hs9]
  clear hs9
  refine long8_spec fun s10 bl l10 hbl=>?_
  obtain⟨g10,u10⟩:=g9.le0 l10
  have k10:=(u10 s8.next (.inr rfl)).trans k9
  have w10:∀ c,c<s.next∨c=s6.next→s10.at' c=s8.at' c:=fun c hc=>(u10 c (.inl hc)).trans (w9 c hc)
  cases bl with
  |true =>
   simp only[↓Zd,Zp,simprocAttr,HEx,co8]
   refine works18_spec ?_
   simp only[↓Zd,Zp,simprocAttr,HEx,wcut_ret]
   exact hR _
  |false =>
   obtain⟨z3',z4,z5,z6⟩:=hbl rfl
   have hx8:Ok8 x0 x1 x2 x3 x4 n4 y4 x5 n5 y5 x6 n6 y6:=⟨o2,o3,o5,o7,o9,z3',z4,z5,z6⟩
   have n10:¬ s8.next=s10.next:=by have:=(g10.fr s8.next (.inr rfl)).1;omega
   simp only[↓Zd,Zp,simprocAttr,HEx,e6,co13]
   refine ccalls_le (s:=s10) oL fun s11 l11=>?_
   obtain⟨g11,u11⟩:=g10.le0 l11
   have k11:=(u11 s8.next (.inr rfl)).trans k10
   refine smake_spec g11.st g11.lo fun s12 OO va vb vx h12 v12=>?_
   rw[over_make hov]at h12
   rw[over_make hov,hov]
   obtain⟨g12,u12⟩:=g11.real (N1:=N+0) oM h12 v12 g11.sz
   have k12:=(u12 s8.next (.inr rfl)).trans k11
   have w12:∀ c,c<s.next∨c=s6.next→s12.at' c=s8.at' c:=fun c hc=>((u12 c (.inl hc)).trans (u11 c (.inl hc))).trans (w10 c hc)
   have n12:¬ s8.next=s12.next:=by have:=(g12.fr s8.next (.inr rfl)).1;omega
   simp only[↓Zd,Zp,Zs,simprocAttr,HEx,TAx,(A8x),vA,e6,k12,n12,co14]
   refine ccalls_le (s:=s12) oL fun s13 l13=>?_
   obtain⟨g13,u13⟩:=g12.le0 l13
   have k13:=(u13 s8.next (.inr rfl)).trans k12
   refine stget_spec g13.st o5 fun s14 va vb vx h14 v14=>?_
   rw[goes_is hov]at h14
   rw[goes_is hov,hov]
   obtain⟨g14,u14⟩:=g13.real (N1:=N+0) oM h14 v14 g13.sz
   have k14:=(u14 s8.next (.inr rfl)).trans k13
   have w14:∀ c,c<s.next∨c=s6.next→s14.at' c=s8.at' c:=fun c hc=>((u14 c (.inl hc)).trans (u13 c (.inl hc))).trans (w12 c hc)
   have n14:¬ s8.next=s14.next:=by have:=(g14.fr s8.next (.inr rfl)).1;omega
   simp only[↓Zd,Zp,Zs,simprocAttr,HEx,(A8x),vA,e6,k14,n14,co15]
   refine ccalls_le (s:=s14) oL fun s15 l15=>?_
   obtain⟨g15,u15⟩:=g14.le0 l15
   have k15:=(u15 s8.next (.inr rfl)).trans k14
   refine sbin_spec g15.st o5 fun s16 va vb vx h16 v16=>?_
   rw[goes_need hov]at h16
   rw[goes_need hov,hov]
   obtain⟨g16,u16⟩:=g15.real (N1:=N+0) oM h16 v16 g15.sz
   have k16:=(u16 s8.next (.inr rfl)).trans k15
   have w16:∀ c,c<s.next∨c=s6.next→s16.at' c=s8.at' c:=fun c hc=>((u16 c (.inl hc)).trans (u15 c (.inl hc))).trans (w14 c hc)
   have n16:¬ s8.next=s16.next:=by have:=(g16.fr s8.next (.inr rfl)).1;omega
   have m16:¬ s8.next=s16.next+1:=by have:=(g16.fr s8.next (.inr rfl)).1;omega
   simp only[↓Zd,Zp,Zs,simprocAttr,HEx,(A8x),vA,e6,k16,n16,co17,ord3]
   refine ccalls_ex (X:=fun s1=>s16.le s1∧s1.at' (s16.next+1)=some (.cells [.int .i64 0,.int .i64 0,.string ⟨#[]⟩] 31 true)∧s16.next+2≤s1.next) ⟨oL,by rw[aN,if_pos (by simp only[Sn])],by simp only[Sn];omega⟩ fun s17 ⟨l17,c17,p17⟩=>?_
   have g17:=(g16.le l17 (k:=s16.next+2) p17).sub (L':=fun c=>((c<s.next∨c=s6.next)∨c=s8.next)∨c=s16.next+1) fun c hc=>by rcases hc with hc|hc;exact .inl hc;exact .inr oM
   have u17:∀ c,(c<s.next∨c=s6.next)∨c=s8.next→s17.at' c=s16.at' c:=fun c hc=>l17.2 c (g16.fr c hc).1
   have k17:=(u17 s8.next (.inr rfl)).trans k16
   refine args8_spec hx8 fun s18 ab l l18 ha1 ha2 hab hI hl=>?_
   obtain⟨g18,u18⟩:=g17.le0 l18
   have k18:=(u18 s8.next (.inl (.inr rfl))).trans k17
   simp only[↓Zd,Zp,simprocAttr,cld2,HEx,k18,co16]
   refine sbuilt_spec (o:=0) g18.st g18.lo oM (.inr trivial) hI oM ha2 (fun hb=>by have:=(g17.st.own ab hb).2;omega) hab (fun i hi=>by rw[Nat.zero_add]) fun s20 OO tvv va vb vx h20 v20=>?_
   rw[over_built hov]at h20
   rw[over_built hov,hov]
   obtain⟨g20,u20⟩:=g18.real (N1:=N+4) oM h20 v20 g18.sz
   have k20:=(u20 s8.next (.inl (.inr rfl))).trans k18
   have c20:=((u20 _ (.inr rfl)).trans (u18 _ (.inr rfl))).trans c17
   unfold vA
   simp only[↓Zd,Zp,Zs,simprocAttr,HEx,(A8x),c20]
   simp only[List.append_eq,List.cons_append,List.nil_append]
   simp only[↓Zd,Zp,simprocAttr,cld2,HEx,(A8x),e6,k20,m16,co18]
   refine ccalls_ex (X:=fun s1=>SoAt (fun c=>(c<s.next∨c=s6.next)∨c=s8.next) n0 s1 q r E (N+4) _ p gb _ _ _∧∀ c,(c<s.next∨c=s6.next)∨c=s8.next→s1.at' c=s20.at' c) ⟨(g20.put (.inr rfl)).sub fun c hc => .inl hc,fun c hc=>by rw[aP,if_neg (by have:=(g16.fr c hc).1;omega)]⟩ fun s21 ⟨g21,u21⟩=>?_
   have k21:=(u21 s8.next (.inr rfl)).trans k20
   refine stick_spec g21.st o2 fun s22 h22 v22=>?_
   rw[over_tick hov]at h22
   rw[over_tick hov,hov]
   obtain⟨g22,u22⟩:=g21.real (N1:=N+4) oM h22 v22 g21.sz
   have k22:=(u22 s8.next (.inr rfl)).trans k21
   have w22:∀ c,c<s.next∨c=s6.next→s22.at' c=s8.at' c:=fun c hc=>((((((u22 c (.inl hc)).trans (u21 c (.inl hc))).trans (u20 c (.inl (.inl hc)))).trans (u18 c (.inl (.inl hc)))).trans (u17 c (.inl hc))).trans (w16 c hc))
   have n22:¬ s8.next=s22.next:=by have:=(g22.fr s8.next (.inr rfl)).1;omega
   simp only[↓Zd,Zp,Zs,simprocAttr,HEx,TAx,(A8x),e6,k22,co19]
   refine ccalls_le (s:=s22) oL fun s23 l23=>?_
   obtain⟨g23,u23⟩:=g22.le0 l23
   have k23:=(u23 s8.next (.inr rfl)).trans k22
   refine stset_spec g23.st g23.lo oM o5 fun s24 OO tvv h24 v24=>?_
   rw[over_ch hov]at h24
   rw[over_ch hov,hov]
   obtain⟨g24,u24⟩:=g23.real (N1:=N+8) oM h24 v24 g23.sz
   have k24:=(u24 s8.next (.inr rfl)).trans k23
   have w24:∀ c,c<s.next∨c=s6.next→s24.at' c=s8.at' c:=fun c hc=>((u24 c (.inl hc)).trans (u23 c (.inl hc))).trans (w22 c hc)
   have n24:¬ s8.next=s24.next:=by have:=(g24.fr s8.next (.inr rfl)).1;omega
   simp only[↓Zd,Zp,Zs,simprocAttr,HEx,(A8x),e6,k24,co20]
   refine ccalls_le (s:=s24) oL fun s25 l25=>?_
   obtain⟨g25,u25⟩:=g24.le0 l25
   have k25:=(u25 s8.next (.inr rfl)).trans k24
   refine ssetix_spec g25.st g25.lo oM o5 fun s26 OO tvv h26 v26=>?_
   rw[over_ch hov]at h26
   rw[over_ch hov,hov]
   obtain⟨g26,u26⟩:=g25.real (N1:=N+12) oM h26 v26 g25.sz
   have k26:=(u26 s8.next (.inr rfl)).trans k25
   have w26:∀ c,c<s.next∨c=s6.next→s26.at' c=s8.at' c:=fun c hc=>((u26 c (.inl hc)).trans (u25 c (.inl hc))).trans (w24 c hc)
   have n26:¬ s8.next=s26.next:=by have:=(g26.fr s8.next (.inr rfl)).1;omega
   simp only[↓Zd,Zp,Zs,simprocAttr,HEx,TAx,(A8x),e6,k26,co21]
   refine ccalls_le (s:=s26) oL fun s27 l27=>?_
   obtain⟨g27,u27⟩:=g26.le0 l27
   have k27:=(u27 s8.next (.inr rfl)).trans k26
   refine sdel_spec g27.st g27.lo oM o5 fun s28 OO tvv h28 v28=>?_
   rw[over_ch hov]at h28
   rw[over_ch hov,hov]
   obtain⟨g28,u28⟩:=g27.real (N1:=N+16) oM h28 v28 g27.sz
   have k28:=(u28 s8.next (.inr rfl)).trans k27
   have w28:∀ c,c<s.next∨c=s6.next→s28.at' c=s8.at' c:=fun c hc=>((u28 c (.inl hc)).trans (u27 c (.inl hc))).trans (w26 c hc)
   have n28:¬ s8.next=s28.next:=by have:=(g28.fr s8.next (.inr rfl)).1;omega
   simp only[↓Zd,Zp,Zs,simprocAttr,HEx,(A8x),e6,k28,co22]
   refine ccalls_le (s:=s28) oL fun s29 l29=>?_
   obtain⟨g29,u29⟩:=g28.le0 l29
   have k29:=(u29 s8.next (.inr rfl)).trans k28
   refine sprint_spec g29.st oM o5 fun s30 ovv h30 v30=>?_
   rw[over_print hov]at h30
   rw[hov]
   obtain⟨g30,u30⟩:=g29.real (N1:=N+17) oM h30 v30 g29.sz
   have k30:=(u30 s8.next (.inr rfl)).trans k29
   have w30:∀ c,c<s.next∨c=s6.next→s30.at' c=s8.at' c:=fun c hc=>((u30 c (.inl hc)).trans (u29 c (.inl hc))).trans (w28 c hc)
   have n30:¬ s8.next=s30.next:=by have:=(g30.fr s8.next (.inr rfl)).1;omega
   simp only[↓Zd,Zp,Zs,simprocAttr,HEx,(A8x),e6,k30,co23]
   refine ccalls_le (s:=s30) oL fun s31 l31=>?_
   obtain⟨g31,u31⟩:=g30.le0 l31
   have k31:=(u31 s8.next (.inr rfl)).trans k30
   refine ssetg_spec g31.st fun s32  h32 v32=>?_
   rw[(over_setg hov).1]at h32
   rw[over_setb hov]
   obtain⟨g32,u32⟩:=g31.real (N1:=N+17) oM h32 v32 g31.sz
   have k32:=(u32 s8.next (.inr rfl)).trans k31
   have w32:∀ c,c<s.next∨c=s6.next→s32.at' c=s8.at' c:=fun c hc=>((u32 c (.inl hc)).trans (u31 c (.inl hc))).trans (w30 c hc)
   have n32:¬ s8.next=s32.next:=by have:=(g32.fr s8.next (.inr rfl)).1;omega
   simp only[↓Zd,Zp,Zs,simprocAttr,HEx,(A8x),e6,k32,co24]
   refine ccalls_le (s:=s32) oL fun s33 l33=>?_
   obtain⟨g33,u33⟩:=g32.le0 l33
   have k33:=(u33 s8.next (.inr rfl)).trans k32
   refine senter_spec g33.st fun s34  h34 v34=>?_
   rw[over_enter hov]at h34
   rw[over_enter hov,hov]
   obtain⟨g34,u34⟩:=g33.real (N1:=N+17) oM h34 v34 g33.sz
   have k34:=(u34 s8.next (.inr rfl)).trans k33
   have w34:∀ c,c<s.next∨c=s6.next→s34.at' c=s8.at' c:=fun c hc=>((u34 c (.inl hc)).trans (u33 c (.inl hc))).trans (w32 c hc)
   simp only[↓Zd,Zp,simprocAttr,cld2,HEx,(A8x),e6,k34,co25]
   refine sglob_spec g34.st fun s50 l50=>?_
   obtain⟨g50,u50⟩:=g34.le0 l50
   rw[over_glob hov]
   unfold zV
   simp only[↓Zd,Zp,simprocAttr,HEx,vA,e1,e6,e9,e10,e11,VneSelf,w1]
   exact⟨21 - (k+1),oM,k+1,N+17,_,_,_,_,rfl,oM,rfl,oM,g50.sub fun c hc => .inl hc,((u50 _ (.inl (.inr rfl))).trans (w34 _ (.inr rfl))).trans c8,fun c hc=>((u50 _ (.inl (.inl hc))).trans (w34 _ (.inl hc))).trans (old8 c hc)⟩
 rintro env s8 ⟨e6,e9,e10,O8,ov8,tv8,W8,g8,c8⟩
 simp only[↓Zd,Zp,simprocAttr,e6,co12]
 refine soutc_spec g8.st oM hk g8.sz.v.2 fun s9 pa pc px l9=>?_
 obtain⟨g9,u9⟩:=g8.le0 l9
 have c9:=(u9 s6.next (.inr rfl)).trans c8
 have n9:¬ s6.next=s9.next:=by have:=(g9.fr s6.next (.inr rfl)).1;omega
 simp only[↓Zd,Zp,Zs,simprocAttr,underlying41,sz41,hzO,e6,co26]
 refine ccalls_ex (X:=fun s1=>s9.le s1∧s1.at' s9.next=some (.cells [.int .i64 E.kind,.int .i64 E.err,.int .i64 0,.slice pa E.out.length pc,.string px] 41 true)∧s9.next+1≤s1.next) ⟨oL,by rw[aP,if_pos rfl],by simp only[Sn];omega⟩ fun sa ⟨la,ca,pa'⟩=>?_
 obtain⟨ga,ua⟩:=g9.le0 la
 have cb:=(ua s6.next (.inr rfl)).trans c9
 refine sover_spec ga.st ?_
 rw[hov]
 simp only[↓Zd,Zp,simprocAttr,HEx,e6,co11]
 refine sdump_spec ga.st oM ga.sz fun sc lc=>?_
 have cc1:=(lc.2 s9.next oM).trans ca
 have cc2:=(lc.2 s6.next (by have:=(ga.fr s6.next (.inr rfl)).1;exact this)).trans cb
 simp only[↓Zd,Zp,simprocAttr,cld2,HEx,TAx,fa41x0,fa41x1,fa41x3,e9,e10,cc1,cc2,hk,co8]
 refine works18_spec ?_
 simp only[↓Zd,Zp,simprocAttr,HEx]
 exact hR _
end
end Go.Proofs.Tryz
section
set_option maxRecDepth 100000
namespace Go.Proofs.Tryz
open Go.Cs Go.ChangeShapes Go.WideShapes Go.ChangeAt Go.RowKit Go.ChangeMaps
theorem stateOver_walk{A us:List A18D}{cp:Nat}{oi:Option BI}{ad:Nat→Option Addr}{v:Value}{w:World}(hr:∀ ρ,QIn ρ w oi (us.flatMap act18C))(hv:∀ (ρ:Ren) j,ρ j=oi→VRel ρ (.slice (ad j) A.length cp) v)(hok:∀ a∈A,Act18Ok a)(ht:A=[]∨(ad=fun j=>some ⟨j,0,none⟩)∧∀ k,k<A.length→us[k]?=A[k]?)(hl:A.length≤9223372036854775807)
  {A2 us2:List A18D}{cp2:Nat}{oi2:Option BI}{ad2:Nat→Option Addr}{v2:Value}(hr2:∀ ρ,QIn ρ w oi2 (us2.flatMap act18C))(hv2:∀ (ρ:Ren) j,ρ j=oi2→VRel ρ (.slice (ad2 j) A2.length cp2) v2)(hok2:∀ a∈A2,Act18Ok a)(ht2:A2=[]∨(ad2=fun j=>some ⟨j,0,none⟩)∧∀ k,k<A2.length→us2[k]?=A2[k]?)(hl2:A2.length≤9223372036854775807) :
  Calls prog 3 #[v,v2] w fun e w'=>e = .returned (.bool true)∧Below w.heap.size w w':=by
 refine calls_q (L:=[(33,us.flatMap act18C),(33,us2.flatMap act18C)]) (B:=[oi,oi2]) (args:=#[.slice (ad 0) A.length cp,.slice (ad2 1) A2.length cp2]) rfl ?_ ⟨rfl,?_⟩ (stateOver_spec ?_ hok hl ?_ hok2 hl2 fun _=>rfl)
 ·intro j oi' r h1 h2
  match j,h1,h2 with
  |0,h1,h2=>cases h1;cases h2;exact hr _
  |1,h1,h2=>cases h1;cases h2;exact hr2 _
 ·intro i hi
  match i,hi with
  |0,_=>exact hv _ 0 rfl
  |1,_=>exact hv2 _ 1 rfl
 ·rcases ht with ht|⟨rfl,ht⟩
  ·exact .inl ht
  ·exact .inr ⟨0,us,rfl,(show 0<2 by decide),rfl,ht⟩
 ·rcases ht2 with ht|⟨rfl,ht⟩
  ·exact .inl ht
  ·exact .inr ⟨1,us2,rfl,(show 1<2 by decide),rfl,ht⟩
end Go.Proofs.Tryz
end
