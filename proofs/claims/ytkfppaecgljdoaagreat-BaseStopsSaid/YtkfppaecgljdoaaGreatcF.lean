/- Lemmas, laid one behind the other by squeeze2.py. -/
import Derived.Test.YtkfppaecgljdoaaGreatcE
set_option linter.unusedSimpArgs false
set_option linter.unusedVariables false
set_option linter.unusedSectionVars false
set_option linter.defProp false
namespace Go.Proofs.Tryz
open Go.Cs
open Go.RowKit (Below)
set_option maxRecDepth 100000
attribute [local irreducible] QC WLoop WScope CRound WRange
set_option maxHeartbeats 32000000
variable {M:Type}[Mem M]{w0:World}{s:St M}{R:Value→St M→Prop}
theorem val3_valsC:∀ g:List (Int×Int×ByteArray),g.flatMap val3=valsC (g.map fun v=>((⟨#[]⟩:ByteArray),v)):=by
 intro g
 unfold valsC
 induction g with
 |nil=>rfl
 |cons v g ih=>rw[List.flatMap_cons,ih,List.map_cons,List.flatMap_cons];rfl
theorem val3_cut{g:List (Int×Int×ByteArray)}{k:Nat}{v:Int×Int×ByteArray}(h:g[k]?=some v):k*3+3≤(g.flatMap val3).length∧List.take 3 (List.drop (k*3) (g.flatMap val3))=[.int .i64 v.1,.int .i64 v.2.1,.string v.2.2]:=by
 rw[val3_valsC]
 have:=valsC_cut (g.map fun v=>((⟨#[]⟩:ByteArray),v)) k ⟨#[]⟩ v [] (by rw[List.getElem?_map,h];rfl)
 rw[List.append_nil]at this
 exact this
theorem val3_set{g:List (Int×Int×ByteArray)}{k:Nat}(v:Int×Int×ByteArray)(h:k<g.length):setCells (g.flatMap val3) (k*3) [.int .i64 v.1,.int .i64 v.2.1,.string v.2.2]=(g.set k v).flatMap val3:=by
 rw[val3_valsC,val3_valsC]
 have:=valsC_set (g.map fun v=>((⟨#[]⟩:ByteArray),v)) k ⟨#[]⟩ v g[k] [] (by rw[List.getElem?_map,List.getElem?_eq_getElem h];rfl)
 rw[List.append_nil,List.append_nil]at this
 rw[this,List.map_set]
def globV(D:StD)(i:Int):Int×Int×ByteArray:=if goesB D=true then (if 0≤i then D.g.getD i.toNat zV else zV) else zV
def setgB(D:StD)(i:Int):Bool:=goesB D && decide (0≤i∧i<(D.g.length:Int))
def setgT(D:StD)(i:Int)(v:Int×Int×ByteArray):StD:=if setgB D i=true then setgS D i v else D
def makeE(H:Hp):Int:=if H.maxO≤H.obs.length then 40 else 0
def makeS(D:StD):StD:=if goesB D=true then needS { D with H:=makeH D.H } (makeE D.H) else D
def printS(D:StD)(v:Int×Int×ByteArray):StD:=if goesB D=true then { D with out:=D.out ++ [showV v.1 v.2.1 v.2.2] } else D
section
variable {lo q N p gb:Nat}{D:StD}{O:Nat→Prop}{ov tv:Value}
theorem Upd.loc{s1 s2:St M}{A B:Nat→Prop}{c:Nat}(h:Upd s1 s2 A B)(hc:c<s1.next)(hA:¬ A c):¬ B c∧s2.at' c=s1.at' c:=
 ⟨fun hb=>by rcases h.own c hb with h|h;exact hA h;omega,h.keep c hc hA⟩
theorem StIn.loc{s2:St M}{A:Nat→Prop}{c:Nat}{B:Blk}(h:StIn lo s2 q D N O p gb ov tv)(hU:Upd s s2 A (ownS q gb ov tv O))(hc:s.next≤c)(hA:¬ ownS q gb ov tv O c):StIn lo (s2.put c B) q D N O p gb ov tv∧Upd s (s2.put c B) A (ownS q gb ov tv O):=
 ⟨h.same (Nat.le_refl _) fun b hb=>by rw[St.at_put,if_neg (fun e:b=c=>hA (e▸hb))],hU.next,fun b hb ho=>by rw[St.at_put,if_neg (by omega)];exact hU.keep b hb ho,hU.own⟩
theorem StIn.fresh(h:StIn lo s q D N O p gb ov tv){c:Nat}(hc:s.next≤c):¬ ownS q gb ov tv O c:=fun hb=>by have:=(h.own c hb).2;omega
theorem sglob_spec{i:Int}(h:StIn lo s q D N O p gb ov tv)(hR:∀ s',s.le s'→R (vA (globV D i).1 (globV D i).2.1 (globV D i).2.2) s') :
  QC prog w0 25 #[.pointer (some ⟨q,0,none⟩),.int .i64 i] s R:=by
 refine wfun2 hmix ok25 func25 rfl ntmps25 results25 (by simp) ?_
 have l1:s.le (s.new (.cells [.int .i64 0,.int .i64 0,.string ⟨#[]⟩] 31 true)):=lN (lR _)
 have hb:=h.bl
 have hgl:=h.gl
 have hq1:¬ q=s.next:=by have:=h.q0.2.1;omega
 have hg1:¬ gb=s.next:=by have:=h.g0.2.1;omega
 have hlg:=h.num.glob
 unfold stC at hb
 simp -implicitDefEqProofs only[↓Zd,(Zp),Zr,simprocAttr,qP,Value.cells,cut,qC,cld2,(HEx),(TAx),vA,co26]
 refine sover_spec (h.le l1) ?_
 unfold globV at hR
 cases hg:goesB D with
 |false =>
  rw[hg]at hR
  simp -implicitDefEqProofs only[↓Zd,(Zp),Zr,simprocAttr,qP,Value.cells,cut,qC,cld2,(HEx),(TAx),vA,hg1,bVal0]
  exact hR _ (by repeat (first|exact lR _|assumption|refine lN ?_|refine lP ?_ (by first|omega|(simp only[(Sn)];omega))|refine lT ?_ (by assumption)))
 |true =>
  rw[hg,if_pos rfl]at hR
  by_cases h1:i<0
  ·rw[if_neg (by omega)]at hR
   simp -implicitDefEqProofs only[↓Zd,(Zp),Zr,simprocAttr,qP,Value.cells,cut,qC,cld2,(HEx),(TAx),vA,h1,bVal0]
   exact hR _ (by repeat (first|exact lR _|assumption|refine lN ?_|refine lP ?_ (by first|omega|(simp only[(Sn)];omega))|refine lT ?_ (by assumption)))
  ·rw[if_pos (by omega)]at hR
   obtain⟨k,rfl⟩:∃ k:Nat,i=(k:Int):=⟨i.toNat,by omega⟩
   rw[Int.toNat_natCast]at hR
   by_cases h2:(D.g.length:Int)≤(k:Int)
   ·rw[List.getD_eq_getElem?_getD,List.getElem?_eq_none (by omega)]at hR
    simp -implicitDefEqProofs only[↓Zd,(Zp),Zr,simprocAttr,qP,Value.cells,cut,qC,cld2,(HEx),(TAx),vA,h1,h2,hb,hq1,bVal0]
    exact hR _ (by repeat (first|exact lR _|assumption|refine lN ?_|refine lP ?_ (by first|omega|(simp only[(Sn)];omega))|refine lT ?_ (by assumption)))
   ·have hk:D.g[k]?=some D.g[k]:=List.getElem?_eq_getElem (by omega)
    rw[List.getD_eq_getElem?_getD,hk]at hR
    obtain⟨c1,c2⟩:=val3_cut hk
    have hkk:(0:Int)≤(k:Int)∧(k:Int)<(D.g.length:Int):=by omega
    simp only[Option.getD_some]at hR
    unfold vA at hR
    simp -implicitDefEqProofs only[↓Zd,(Zp),Zr,simprocAttr,qP,Value.cells,cut,qC,cld2,(HEx),(TAx),vA,h1,h2,hb,hgl,hq1,hg1,hkk,c1,c2,Nat.zero_add]
    exact hR _ (by repeat (first|exact lR _|assumption|refine lN ?_|refine lP ?_ (by first|omega|(simp only[(Sn)];omega))|refine lT ?_ (by assumption)))
theorem ssetg_spec{i vk vn:Int}{vx:ByteArray}(h:StIn lo s q D N O p gb ov tv)(hR:∀ s',StIn lo s' q (setgT D i (vk,vn,vx)) N O p gb ov tv→Upd s s' (ownS q gb ov tv O) (ownS q gb ov tv O)→R (.bool (setgB D i)) s') :
  QC prog w0 23 #[.pointer (some ⟨q,0,none⟩),.int .i64 i,vA vk vn vx] s R:=by
 refine wfun2 hmix ok23 func23 rfl ntmps23 results23 (by simp) ?_
 have l1:s.le (s.new (.cells [.int .i64 vk,.int .i64 vn,.string vx] 31 true)):=lN (lR _)
 have h1:=h.le l1
 have u1:Upd s (s.new (.cells [.int .i64 vk,.int .i64 vn,.string vx] 31 true)) (ownS q gb ov tv O) (ownS q gb ov tv O) := .of_le l1
 have hb:=h.bl
 have hgl:=h.gl
 have hg0:=h.g0
 have hq1:¬ q=s.next:=by have:=h.q0.2.1;omega
 have hg1:¬ gb=s.next:=by omega
 have hlg:=h.num.glob
 unfold stC at hb
 simp -implicitDefEqProofs only[↓Zd,(Zp),Zr,simprocAttr,qP,Value.cells,cut,qC,cld2,(HEx),(TAx),vA,co26]
 refine sover_spec h1 ?_
 unfold setgT setgB at hR
 cases hg:goesB D with
 |false =>
  rw[hg]at hR
  simp only[Bool.false_and,Bool.false_eq_true,if_false]at hR
  simp -implicitDefEqProofs only[↓Zd,(Zp),Zr,simprocAttr,qP,Value.cells,cut,qC,cld2,(HEx),(TAx),vA]
  exact hR _ h1 u1
 |true =>
  rw[hg]at hR
  simp only[Bool.true_and]at hR
  by_cases r1:i<0
  ·rw[decide_eq_false (by omega)]at hR
   simp only[Bool.false_eq_true,if_false]at hR
   simp -implicitDefEqProofs only[↓Zd,(Zp),Zr,simprocAttr,qP,Value.cells,cut,qC,cld2,(HEx),(TAx),vA,r1]
   exact hR _ h1 u1
  ·obtain⟨k,rfl⟩:∃ k:Nat,i=(k:Int):=⟨i.toNat,by omega⟩
   by_cases r2:(D.g.length:Int)≤(k:Int)
   ·rw[decide_eq_false (by omega)]at hR
    simp only[Bool.false_eq_true,if_false]at hR
    simp -implicitDefEqProofs only[↓Zd,(Zp),Zr,simprocAttr,qP,Value.cells,cut,qC,cld2,(HEx),(TAx),vA,r1,r2,hb,hq1]
    exact hR _ h1 u1
   ·rw[decide_eq_true (by omega),if_pos rfl]at hR
    unfold setgS at hR
    rw[Int.toNat_natCast]at hR
    have hk:D.g[k]?=some D.g[k]:=List.getElem?_eq_getElem (by omega)
    obtain⟨c1,c2⟩:=val3_cut hk
    have c3:=val3_set (vk,vn,vx) (show k<D.g.length by omega)
    simp only at c3
    have hkk:(0:Int)≤(k:Int)∧(k:Int)<(D.g.length:Int):=by omega
    simp -implicitDefEqProofs only[↓Zd,(Zp),Zr,simprocAttr,qP,Value.cells,cut,qC,cld2,(HEx),(TAx),vA,r1,r2,hb,hgl,hq1,hg1,hkk,c1,c2,Nat.zero_add,ord23]
    refine (fun (H:_∧_)=>hR _ H.1 H.2) (h.putG (g':=D.g.set k (vk,vn,vx)) ?_ (by rw[List.length_set]) ?_ ?_)
    ·simp only[(Sn)];omega
    ·rw[St.at_put,if_pos rfl,← c3]
     rfl
    ·intro b hb2 hb3
     rw[St.at_put,if_neg hb3,St.at_new,if_neg (by omega)]
theorem smake_spec(h:StIn lo s q D N O p gb ov tv)(hlo:lo≤s.next)(hR:∀ s' O' a b x,StIn lo s' q (makeS D) N O' p gb ov tv→Upd s s' (ownS q gb ov tv O) (ownS q gb ov tv O')→R (.tuple #[vA a b x,.bool (goesB (makeS D))]) s') :
  QC prog w0 13 #[.pointer (some ⟨q,0,none⟩)] s R:=by
 refine wfun2 hmix ok13 func13 rfl ntmps13 results13 (by simp) ?_
 have l1:s.le (s.new (.cells [.int .i64 0,.int .i64 0,.string ⟨#[]⟩] 31 true)):=lN (lR _)
 have h1:=h.le l1
 have u1:Upd s (s.new (.cells [.int .i64 0,.int .i64 0,.string ⟨#[]⟩] 31 true)) (ownS q gb ov tv O) (ownS q gb ov tv O) := .of_le l1
 have k1:(s.new (.cells [.int .i64 0,.int .i64 0,.string ⟨#[]⟩] 31 true)).at' s.next=some (.cells [.int .i64 0,.int .i64 0,.string ⟨#[]⟩] 31 true):=by rw[St.at_new,if_pos rfl]
 have hb:=h1.bl
 unfold stC at hb
 simp -implicitDefEqProofs only[↓Zd,(Zp),Zr,simprocAttr,qP,Value.cells,cut,qC,cld2,(HEx),(TAx),vA,co26]
 refine sover_spec h1 ?_
 unfold makeS at hR
 cases hg:goesB D with
 |false =>
  rw[hg]at hR
  simp only[Bool.false_eq_true,if_false]at hR
  rw[hg]at hR
  unfold vA at hR
  simp -implicitDefEqProofs only[↓Zd,(Zp),Zr,simprocAttr,qP,Value.cells,cut,qC,cld2,(HEx),(TAx),vA,bVal0]
  obtain⟨a,b⟩:=h1.loc (c:=s.next) u1 (Nat.le_refl _) (h.fresh (Nat.le_refl _))
  exact hR _ _ _ _ _ a b
 |true =>
  rw[hg]at hR
  simp only[if_true]at hR
  have kn:s.next<(s.new (.cells [.int .i64 0,.int .i64 0,.string ⟨#[]⟩] 31 true)).next:=by simp only[St.next_new];omega
  generalize s.new (.cells [.int .i64 0,.int .i64 0,.string ⟨#[]⟩] 31 true)=s1 at l1 h1 u1 k1 hb kn ⊢
  have n1:=l1.1
  simp -implicitDefEqProofs only[↓Zd,(Zp),Zr,simprocAttr,qP,Value.cells,cut,qC,cld2,(HEx),(TAx),vA,hb,co62]
  refine hmake_spec h1.heap (by omega) fun s2 O2 hH2 hU2=>?_
  obtain⟨h2,u2⟩:=h1.heaped (Nat.le_refl _) hH2 hU2
  obtain⟨f2,k2⟩:=u2.loc (c:=s.next) kn (h.fresh (Nat.le_refl _))
  have hE:∃ o e:Int,makeV D.H = .tuple #[.int .i64 o,.int .i64 e]∧e=makeE D.H:=by
   unfold makeV makeE
   split
   ·exact⟨_,_,rfl,rfl⟩
   ·exact⟨_,_,rfl,rfl⟩
  obtain⟨o,e,hV,he⟩:=hE
  have bV:cbuild prog 31 #[(0,.int .i64 4),(1,.int .i64 o)]=some (.agg #[.int .i64 4,.int .i64 o,.string ⟨#[]⟩]):=bv2 4 o
  simp -implicitDefEqProofs only[↓Zd,(Zp),Zr,simprocAttr,qP,Value.cells,cut,qC,cld2,(HEx),(TAx),vA,hV,bV,co63,underlying115]
  refine smade_spec h2 fun s3 h3 u3=>?_
  obtain⟨f3,k3⟩:=u3.loc (c:=s.next) (by have:=u2.next;omega) f2
  have k33:=(k3.trans k2).trans k1
  rw[← he]at hR
  unfold madeV
  have fin:∀ {B:Blk}(a b:Int) (x:ByteArray),R (.tuple #[vA a b x,.bool (goesB (needS { D with H:=makeH D.H } e))]) (s3.put s.next B):=fun {B} a b x=>by
   obtain⟨g1,g2⟩:=h3.loc (c:=s.next) (B:=B) ((u1.trans u2).trans u3) (Nat.le_refl _) f3
   exact hR _ _ a b x g1 g2
  unfold vA at fin
  cases hg2:goesB (needS { D with H:=makeH D.H } e) with
  |false =>
   rw[hg2]at fin
   simp -implicitDefEqProofs only[↓Zd,(Zp),Zr,simprocAttr,qP,Value.cells,cut,qC,cld2,(HEx),(TAx),vA,k33]
   exact fin _ _ _
  |true =>
   rw[hg2]at fin
   simp -implicitDefEqProofs only[↓Zd,(Zp),Zr,simprocAttr,qP,Value.cells,cut,qC,cld2,(HEx),(TAx),vA,k33]
   exact fin _ _ _
end
def errOf:Value→Int
 |.tuple a=>match (a[1]?:Option Value) with
  |some (.int _ e)=>e
  |_=>0
 |_=>0
section
variable {lo q N p gb:Nat}{D:StD}{O:Nat→Prop}{ov tv:Value}
theorem smade2_spec{e vk vn:Int}{vx:ByteArray}(h:StIn lo s q D N O p gb ov tv)(hR:∀ s' a b x,StIn lo s' q (needS D e) N O p gb ov tv→Upd s s' (ownS q gb ov tv O) (ownS q gb ov tv O)→R (.tuple #[vA a b x,.bool (goesB (needS D e))]) s') :
  QC prog w0 63 #[.pointer (some ⟨q,0,none⟩),vA vk vn vx,.int .i64 e] s R:=by
 refine smade_spec h fun s1 h1 u1=>?_
 unfold madeV
 cases hg:goesB (needS D e) with
 |false =>
  rw[if_neg Bool.false_ne_true]
  have:=hR s1 0 0 ⟨#[]⟩ h1 u1
  rw[hg]at this
  exact this
 |true =>
  rw[if_pos rfl]
  have:=hR s1 vk vn vx h1 u1
  rw[hg]at this
  exact this
theorem sfin_spec{vk vn:Int}{vx:ByteArray}(h:StIn lo s q D N O p gb ov tv)(hR:∀ s',StIn lo s' q (endS D 2 0 (vk,vn,vx)) N O p gb ov tv→Upd s s' (ownS q gb ov tv O) (ownS q gb ov tv O)→R (.tuple #[]) s') :
  QC prog w0 10 #[.pointer (some ⟨q,0,none⟩),vA vk vn vx] s R:=by
 refine wfun2 hmix ok10 func10 rfl ntmps10 results10 (by simp) ?_
 have l1:s.le (s.new (.cells [.int .i64 vk,.int .i64 vn,.string vx] 31 true)):=lN (lR _)
 first
  |(simp -implicitDefEqProofs only[↓Zd,(Zp),Zr,simprocAttr,qP,Value.cells,cut,qC,cld2,(HEx),(TAx),vA,co52]
    refine send_spec h fun s1 h1 u1=>?_
    simp -implicitDefEqProofs only[↓Zd,(Zp),Zr,simprocAttr,qP,Value.cells,cut,qC,cld2,(HEx),(TAx),vA]
    exact hR _ h1 u1)
  |(simp -implicitDefEqProofs only[↓Zd,(Zp),Zr,simprocAttr,qP,Value.cells,cut,qC,cld2,(HEx),(TAx),vA,co52]
    refine send_spec (h.le l1) fun s1 h1 u1=>?_
    simp -implicitDefEqProofs only[↓Zd,(Zp),Zr,simprocAttr,qP,Value.cells,cut,qC,cld2,(HEx),(TAx),vA]
    exact hR _ h1 ((Upd.of_le l1).trans u1))
theorem sun_spec{op k n:Int}{x:ByteArray}(h:StIn lo s q D N O p gb ov tv)(hR:∀ s' a b y,StIn lo s' q (needS D (errOf (unV op k n))) N O p gb ov tv→Upd s s' (ownS q gb ov tv O) (ownS q gb ov tv O)→R (.tuple #[vA a b y,.bool (goesB (needS D (errOf (unV op k n))))]) s') :
  QC prog w0 111 #[.pointer (some ⟨q,0,none⟩),.int .i64 op,vA k n x] s R:=by
 refine wfun2 hmix ok111 func111 rfl ntmps111 results111 (by simp) ?_
 have l1:s.le ((s.new (.cells [.int .i64 k,.int .i64 n,.string x] 31 true)).new (.cells [.int .i64 0,.int .i64 0,.string ⟨#[]⟩] 31 true)):=(by repeat (first|exact lR _|assumption|refine lN ?_|refine lP ?_ (by first|omega|(simp only[(Sn)];omega))|refine lT ?_ (by assumption)))
 have k1:((s.new (.cells [.int .i64 k,.int .i64 n,.string x] 31 true)).new (.cells [.int .i64 0,.int .i64 0,.string ⟨#[]⟩] 31 true)).at' (s.next+1)=some (.cells [.int .i64 0,.int .i64 0,.string ⟨#[]⟩] 31 true):=by rw[St.at_new,if_pos (by simp only[St.next_new])]
 have kn:s.next+1<((s.new (.cells [.int .i64 k,.int .i64 n,.string x] 31 true)).new (.cells [.int .i64 0,.int .i64 0,.string ⟨#[]⟩] 31 true)).next:=by simp only[St.next_new];omega
 obtain⟨a,b,y,e,hV⟩:=unV_tup op k n
 have he:errOf (unV op k n)=e:=by rw[hV];rfl
 rw[he]at hR
 unfold vA at hV
 simp -implicitDefEqProofs only[↓Zd,(Zp),Zr,simprocAttr,qP,Value.cells,cut,qC,cld2,(HEx),(TAx),vA,co186]
 generalize ((s.new (.cells [.int .i64 k,.int .i64 n,.string x] 31 true)).new (.cells [.int .i64 0,.int .i64 0,.string ⟨#[]⟩] 31 true))=s1 at l1 k1 kn ⊢
 refine un_spec fun s2 l2=>?_
 have l12:=lT l1 l2
 simp -implicitDefEqProofs only[↓Zd,(Zp),Zr,simprocAttr,qP,Value.cells,cut,qC,cld2,(HEx),(TAx),vA,hV,co63]
 refine smade2_spec (h.le l12) fun s3 a3 b3 y3 h3 u3=>?_
 have n2:=l2.1
 obtain⟨f3,k3⟩:=u3.loc (c:=s.next+1) (by omega) (h.fresh (by omega))
 have k33:=(k3.trans (l2.2 (s.next+1) kn)).trans k1
 have fin:∀ {B:Blk},R (.tuple #[vA a3 b3 y3,.bool (goesB (needS D e))]) (s3.put (s.next+1) B):=fun {B}=>by
  obtain⟨g1,g2⟩:=h3.loc (c:=s.next+1) (B:=B) ((Upd.of_le l12).trans u3) (by omega) f3
  exact hR _ a3 b3 y3 g1 g2
 unfold vA at fin ⊢
 simp -implicitDefEqProofs only[↓Zd,(Zp),Zr,simprocAttr,qP,Value.cells,cut,qC,cld2,(HEx),(TAx),vA,k33]
 exact fin
theorem sbin_spec{op k n k' n':Int}{x x':ByteArray}(h:StIn lo s q D N O p gb ov tv)(hn:I64 n)(hR:∀ s' a b y,StIn lo s' q (needS D (errOf (binV op k n x k' n' x' D.l3))) N O p gb ov tv→Upd s s' (ownS q gb ov tv O) (ownS q gb ov tv O)→R (.tuple #[vA a b y,.bool (goesB (needS D (errOf (binV op k n x k' n' x' D.l3))))]) s') :
  QC prog w0 15 #[.pointer (some ⟨q,0,none⟩),.int .i64 op,vA k n x,vA k' n' x'] s R:=by
 refine wfun2 hmix ok15 func15 rfl ntmps15 results15 (by simp) ?_
 have l1:s.le (((s.new (.cells [.int .i64 k,.int .i64 n,.string x] 31 true)).new (.cells [.int .i64 k',.int .i64 n',.string x'] 31 true)).new (.cells [.int .i64 0,.int .i64 0,.string ⟨#[]⟩] 31 true)):=(by repeat (first|exact lR _|assumption|refine lN ?_|refine lP ?_ (by first|omega|(simp only[(Sn)];omega))|refine lT ?_ (by assumption)))
 have kx:(((s.new (.cells [.int .i64 k,.int .i64 n,.string x] 31 true)).new (.cells [.int .i64 k',.int .i64 n',.string x'] 31 true)).new (.cells [.int .i64 0,.int .i64 0,.string ⟨#[]⟩] 31 true)).at' s.next=some (.cells [.int .i64 k,.int .i64 n,.string x] 31 true):=by rw[St.at_new,if_neg (by simp only[St.next_new];omega),St.at_new,if_neg (by simp only[St.next_new];omega),St.at_new,if_pos rfl]
 have ky:(((s.new (.cells [.int .i64 k,.int .i64 n,.string x] 31 true)).new (.cells [.int .i64 k',.int .i64 n',.string x'] 31 true)).new (.cells [.int .i64 0,.int .i64 0,.string ⟨#[]⟩] 31 true)).at' (s.next+1)=some (.cells [.int .i64 k',.int .i64 n',.string x'] 31 true):=by rw[St.at_new,if_neg (by simp only[St.next_new];omega),St.at_new,if_pos (by simp only[St.next_new])]
 have k1:(((s.new (.cells [.int .i64 k,.int .i64 n,.string x] 31 true)).new (.cells [.int .i64 k',.int .i64 n',.string x'] 31 true)).new (.cells [.int .i64 0,.int .i64 0,.string ⟨#[]⟩] 31 true)).at' (s.next+2)=some (.cells [.int .i64 0,.int .i64 0,.string ⟨#[]⟩] 31 true):=by rw[St.at_new,if_pos (by simp only[St.next_new])]
 have kn:s.next+2<(((s.new (.cells [.int .i64 k,.int .i64 n,.string x] 31 true)).new (.cells [.int .i64 k',.int .i64 n',.string x'] 31 true)).new (.cells [.int .i64 0,.int .i64 0,.string ⟨#[]⟩] 31 true)).next:=by simp only[St.next_new];omega
 obtain⟨a,b,y,e,hV⟩:=binV_tup op k n x k' n' x' D.l3
 have he:errOf (binV op k n x k' n' x' D.l3)=e:=by rw[hV];rfl
 rw[he]at hR
 unfold vA at hV
 have hlim:=h.num.lim
 simp -implicitDefEqProofs only[↓Zd,(Zp),Zr,simprocAttr,qP,Value.cells,cut,qC,cld2,(HEx),(TAx),vA,co26]
 generalize (((s.new (.cells [.int .i64 k,.int .i64 n,.string x] 31 true)).new (.cells [.int .i64 k',.int .i64 n',.string x'] 31 true)).new (.cells [.int .i64 0,.int .i64 0,.string ⟨#[]⟩] 31 true))=s1 at l1 kx ky k1 kn ⊢
 have h1:=h.le l1
 have hb:=h1.bl
 unfold stC at hb
 refine sover_spec h1 ?_
 cases hg:goesB D with
 |false =>
  rw[goes_need hg]at hR
  rw[hg]at hR
  have fin:∀ {B:Blk},R (.tuple #[vA 0 0 ⟨#[]⟩,.bool false]) (s1.put (s.next+2) B):=fun {B}=>by
   obtain⟨g1,g2⟩:=h1.loc (c:=s.next+2) (B:=B) (Upd.of_le l1) (by omega) (h.fresh (by omega))
   exact hR _ _ _ _ g1 g2
  unfold vA at fin
  simp -implicitDefEqProofs only[↓Zd,(Zp),Zr,simprocAttr,qP,Value.cells,cut,qC,cld2,(HEx),(TAx),vA,k1,bVal0]
  exact fin
 |true =>
  simp -implicitDefEqProofs only[↓Zd,(Zp),Zr,simprocAttr,qP,Value.cells,cut,qC,cld2,(HEx),(TAx),vA,hb,kx,ky,co66,ord15,Nat.zero_add]
  refine bin_spec0 hn (by omega) fun s2 l2=>?_
  have l12:=lT l1 l2
  simp -implicitDefEqProofs only[↓Zd,(Zp),Zr,simprocAttr,qP,Value.cells,cut,qC,cld2,(HEx),(TAx),vA,hV,co63,ord15]
  refine smade2_spec (h.le l12) fun s3 a3 b3 y3 h3 u3=>?_
  have n2:=l2.1
  obtain⟨f3,k3⟩:=u3.loc (c:=s.next+2) (by omega) (h.fresh (by omega))
  have k33:=(k3.trans (l2.2 (s.next+2) kn)).trans k1
  have fin:∀ {B:Blk},R (.tuple #[vA a3 b3 y3,.bool (goesB (needS D e))]) (s3.put (s.next+2) B):=fun {B}=>by
   obtain⟨g1,g2⟩:=h3.loc (c:=s.next+2) (B:=B) ((Upd.of_le l12).trans u3) (by omega) f3
   exact hR _ a3 b3 y3 g1 g2
  unfold vA at fin ⊢
  simp -implicitDefEqProofs only[↓Zd,(Zp),Zr,simprocAttr,qP,Value.cells,cut,qC,cld2,(HEx),(TAx),vA,k33,ord15]
  exact fin
end
def touchS(D:StD)(o:Int)(H':Hp):StD:=if epochV H' o=epochV D.H o then { D with H:=H' } else { D with H:=H',tch:=D.tch ++ [o] }
def watchS(D:StD)(o:Int)(H':Hp)(e:Int):StD:=needS (touchS D o H') e
def chS(D:StD)(so:Bool)(o:Int)(H':Hp)(e:Int):StD:=if (goesB D && so)=true then watchS D o H' e else isS D so
theorem goes_is{D:StD}{so:Bool}(h:goesB D=false):isS D so=D:=by
 unfold isS
 split
 ·rfl
 ·exact goes_need h
theorem goes_end{D:StD}{k e:Int}{v:Int×Int×ByteArray}(hk:k≠0):goesB (endS D k e v)=false:=by
 unfold goesB endS
 split
 ·simpa using hk
 ·rename_i h0;simpa using h0
theorem goes_is30{D:StD}:goesB (isS D false)=false:=goes_end (by decide)
theorem StN.need{D:StD}{N:Nat}{e:Int}(h:StN D N):StN (needS D e) N:=by
 unfold needS
 split
 ·exact h
 ·split<;>exact h.endS
theorem rowInt1(x:Int):crow prog 88 1 #[(0,.int .i64 x)]=some (.cells [.int .i64 x] 3 true):=by kernel_rfl
section
variable {lo q N p gb:Nat}{D:StD}{O:Nat→Prop}{ov tv:Value}
theorem app_intS{s:St M}{sl:Value}{T:List Int}{x:Int}(hlen:T.length≤1000000)(hsl:SlC 3 1 s sl (T.map (.int .i64)) T.length)(hfr:∀ b,blkOf sl=some b→b<s.next) :
  ∃ s',capp prog #[88,88] #[sl,.slice (some ⟨s.next,0,none⟩) 1 1] (s.new (.cells [.int .i64 x] 3 true))=some (.slice (some ⟨s.next+1,0,none⟩) (T.length+1) UNK,s')∧s'.next=s.next+2 ∧
   s'.at' (s.next+1)=some (.cells ((T ++ [x]).map (.int .i64)) 3 true)∧(∀ b,b<s.next→blkOf sl≠some b→s'.at' b=s.at' b):=by
 obtain⟨ie,hie,h1,h2⟩:=infoInt
 have hcapp:capp prog #[88,88] #[sl,.slice (some ⟨s.next,0,none⟩) 1 1] (s.new (.cells [.int .i64 x] 3 true))=capp3 prog 3 ie sl (s.new (.cells [.int .i64 x] 3 true)) (cmore ie.size (.slice (some ⟨s.next,0,none⟩) 1 1) (s.new (.cells [.int .i64 x] 3 true))):=
  app_eq underlying88 underlying88 hie
 have hv:cmore ie.size (.slice (some ⟨s.next,0,none⟩) 1 1) (s.new (.cells [.int .i64 x] 3 true))=some (1,[.int .i64 x]):=by
  simp only[more_at,St.at_new,if_true,more2,h1];rfl
 obtain⟨s',h3,h4,h5,h6⟩:=app_row (n:=T.length) (k:=1) hie ze3 (by rw[h1];rfl) (by omega) hcapp (by omega) (by rw[h2];omega) rfl hv (by rw[h1];exact slc_to hsl fun b hb=>by rw[St.at_new,if_neg (by have:=hfr b hb;omega)])
 refine⟨s',by simpa using h3,by simp at h4;omega,by simpa using h5,fun b hb hq=>?_⟩
 rw[h6 b (by simp;omega) (fun q m c e e2=>hq (by rw[e,e2];rfl)),St.at_new,if_neg (by omega)]
theorem app_strS{s:St M}{sl:Value}{T:List ByteArray}{x:ByteArray}(hlen:T.length≤1000000)(hsl:SlC 9 1 s sl (T.map .string) T.length)(hfr:∀ b,blkOf sl=some b→b<s.next) :
  ∃ s',capp prog #[39,39] #[sl,.slice (some ⟨s.next,0,none⟩) 1 1] (s.new (.cells [.string x] 9 true))=some (.slice (some ⟨s.next+1,0,none⟩) (T.length+1) UNK,s')∧s'.next=s.next+2 ∧
   s'.at' (s.next+1)=some (.cells ((T ++ [x]).map .string) 9 true)∧(∀ b,b<s.next→blkOf sl≠some b→s'.at' b=s.at' b):=by
 obtain⟨s',h1,h2,h3,h4⟩:=app_str (x:=x) (by omega) hsl (fun q m c e=>hfr q.block (by rw[e];rfl))
 exact⟨s',h1,h2,h3,fun b hb hq=>h4 b hb fun q m c e e2=>hq (by rw[e,e2];rfl)⟩
theorem swatch_spec{f:FuncId}{caps:Array Value}{o e:Int}{H':Hp}(hcf:qK prog f=true)(h:StIn lo s q D N O p gb ov tv)(hN:N+4≤1000000)(ho : -9223372036854775808≤o∧o≤9223372036854775807)
  (hdo:∀ K:Value→St M→Prop,(∀ s' O',HpAt lo s' p H' (N+3) O'→Upd s s' O O'→K (.int .i64 e) s')→QC prog w0 f caps s K)
  (hR:∀ s' O' tv',StIn lo s' q (watchS D o H' e) (N+4) O' p gb ov tv'→Upd s s' (ownS q gb ov tv O) (ownS q gb ov tv' O')→R (.bool (goesB (watchS D o H' e))) s') :
  QC prog w0 73 #[.pointer (some ⟨q,0,none⟩),.int .i64 o,.func (.func f) #[] caps] s R:=by
 refine wfun2 hmix ok73 func73 rfl ntmps73 results73 (by simp) ?_
 have hb:=h.bl
 unfold stC at hb
 obtain⟨_,tg,pf,pn,sl,bs,hin⟩:=h.heap
 simp -implicitDefEqProofs only[↓Zd,(Zp),Zr,simprocAttr,qP,Value.cells,cut,qC,cld2,(HEx),(TAx),vA,hb,co156]
 refine hepoch_spec hin ho ?_
 simp -implicitDefEqProofs only[↓Zd,(Zp),Zr,simprocAttr,qP,Value.cells,cut,qC,cld2,(HEx),(TAx),vA,hb,hcf]
 refine hdo _ fun s2 O2 hH2 hU2=>?_
 obtain⟨h2,u2⟩:=h.heaped (by omega) hH2 hU2
 have hb2:=h2.bl
 unfold stC at hb2
 obtain⟨_,tg2,pf2,pn2,sl2,bs2,hin2⟩:=hH2
 simp -implicitDefEqProofs only[↓Zd,(Zp),Zr,simprocAttr,qP,Value.cells,cut,qC,cld2,(HEx),(TAx),vA,hb2,co156]
 refine hepoch_spec hin2 ho ?_
 unfold watchS touchS at hR
 by_cases he:epochV H' o=epochV D.H o
 ·rw[if_pos he]at hR
  simp -implicitDefEqProofs only[↓Zd,(Zp),Zr,simprocAttr,qP,Value.cells,cut,qC,cld2,(HEx),(TAx),vA,hb2,he,co80]
  refine sneed_spec h2 fun s3 h3 u3=>?_
  simp -implicitDefEqProofs only[↓Zd,(Zp),Zr,simprocAttr,qP,Value.cells,cut,qC,cld2,(HEx),(TAx),vA]
  exact hR _ _ _ (h3.mono (by omega)) (u2.trans u3)
 ·rw[if_neg he]at hR
  have hq2:=h2.q0
  obtain⟨s3,happ,hn3,hat3,hk3⟩:=app_intS (x:=o) (by have:=h2.num.tch;omega) h2.st (fun b hb=>(h2.t0 b hb).2.1)
  have hq3:s3.at' q=some (.cells (stC { D with H:=H' } p gb ov tv) 90 true):=(hk3 q hq2.2.1 fun e=>(h2.t0 q e).2.2.2.1 rfl).trans h2.bl
  unfold stC at hq3
  have hqn:¬ q=s2.next:=by omega
  simp -implicitDefEqProofs only[↓Zd,(Zp),Zr,simprocAttr,qP,Value.cells,cut,qC,cld2,(HEx),(TAx),vA,hb2,hq3,hqn,he,rowInt1,happ,sz88]
  have hfin:=h2.tchs (s':=s3.put q (.cells (stC { D with H:=H',tch:=D.tch ++ [o] } p gb ov (.slice (some ⟨s2.next+1,0,none⟩) (D.tch.length+1) UNK)) 90 true)) (x:=o) (b:=s2.next+1) ⟨by omega,by simp only[St.next_put];omega⟩ (by rw[St.at_put,if_neg (by omega)];exact hat3) (by rw[St.at_put,if_pos rfl]) (fun c hc1 hc2 hc3=>by rw[St.at_put,if_neg hc2];exact hk3 c hc1 hc3)
  simp -implicitDefEqProofs only[↓Zd,(Zp),Zr,simprocAttr,qP,Value.cells,cut,qC,cld2,(HEx),(TAx),vA,co80]
  refine sneed_spec hfin.1 fun s4 h4 u4=>?_
  simp -implicitDefEqProofs only[↓Zd,(Zp),Zr,simprocAttr,qP,Value.cells,cut,qC,cld2,(HEx),(TAx),vA]
  exact hR _ _ _ h4 ((u2.trans hfin.2).trans u4)
theorem sprint_spec{vk vn:Int}{vx:ByteArray}(h:StIn lo s q D N O p gb ov tv)(hN:N+4≤1000000)(hn : -9223372036854775808≤vn∧vn≤9223372036854775807)(hR:∀ s' ov',StIn lo s' q (printS D (vk,vn,vx)) (N+1) O p gb ov' tv→Upd s s' (ownS q gb ov tv O) (ownS q gb ov' tv O)→R (.bool (goesB D)) s') :
  QC prog w0 22 #[.pointer (some ⟨q,0,none⟩),vA vk vn vx] s R:=by
 refine wfun2 hmix ok22 func22 rfl ntmps22 results22 (by simp) ?_
 have l1:s.le (s.new (.cells [.int .i64 vk,.int .i64 vn,.string vx] 31 true)):=lN (lR _)
 have h1:=h.le l1
 have k1:(s.new (.cells [.int .i64 vk,.int .i64 vn,.string vx] 31 true)).at' s.next=some (.cells [.int .i64 vk,.int .i64 vn,.string vx] 31 true):=by rw[St.at_new,if_pos rfl]
 have kn:s.next<(s.new (.cells [.int .i64 vk,.int .i64 vn,.string vx] 31 true)).next:=by simp only[St.next_new];omega
 simp -implicitDefEqProofs only[↓Zd,(Zp),Zr,simprocAttr,qP,Value.cells,cut,qC,cld2,(HEx),(TAx),vA,co26]
 generalize s.new (.cells [.int .i64 vk,.int .i64 vn,.string vx] 31 true)=s1 at l1 h1 k1 kn ⊢
 have hb:=h1.bl
 unfold stC at hb
 refine sover_spec h1 ?_
 unfold printS at hR
 cases hg:goesB D with
 |false =>
  rw[hg]at hR
  simp only[Bool.false_eq_true,if_false]at hR
  simp -implicitDefEqProofs only[↓Zd,(Zp),Zr,simprocAttr,qP,Value.cells,cut,qC,cld2,(HEx),(TAx),vA]
  exact hR _ _ (h1.mono (by omega)) (.of_le l1)
 |true =>
  rw[hg]at hR
  simp only[if_true]at hR
  simp -implicitDefEqProofs only[↓Zd,(Zp),Zr,simprocAttr,qP,Value.cells,cut,qC,cld2,(HEx),(TAx),vA,hb,k1,co61,ord22]
  refine show_spec hn fun s2 l2=>?_
  have h2:=h1.le l2
  have hb2:=h2.bl
  unfold stC at hb2
  have k2:=(l2.2 s.next kn).trans k1
  have hq2:=h2.q0
  obtain⟨s3,happ,hn3,hat3,hk3⟩:=app_strS (x:=showV vk vn vx) (by have:=h2.num.out;omega) h2.so (fun b hb=>(h2.o0 b hb).2.1)
  have hq3:s3.at' q=some (.cells (stC D p gb ov tv) 90 true):=(hk3 q hq2.2.1 fun e=>(h2.o0 q e).2.2.2.1 rfl).trans h2.bl
  unfold stC at hq3
  have hqn:¬ q=s2.next:=by omega
  simp -implicitDefEqProofs only[↓Zd,(Zp),Zr,simprocAttr,qP,Value.cells,cut,qC,cld2,(HEx),(TAx),vA,hb,hb2,k1,k2,hq3,hqn,rowStr,happ,sz39,co61,ord22]
  have hfin:=h2.outs (s':=s3.put q (.cells (stC { D with out:=D.out ++ [showV vk vn vx] } p gb (.slice (some ⟨s2.next+1,0,none⟩) (D.out.length+1) UNK) tv) 90 true)) (x:=showV vk vn vx) (b:=s2.next+1) ⟨by omega,by simp only[St.next_put];omega⟩ (by rw[St.at_put,if_neg (by omega)];exact hat3) (by rw[St.at_put,if_pos rfl]) (fun c hc1 hc2 hc3=>by rw[St.at_put,if_neg hc2];exact hk3 c hc1 hc3)
  exact hR _ _ hfin.1 ((Upd.of_le (lT l1 l2)).trans hfin.2)
end
section
variable {lo q N p gb:Nat}{D:StD}{O:Nat→Prop}{ov tv:Value}
theorem ydead_spec(hR:R (.bool true) s):QC prog w0 136 #[.pointer none] s R:=by
 refine wfun2 hmix ok136 func136 rfl ntmps136 results136 (by simp) ?_
 simp -implicitDefEqProofs only[↓Zd,(Zp),Zr,simprocAttr,qP,Value.cells,cut,qC,cld2,(HEx),(TAx),vA]
 exact hR
theorem yget_spec{H:Hp}{f k o:Int}{x:ByteArray}(hP:HpAt lo s p H N O)(ho : -9223372036854775808≤o∧o≤9223372036854775807)(hR:∀ s' a b y,s.le s'→R (vA a b y) s') :
  QC prog w0 65 #[.pointer none,.pointer (some ⟨p,0,none⟩),.int .i64 f,.int .i64 k,.int .i64 o,.string x] s R:=by
 refine wfun2 hmix ok65 func65 rfl ntmps65 results65 (by simp) ?_
 obtain⟨_,tg,pf,pn,sl0,bs,hin⟩:=hP
 have l1:s.le (s.new (.cells [.int .i64 0,.int .i64 0,.string ⟨#[]⟩] 31 true)):=lN (lR _)
 simp -implicitDefEqProofs only[↓Zd,(Zp),Zr,simprocAttr,qP,Value.cells,cut,qC,cld2,(HEx),(TAx),vA,co136]
 refine ydead_spec ?_
 simp -implicitDefEqProofs only[↓Zd,(Zp),Zr,simprocAttr,qP,Value.cells,cut,qC,cld2,(HEx),(TAx),vA,co109]
 refine hget_spec (hin.le l1) ho fun s2 v l2 hv=>?_
 have n2:=l2.1
 simp only[St.next_new]at n2
 have c2:s2.at' s.next=some (.cells [.int .i64 0,.int .i64 0,.string ⟨#[]⟩] 31 true):=by rw[l2.2 _ (by simp only[St.next_new];omega),St.at_new,if_pos rfl]
 unfold vOf
 unfold vA at hR ⊢
 simp -implicitDefEqProofs only[↓Zd,(Zp),Zr,simprocAttr,qP,Value.cells,cut,qC,cld2,(HEx),(TAx),vA,c2]
 exact hR _ _ _ _ (lP (lT l1 l2) (by omega))
theorem yset_spec{H:Hp}{f k o:Int}{x vy:ByteArray}{vk vn:Int}(hP:HpAt lo s p H N O)(hlo:lo≤s.next)(hN:N+3≤1000000)(h32:32≤N)(ho : -9223372036854775808≤o∧o≤9223372036854775807)
  (hR:∀ s' P',HpAt lo s' p (setH H o x (vk,vn,vy)) (N+3) P'→Upd s s' O P'→R (.int .i64 (setE H o x)) s') :
  QC prog w0 75 #[.pointer none,.pointer (some ⟨p,0,none⟩),.int .i64 f,.int .i64 k,.int .i64 o,.string x,vA vk vn vy] s R:=by
 refine wfun2 hmix ok75 func75 rfl ntmps75 results75 (by simp) ?_
 have l1:s.le (s.new (.cells [.int .i64 vk,.int .i64 vn,.string vy] 31 true)):=lN (lR _)
 simp -implicitDefEqProofs only[↓Zd,(Zp),Zr,simprocAttr,qP,Value.cells,cut,qC,cld2,(HEx),(TAx),vA,co136]
 refine ydead_spec ?_
 simp -implicitDefEqProofs only[↓Zd,(Zp),Zr,simprocAttr,qP,Value.cells,cut,qC,cld2,(HEx),(TAx),vA,co78]
 refine hset_spec (k:=vk) (n:=vn) (y:=vy) (hP.le l1) (by simp only[St.next_new];omega) hN h32 ho fun s2 P2 hP2 hU2=>?_
 simp -implicitDefEqProofs only[↓Zd,(Zp),Zr,simprocAttr,qP,Value.cells,cut,qC,cld2,(HEx),(TAx),vA]
 exact hR s2 P2 hP2 ((Upd.of_le l1).trans hU2)
theorem sset1_spec{b0 b1 b2 b3 b4 b5:Nat}{f st k n vk vn:Int}{y x vx:ByteArray}(h:StIn lo s q D N O p gb ov tv)(hlo:lo≤s.next)(hN:N+3≤1000000)(hn : -9223372036854775808≤n∧n≤9223372036854775807)
  (c0:s.at' b0=some (.cells [.pointer (some ⟨q,0,none⟩)] 25 true))(c1:s.at' b1=some (.cells [.int .i64 f] 3 true))(c2:s.at' b2=some (.cells [.int .i64 st] 3 true))(c3:s.at' b3=some (.cells [.int .i64 k,.int .i64 n,.string y] 31 true))(c4:s.at' b4=some (.cells [.string x] 9 true))(c5:s.at' b5=some (.cells [.int .i64 vk,.int .i64 vn,.string vx] 31 true))
  (hR:∀ s' O',HpAt lo s' p (setH D.H n x (vk,vn,vx)) (N+3) O'→Upd s s' O O'→R (.int .i64 (setE D.H n x)) s') :
  QC prog w0 74 #[.pointer (some ⟨b0,0,none⟩),.pointer (some ⟨b1,0,none⟩),.pointer (some ⟨b2,0,none⟩),.pointer (some ⟨b3,0,none⟩),.pointer (some ⟨b4,0,none⟩),.pointer (some ⟨b5,0,none⟩)] s R:=by
 refine wfun2 hmix ok74 func74 rfl ntmps74 results74 (by simp) ?_
 have hb:=h.bl
 unfold stC at hb
 simp -implicitDefEqProofs only[↓Zd,(Zp),Zr,simprocAttr,qP,Value.cells,cut,qC,cld2,(HEx),(TAx),vA,hb,c0,c1,c2,c3,c4,c5,co75,ord74]
 refine yset_spec h.heap hlo hN h.num.n hn fun s2 O2 h2 u2=>?_
 simp -implicitDefEqProofs only[↓Zd,(Zp),Zr,simprocAttr,qP,Value.cells,cut,qC,cld2,(HEx),(TAx),vA,ord74]
 exact hR _ _ h2 u2
theorem ssetix1_spec{b0 b1 b2 b3:Nat}{k n kk kn vk vn:Int}{y x vx:ByteArray}(h:StIn lo s q D N O p gb ov tv)(hlo:lo≤s.next)(hN:N+3≤1000000)(hn : -9223372036854775808≤n∧n≤9223372036854775807)
  (c0:s.at' b0=some (.cells [.pointer (some ⟨q,0,none⟩)] 25 true))(c1:s.at' b1=some (.cells [.int .i64 k,.int .i64 n,.string y] 31 true))(c2:s.at' b2=some (.cells [.int .i64 kk,.int .i64 kn,.string x] 31 true))(c3:s.at' b3=some (.cells [.int .i64 vk,.int .i64 vn,.string vx] 31 true))
  (hR:∀ s' O',HpAt lo s' p (setH D.H n x (vk,vn,vx)) (N+3) O'→Upd s s' O O'→R (.int .i64 (setE D.H n x)) s') :
  QC prog w0 77 #[.pointer (some ⟨b0,0,none⟩),.pointer (some ⟨b1,0,none⟩),.pointer (some ⟨b2,0,none⟩),.pointer (some ⟨b3,0,none⟩)] s R:=by
 refine wfun2 hmix ok77 func77 rfl ntmps77 results77 (by simp) ?_
 have hb:=h.bl
 unfold stC at hb
 simp -implicitDefEqProofs only[↓Zd,(Zp),Zr,simprocAttr,qP,Value.cells,cut,qC,cld2,(HEx),(TAx),vA,hb,c0,c1,c2,c3,co78,ord77]
 refine hset_spec h.heap hlo hN h.num.n hn fun s2 O2 h2 u2=>?_
 simp -implicitDefEqProofs only[↓Zd,(Zp),Zr,simprocAttr,qP,Value.cells,cut,qC,cld2,(HEx),(TAx),vA,ord77]
 exact hR _ _ h2 u2
theorem srem1_spec{b0 b1 b2:Nat}{n:Int}{x:ByteArray}(h:StIn lo s q D N O p gb ov tv)(hlo:lo≤s.next)(hN:N+3≤1000000)(hn : -9223372036854775808≤n∧n≤9223372036854775807)
  (c0:s.at' b0=some (.cells [.pointer (some ⟨q,0,none⟩)] 25 true))(c1:s.at' b1=some (.cells [.int .i64 n] 3 true))(c2:s.at' b2=some (.cells [.string x] 9 true))
  (hR:∀ s' O',HpAt lo s' p (delH D.H n x) (N+3) O'→Upd s s' O O'→R (.int .i64 0) s') :
  QC prog w0 167 #[.pointer (some ⟨b0,0,none⟩),.pointer (some ⟨b1,0,none⟩),.pointer (some ⟨b2,0,none⟩)] s R:=by
 refine wfun2 hmix ok167 func167 rfl ntmps167 results167 (by simp) ?_
 have hb:=h.bl
 unfold stC at hb
 simp -implicitDefEqProofs only[↓Zd,(Zp),Zr,simprocAttr,qP,Value.cells,cut,qC,cld2,(HEx),(TAx),vA,hb,c0,c1,c2,co168,ord167]
 refine hdel_spec h.heap hlo hN h.num.n hn fun s2 O2 h2 u2=>?_
 simp -implicitDefEqProofs only[↓Zd,(Zp),Zr,simprocAttr,qP,Value.cells,cut,qC,cld2,(HEx),(TAx),vA,ord167]
 exact hR _ _ h2 u2
theorem srem_spec{n:Int}{x:ByteArray}(h:StIn lo s q D N O p gb ov tv)(hlo:lo≤s.next)(hN:N+4≤1000000)(hn : -9223372036854775808≤n∧n≤9223372036854775807)
  (hR:∀ s' O' tv',StIn lo s' q (watchS D n (delH D.H n x) 0) (N+4) O' p gb ov tv'→Upd s s' (ownS q gb ov tv O) (ownS q gb ov tv' O')→R (.bool (goesB (watchS D n (delH D.H n x) 0))) s') :
  QC prog w0 79 #[.pointer (some ⟨q,0,none⟩),.int .i64 n,.string x] s R:=by
 refine wfun2 hmix ok79 func79 rfl ntmps79 results79 (by simp) ?_
 have l1:s.le (((s.new (.cells [.pointer (some ⟨q,0,none⟩)] 25 true)).new (.cells [.int .i64 n] 3 true)).new (.cells [.string x] 9 true)):=(by repeat (first|exact lR _|assumption|refine lN ?_|refine lP ?_ (by first|omega|(simp only[(Sn)];omega))|refine lT ?_ (by assumption)))
 have c0:(((s.new (.cells [.pointer (some ⟨q,0,none⟩)] 25 true)).new (.cells [.int .i64 n] 3 true)).new (.cells [.string x] 9 true)).at' s.next=some (.cells [.pointer (some ⟨q,0,none⟩)] 25 true):=by rw[St.at_new,if_neg (by simp only[St.next_new];omega),St.at_new,if_neg (by simp only[St.next_new];omega),St.at_new,if_pos rfl]
 have c1:(((s.new (.cells [.pointer (some ⟨q,0,none⟩)] 25 true)).new (.cells [.int .i64 n] 3 true)).new (.cells [.string x] 9 true)).at' (s.next+1)=some (.cells [.int .i64 n] 3 true):=by rw[St.at_new,if_neg (by simp only[St.next_new];omega),St.at_new,if_pos (by simp only[St.next_new])]
 have c2:(((s.new (.cells [.pointer (some ⟨q,0,none⟩)] 25 true)).new (.cells [.int .i64 n] 3 true)).new (.cells [.string x] 9 true)).at' (s.next+2)=some (.cells [.string x] 9 true):=by rw[St.at_new,if_pos (by simp only[St.next_new])]
 have h1:=h.le l1
 have n1:=l1.1
 simp -implicitDefEqProofs only[↓Zd,(Zp),Zr,simprocAttr,qP,Value.cells,cut,qC,cld2,(HEx),(TAx),vA,co73]
 generalize (((s.new (.cells [.pointer (some ⟨q,0,none⟩)] 25 true)).new (.cells [.int .i64 n] 3 true)).new (.cells [.string x] 9 true))=s1 at l1 c0 c1 c2 h1 n1 ⊢
 refine swatch_spec (H':=delH D.H n x) (e:=0) co167 h1 hN hn (fun K hK=>srem1_spec h1 (by omega) (by omega) hn c0 c1 c2 hK) fun s2 O2 tv2 h2 u2=>?_
 simp -implicitDefEqProofs only[↓Zd,(Zp),Zr,simprocAttr,qP,Value.cells,cut,qC,cld2,(HEx),(TAx),vA]
 exact hR _ _ _ h2 ((Upd.of_le l1).trans u2)
theorem sdel_spec{k n:Int}{y x:ByteArray}(h:StIn lo s q D N O p gb ov tv)(hlo:lo≤s.next)(hN:N+4≤1000000)(hn : -9223372036854775808≤n∧n≤9223372036854775807)
  (hR:∀ s' O' tv',StIn lo s' q (chS D (decide (k=4)) n (delH D.H n x) 0) (N+4) O' p gb ov tv'→Upd s s' (ownS q gb ov tv O) (ownS q gb ov tv' O')→R (.bool (goesB (chS D (decide (k=4)) n (delH D.H n x) 0))) s') :
  QC prog w0 21 #[.pointer (some ⟨q,0,none⟩),vA k n y,.string x] s R:=by
 refine wfun2 hmix ok21 func21 rfl ntmps21 results21 (by simp) ?_
 have l1:s.le (s.new (.cells [.int .i64 k,.int .i64 n,.string y] 31 true)):=lN (lR _)
 have h1:=h.le l1
 have c0:(s.new (.cells [.int .i64 k,.int .i64 n,.string y] 31 true)).at' s.next=some (.cells [.int .i64 k,.int .i64 n,.string y] 31 true):=by rw[St.at_new,if_pos rfl]
 have kn:s.next<(s.new (.cells [.int .i64 k,.int .i64 n,.string y] 31 true)).next:=by simp only[St.next_new];omega
 simp -implicitDefEqProofs only[↓Zd,(Zp),Zr,simprocAttr,qP,Value.cells,cut,qC,cld2,(HEx),(TAx),vA,co26]
 generalize s.new (.cells [.int .i64 k,.int .i64 n,.string y] 31 true)=s1 at l1 h1 c0 kn ⊢
 refine sover_spec h1 ?_
 unfold chS at hR
 cases hg:goesB D with
 |false =>
  simp only[hg,Bool.false_and,Bool.false_eq_true,if_false,goes_is hg]at hR
  simp -implicitDefEqProofs only[↓Zd,(Zp),Zr,simprocAttr,qP,Value.cells,cut,qC,cld2,(HEx),(TAx),vA]
  exact hR _ _ _ (h1.mono (by omega)) (.of_le l1)
 |true =>
  by_cases hk:k=4
  ·simp only[hg,hk,decide_true,Bool.and_self,if_true]at hR
   simp -implicitDefEqProofs only[↓Zd,(Zp),Zr,simprocAttr,qP,Value.cells,cut,qC,cld2,(HEx),(TAx),vA,c0,hk,co64]
   refine sis_spec h1 fun s2 h2 u2=>?_
   obtain⟨f2,c2⟩:=u2.loc kn (h.fresh (Nat.le_refl _))
   have e1:isS D true=D:=rfl
   rw[e1]at h2
   rw[e1,hg]
   simp -implicitDefEqProofs only[↓Zd,(Zp),Zr,simprocAttr,qP,Value.cells,cut,qC,cld2,(HEx),(TAx),vA,c0,c2,hk,co64,co79]
   refine srem_spec h2 (by have:=u2.next;have:=l1.1;omega) hN hn fun s3 O3 tv3 h3 u3=>?_
   simp -implicitDefEqProofs only[↓Zd,(Zp),Zr,simprocAttr,qP,Value.cells,cut,qC,cld2,(HEx),(TAx),vA]
   exact hR _ _ _ h3 (((Upd.of_le l1).trans u2).trans u3)
  ·simp only[hg,hk,decide_false,Bool.and_false,Bool.false_eq_true,if_false]at hR
   simp -implicitDefEqProofs only[↓Zd,(Zp),Zr,simprocAttr,qP,Value.cells,cut,qC,cld2,(HEx),(TAx),vA,c0,hk,co64]
   refine sis_spec h1 fun s2 h2 u2=>?_
   rw[goes_is30]at hR ⊢
   simp -implicitDefEqProofs only[↓Zd,(Zp),Zr,simprocAttr,qP,Value.cells,cut,qC,cld2,(HEx),(TAx),vA]
   exact hR _ _ _ (h2.mono (by omega)) ((Upd.of_le l1).trans u2)
end
section
variable {lo q N p gb:Nat}{D:StD}{O:Nat→Prop}{ov tv:Value}
theorem stget_spec{f st k n:Int}{y x:ByteArray}(h:StIn lo s q D N O p gb ov tv)(hn : -9223372036854775808≤n∧n≤9223372036854775807)
  (hR:∀ s' a b z,StIn lo s' q (isS D (decide (k=4))) N O p gb ov tv→Upd s s' (ownS q gb ov tv O) (ownS q gb ov tv O)→R (.tuple #[vA a b z,.bool (goesB (isS D (decide (k=4))))]) s') :
  QC prog w0 14 #[.pointer (some ⟨q,0,none⟩),.int .i64 f,.int .i64 st,vA k n y,.string x] s R:=by
 refine wfun2 hmix ok14 func14 rfl ntmps14 results14 (by simp) ?_
 have l1:s.le ((s.new (.cells [.int .i64 k,.int .i64 n,.string y] 31 true)).new (.cells [.int .i64 0,.int .i64 0,.string ⟨#[]⟩] 31 true)):=(by repeat (first|exact lR _|assumption|refine lN ?_|refine lP ?_ (by first|omega|(simp only[(Sn)];omega))|refine lT ?_ (by assumption)))
 have h1:=h.le l1
 have c0:((s.new (.cells [.int .i64 k,.int .i64 n,.string y] 31 true)).new (.cells [.int .i64 0,.int .i64 0,.string ⟨#[]⟩] 31 true)).at' s.next=some (.cells [.int .i64 k,.int .i64 n,.string y] 31 true):=by rw[St.at_new,if_neg (by simp only[St.next_new];omega),St.at_new,if_pos rfl]
 have c1:((s.new (.cells [.int .i64 k,.int .i64 n,.string y] 31 true)).new (.cells [.int .i64 0,.int .i64 0,.string ⟨#[]⟩] 31 true)).at' (s.next+1)=some (.cells [.int .i64 0,.int .i64 0,.string ⟨#[]⟩] 31 true):=by rw[St.at_new,if_pos (by simp only[St.next_new])]
 have kn:s.next+1<((s.new (.cells [.int .i64 k,.int .i64 n,.string y] 31 true)).new (.cells [.int .i64 0,.int .i64 0,.string ⟨#[]⟩] 31 true)).next:=by simp only[St.next_new];omega
 simp -implicitDefEqProofs only[↓Zd,(Zp),Zr,simprocAttr,qP,Value.cells,cut,qC,cld2,(HEx),(TAx),vA,co26]
 generalize ((s.new (.cells [.int .i64 k,.int .i64 n,.string y] 31 true)).new (.cells [.int .i64 0,.int .i64 0,.string ⟨#[]⟩] 31 true))=s1 at l1 h1 c0 c1 kn ⊢
 refine sover_spec h1 ?_
 cases hg:goesB D with
 |false =>
  simp only[goes_is hg,hg]at hR
  have fin:∀ {B:Blk},R (.tuple #[vA 0 0 ⟨#[]⟩,.bool false]) (s1.put (s.next+1) B):=fun {B}=>by
   obtain⟨g1,g2⟩:=h1.loc (c:=s.next+1) (B:=B) (.of_le l1) (by omega) (h.fresh (by omega))
   exact hR _ _ _ _ g1 g2
  unfold vA at fin
  simp -implicitDefEqProofs only[↓Zd,(Zp),Zr,simprocAttr,qP,Value.cells,cut,qC,cld2,(HEx),(TAx),vA,c1,bVal0]
  exact fin
 |true =>
  by_cases hk:k=4
  ·have e1:isS D (decide (k=4))=D:=by rw[hk];rfl
   rw[e1,hg]at hR
   simp -implicitDefEqProofs only[↓Zd,(Zp),Zr,simprocAttr,qP,Value.cells,cut,qC,cld2,(HEx),(TAx),vA,c0,hk,co64]
   refine sis_spec h1 fun s2 h2 u2=>?_
   obtain⟨f2,k2⟩:=u2.loc (c:=s.next) (by omega) (h.fresh (Nat.le_refl _))
   obtain⟨f3,k3⟩:=u2.loc (c:=s.next+1) kn (h.fresh (by omega))
   have c02:=k2.trans c0
   have c12:=k3.trans c1
   have e2:isS D true=D:=rfl
   rw[e2]at h2
   rw[e2,hg]
   have hb:=h2.bl
   unfold stC at hb
   simp -implicitDefEqProofs only[↓Zd,(Zp),Zr,simprocAttr,qP,Value.cells,cut,qC,cld2,(HEx),(TAx),vA,c02,c12,hk,hb,co65,ord14]
   refine yget_spec h2.heap hn fun s3 a b z l3=>?_
   have n2:=u2.next
   have c13:=(l3.2 (s.next+1) (by omega)).trans c12
   have fin:∀ {B:Blk},R (.tuple #[vA a b z,.bool true]) (s3.put (s.next+1) B):=fun {B}=>by
    obtain⟨g1,g2⟩:=(h2.le l3).loc (c:=s.next+1) (B:=B) (((Upd.of_le l1).trans u2).trans (.of_le l3)) (by omega) f3
    exact hR _ a b z g1 g2
   unfold vA at fin ⊢
   simp -implicitDefEqProofs only[↓Zd,(Zp),Zr,simprocAttr,qP,Value.cells,cut,qC,cld2,(HEx),(TAx),vA,c13,ord14]
   exact fin
  ·have e1:isS D (decide (k=4))=isS D false:=by rw[decide_eq_false hk]
   rw[e1,goes_is30]at hR
   simp -implicitDefEqProofs only[↓Zd,(Zp),Zr,simprocAttr,qP,Value.cells,cut,qC,cld2,(HEx),(TAx),vA,c0,hk,co64]
   refine sis_spec h1 fun s2 h2 u2=>?_
   obtain⟨f3,k3⟩:=u2.loc (c:=s.next+1) kn (h.fresh (by omega))
   have c12:=k3.trans c1
   have fin:∀ {B:Blk},R (.tuple #[vA 0 0 ⟨#[]⟩,.bool false]) (s2.put (s.next+1) B):=fun {B}=>by
    obtain⟨g1,g2⟩:=h2.loc (c:=s.next+1) (B:=B) ((Upd.of_le l1).trans u2) (by omega) f3
    exact hR _ _ _ _ g1 g2
   unfold vA at fin
   rw[goes_is30]
   simp -implicitDefEqProofs only[↓Zd,(Zp),Zr,simprocAttr,qP,Value.cells,cut,qC,cld2,(HEx),(TAx),vA,c12,bVal0]
   exact fin
theorem stset_spec{f st k n vk vn:Int}{y x vx:ByteArray}(h:StIn lo s q D N O p gb ov tv)(hlo:lo≤s.next)(hN:N+4≤1000000)(hn : -9223372036854775808≤n∧n≤9223372036854775807)
  (hR:∀ s' O' tv',StIn lo s' q (chS D (decide (k=4)) n (setH D.H n x (vk,vn,vx)) (setE D.H n x)) (N+4) O' p gb ov tv'→Upd s s' (ownS q gb ov tv O) (ownS q gb ov tv' O')→R (.bool (goesB (chS D (decide (k=4)) n (setH D.H n x (vk,vn,vx)) (setE D.H n x)))) s') :
  QC prog w0 19 #[.pointer (some ⟨q,0,none⟩),.int .i64 f,.int .i64 st,vA k n y,.string x,vA vk vn vx] s R:=by
 refine wfun2 hmix ok19 func19 rfl ntmps19 results19 (by simp) ?_
 have l1:s.le ((((((s.new (.cells [.pointer (some ⟨q,0,none⟩)] 25 true)).new (.cells [.int .i64 f] 3 true)).new (.cells [.int .i64 st] 3 true)).new (.cells [.int .i64 k,.int .i64 n,.string y] 31 true)).new (.cells [.string x] 9 true)).new (.cells [.int .i64 vk,.int .i64 vn,.string vx] 31 true)):=(by repeat (first|exact lR _|assumption|refine lN ?_|refine lP ?_ (by first|omega|(simp only[(Sn)];omega))|refine lT ?_ (by assumption)))
 have hc:∃ s1,s1=((((((s.new (.cells [.pointer (some ⟨q,0,none⟩)] 25 true)).new (.cells [.int .i64 f] 3 true)).new (.cells [.int .i64 st] 3 true)).new (.cells [.int .i64 k,.int .i64 n,.string y] 31 true)).new (.cells [.string x] 9 true)).new (.cells [.int .i64 vk,.int .i64 vn,.string vx] 31 true)):=⟨_,rfl⟩
 obtain⟨s1,hs1⟩:=hc
 have c0:s1.at' s.next=some (.cells [.pointer (some ⟨q,0,none⟩)] 25 true):=by rw[hs1];simp only[St.at_new,St.next_new];(repeat rw[if_neg (by omega)]);rw[if_pos trivial]
 have c1:s1.at' (s.next+1)=some (.cells [.int .i64 f] 3 true):=by rw[hs1];simp only[St.at_new,St.next_new];(repeat rw[if_neg (by omega)]);rw[if_pos trivial]
 have c2:s1.at' (s.next+1+1)=some (.cells [.int .i64 st] 3 true):=by rw[hs1];simp only[St.at_new,St.next_new];(repeat rw[if_neg (by omega)]);rw[if_pos trivial]
 have c3:s1.at' (s.next+1+1+1)=some (.cells [.int .i64 k,.int .i64 n,.string y] 31 true):=by rw[hs1];simp only[St.at_new,St.next_new];(repeat rw[if_neg (by omega)]);rw[if_pos trivial]
 have c4:s1.at' (s.next+1+1+1+1)=some (.cells [.string x] 9 true):=by rw[hs1];simp only[St.at_new,St.next_new];(repeat rw[if_neg (by omega)]);rw[if_pos trivial]
 have c5:s1.at' (s.next+1+1+1+1+1)=some (.cells [.int .i64 vk,.int .i64 vn,.string vx] 31 true):=by rw[hs1];simp only[St.at_new,St.next_new];rw[if_pos trivial]
 have kn:s.next+1+1+1+1+1<s1.next:=by rw[hs1];simp only[St.next_new];omega
 rw[← hs1]at l1
 have h1:=h.le l1
 simp -implicitDefEqProofs only[↓Zd,(Zp),Zr,simprocAttr,qP,Value.cells,cut,qC,cld2,(HEx),(TAx),vA,co26]
 simp only[Nat.add_assoc,Nat.reduceAdd]at c0 c1 c2 c3 c4 c5 kn
 rw[← hs1]
 clear hs1
 refine sover_spec h1 ?_
 unfold chS at hR
 cases hg:goesB D with
 |false =>
  simp only[hg,Bool.false_and,Bool.false_eq_true,if_false,goes_is hg]at hR
  simp -implicitDefEqProofs only[↓Zd,(Zp),Zr,simprocAttr,qP,Value.cells,cut,qC,cld2,(HEx),(TAx),vA]
  exact hR _ _ _ (h1.mono (by omega)) (.of_le l1)
 |true =>
  by_cases hk:k=4
  ·simp only[hg,hk,decide_true,Bool.and_self,if_true]at hR
   simp -implicitDefEqProofs only[↓Zd,(Zp),Zr,simprocAttr,qP,Value.cells,cut,qC,cld2,(HEx),(TAx),vA,c0,c3,hk,co64]
   refine sis_spec h1 fun s2 h2 u2=>?_
   obtain⟨f0,k0⟩:=u2.loc (c:=s.next) (by omega) (h.fresh (Nat.le_refl _))
   have k1:=(u2.loc (c:=s.next+1) (by omega) (h.fresh (by omega))).2
   have k2:=(u2.loc (c:=s.next+2) (by omega) (h.fresh (by omega))).2
   have k3:=(u2.loc (c:=s.next+3) (by omega) (h.fresh (by omega))).2
   have k4:=(u2.loc (c:=s.next+4) (by omega) (h.fresh (by omega))).2
   have k5:=(u2.loc (c:=s.next+5) (by omega) (h.fresh (by omega))).2
   have d0:=k0.trans c0
   have d3:=k3.trans c3
   have e1:isS D true=D:=rfl
   rw[e1]at h2
   rw[e1,hg]
   have hn2:=u2.next
   have hn1:=l1.1
   simp -implicitDefEqProofs only[↓Zd,(Zp),Zr,simprocAttr,qP,Value.cells,cut,qC,cld2,(HEx),(TAx),vA,d0,d3,hk,co73]
   refine swatch_spec (H':=setH D.H n x (vk,vn,vx)) (e:=setE D.H n x) co74 h2 hN hn (fun K hK=>sset1_spec h2 (by omega) (by omega) hn d0 (k1.trans c1) (k2.trans c2) d3 (k4.trans c4) (k5.trans c5) hK) fun s3 O3 tv3 h3 u3=>?_
   simp -implicitDefEqProofs only[↓Zd,(Zp),Zr,simprocAttr,qP,Value.cells,cut,qC,cld2,(HEx),(TAx),vA]
   exact hR _ _ _ h3 (((Upd.of_le l1).trans u2).trans u3)
  ·simp only[hg,hk,decide_false,Bool.and_false,Bool.false_eq_true,if_false]at hR
   simp -implicitDefEqProofs only[↓Zd,(Zp),Zr,simprocAttr,qP,Value.cells,cut,qC,cld2,(HEx),(TAx),vA,c0,c3,hk,co64]
   refine sis_spec h1 fun s2 h2 u2=>?_
   rw[goes_is30]at hR ⊢
   simp -implicitDefEqProofs only[↓Zd,(Zp),Zr,simprocAttr,qP,Value.cells,cut,qC,cld2,(HEx),(TAx),vA]
   exact hR _ _ _ (h2.mono (by omega)) ((Upd.of_le l1).trans u2)
theorem skeyed_spec{k n kk kn:Int}{y x:ByteArray}(h:StIn lo s q D N O p gb ov tv)
  (hR:∀ s',StIn lo s' q (isS D (decide (k=4) && decide (kk=3))) N O p gb ov tv→Upd s s' (ownS q gb ov tv O) (ownS q gb ov tv O)→R (.bool (goesB (isS D (decide (k=4) && decide (kk=3))))) s') :
  QC prog w0 76 #[.pointer (some ⟨q,0,none⟩),vA k n y,vA kk kn x] s R:=by
 refine wfun2 hmix ok76 func76 rfl ntmps76 results76 (by simp) ?_
 have l1:s.le ((s.new (.cells [.int .i64 k,.int .i64 n,.string y] 31 true)).new (.cells [.int .i64 kk,.int .i64 kn,.string x] 31 true)):=(by repeat (first|exact lR _|assumption|refine lN ?_|refine lP ?_ (by first|omega|(simp only[(Sn)];omega))|refine lT ?_ (by assumption)))
 have h1:=h.le l1
 have c0:((s.new (.cells [.int .i64 k,.int .i64 n,.string y] 31 true)).new (.cells [.int .i64 kk,.int .i64 kn,.string x] 31 true)).at' s.next=some (.cells [.int .i64 k,.int .i64 n,.string y] 31 true):=by rw[St.at_new,if_neg (by simp only[St.next_new];omega),St.at_new,if_pos rfl]
 have c1:((s.new (.cells [.int .i64 k,.int .i64 n,.string y] 31 true)).new (.cells [.int .i64 kk,.int .i64 kn,.string x] 31 true)).at' (s.next+1)=some (.cells [.int .i64 kk,.int .i64 kn,.string x] 31 true):=by rw[St.at_new,if_pos (by simp only[St.next_new])]
 have hkn:s.next+1<((s.new (.cells [.int .i64 k,.int .i64 n,.string y] 31 true)).new (.cells [.int .i64 kk,.int .i64 kn,.string x] 31 true)).next:=by simp only[St.next_new];omega
 simp -implicitDefEqProofs only[↓Zd,(Zp),Zr,simprocAttr,qP,Value.cells,cut,qC,cld2,(HEx),(TAx),vA,co26]
 generalize ((s.new (.cells [.int .i64 k,.int .i64 n,.string y] 31 true)).new (.cells [.int .i64 kk,.int .i64 kn,.string x] 31 true))=s1 at l1 h1 c0 c1 hkn ⊢
 refine sover_spec h1 ?_
 cases hg:goesB D with
 |false =>
  simp only[goes_is hg,hg]at hR
  simp -implicitDefEqProofs only[↓Zd,(Zp),Zr,simprocAttr,qP,Value.cells,cut,qC,cld2,(HEx),(TAx),vA]
  exact hR _ h1 (.of_le l1)
 |true =>
  by_cases hk:k=4
  ·simp only[hk,decide_true,Bool.true_and]at hR
   simp -implicitDefEqProofs only[↓Zd,(Zp),Zr,simprocAttr,qP,Value.cells,cut,qC,cld2,(HEx),(TAx),vA,c0,c1,hk,co151]
   refine isKey_spec ?_
   have l2:s1.le (s1.new (vB kk kn x)):=lN (lR _)
   have h2:=h1.le l2
   have c02:=(l2.2 s.next (by omega)).trans c0
   simp -implicitDefEqProofs only[↓Zd,(Zp),Zr,simprocAttr,qP,Value.cells,cut,qC,cld2,(HEx),(TAx),vA,c02,hk,co64]
   refine sis_spec h2 fun s3 h3 u3=>?_
   simp -implicitDefEqProofs only[↓Zd,(Zp),Zr,simprocAttr,qP,Value.cells,cut,qC,cld2,(HEx),(TAx),vA]
   exact hR _ h3 (((Upd.of_le l1).trans (.of_le l2)).trans u3)
  ·simp only[hk,decide_false,Bool.false_and]at hR
   simp -implicitDefEqProofs only[↓Zd,(Zp),Zr,simprocAttr,qP,Value.cells,cut,qC,cld2,(HEx),(TAx),vA,c0,hk,co64]
   refine sis_spec h1 fun s3 h3 u3=>?_
   simp -implicitDefEqProofs only[↓Zd,(Zp),Zr,simprocAttr,qP,Value.cells,cut,qC,cld2,(HEx),(TAx),vA]
   exact hR _ h3 ((Upd.of_le l1).trans u3)
end
section
variable {lo q N p gb:Nat}{D:StD}{O:Nat→Prop}{ov tv:Value}
theorem goes_isb(D:StD)(so:Bool):goesB (isS D so)=(goesB D && so):=by
 cases so with
 |true=>show goesB D=_;rw[Bool.and_true]
 |false=>rw[Bool.and_false];exact goes_is30
theorem is_goes{D:StD}{so:Bool}(h:goesB (isS D so)=true):isS D so=D∧goesB D=true∧so=true:=by
 rw[goes_isb]at h
 simp only[Bool.and_eq_true]at h
 obtain⟨h1,rfl⟩:=h
 exact⟨rfl,h1,rfl⟩
theorem chS_no{D:StD}{so:Bool}{o e:Int}{H':Hp}(h:goesB (isS D so)=false):chS D so o H' e=isS D so:=by
 rw[goes_isb]at h
 unfold chS
 rw[h,if_neg Bool.false_ne_true]
theorem chS_yes{D:StD}{so:Bool}{o e:Int}{H':Hp}(h:goesB (isS D so)=true):chS D so o H' e=watchS D o H' e:=by
 rw[goes_isb]at h
 unfold chS
 rw[h,if_pos rfl]
theorem sgetix_spec{k n kk kn:Int}{y x:ByteArray}(h:StIn lo s q D N O p gb ov tv)(hn : -9223372036854775808≤n∧n≤9223372036854775807)
  (hR:∀ s' a b z,StIn lo s' q (isS D (decide (k=4) && decide (kk=3))) N O p gb ov tv→Upd s s' (ownS q gb ov tv O) (ownS q gb ov tv O)→R (.tuple #[vA a b z,.bool (goesB (isS D (decide (k=4) && decide (kk=3))))]) s') :
  QC prog w0 45 #[.pointer (some ⟨q,0,none⟩),vA k n y,vA kk kn x] s R:=by
 refine wfun2 hmix ok45 func45 rfl ntmps45 results45 (by simp) ?_
 have l1:s.le (((s.new (.cells [.int .i64 k,.int .i64 n,.string y] 31 true)).new (.cells [.int .i64 kk,.int .i64 kn,.string x] 31 true)).new (.cells [.int .i64 0,.int .i64 0,.string ⟨#[]⟩] 31 true)):=(by repeat (first|exact lR _|assumption|refine lN ?_|refine lP ?_ (by first|omega|(simp only[(Sn)];omega))|refine lT ?_ (by assumption)))
 have c0:(((s.new (.cells [.int .i64 k,.int .i64 n,.string y] 31 true)).new (.cells [.int .i64 kk,.int .i64 kn,.string x] 31 true)).new (.cells [.int .i64 0,.int .i64 0,.string ⟨#[]⟩] 31 true)).at' s.next=some (.cells [.int .i64 k,.int .i64 n,.string y] 31 true):=by simp only[St.at_new,St.next_new];(repeat rw[if_neg (by omega)]);rw[if_pos trivial]
 have c1:(((s.new (.cells [.int .i64 k,.int .i64 n,.string y] 31 true)).new (.cells [.int .i64 kk,.int .i64 kn,.string x] 31 true)).new (.cells [.int .i64 0,.int .i64 0,.string ⟨#[]⟩] 31 true)).at' (s.next+1)=some (.cells [.int .i64 kk,.int .i64 kn,.string x] 31 true):=by simp only[St.at_new,St.next_new];(repeat rw[if_neg (by omega)]);rw[if_pos trivial]
 have c2:(((s.new (.cells [.int .i64 k,.int .i64 n,.string y] 31 true)).new (.cells [.int .i64 kk,.int .i64 kn,.string x] 31 true)).new (.cells [.int .i64 0,.int .i64 0,.string ⟨#[]⟩] 31 true)).at' (s.next+2)=some (.cells [.int .i64 0,.int .i64 0,.string ⟨#[]⟩] 31 true):=by rw[St.at_new,if_pos (by simp only[St.next_new])]
 have hkn:s.next+2<(((s.new (.cells [.int .i64 k,.int .i64 n,.string y] 31 true)).new (.cells [.int .i64 kk,.int .i64 kn,.string x] 31 true)).new (.cells [.int .i64 0,.int .i64 0,.string ⟨#[]⟩] 31 true)).next:=by simp only[St.next_new];omega
 simp -implicitDefEqProofs only[↓Zd,(Zp),Zr,simprocAttr,qP,Value.cells,cut,qC,cld2,(HEx),(TAx),vA,co76]
 generalize (((s.new (.cells [.int .i64 k,.int .i64 n,.string y] 31 true)).new (.cells [.int .i64 kk,.int .i64 kn,.string x] 31 true)).new (.cells [.int .i64 0,.int .i64 0,.string ⟨#[]⟩] 31 true))=s1 at l1 c0 c1 c2 hkn ⊢
 have h1:=h.le l1
 refine skeyed_spec h1 fun s2 h2 u2=>?_
 generalize (decide (k=4) && decide (kk=3))=so at h2 hR ⊢
 have k0:=((u2.loc (c:=s.next) (by omega) (h.fresh (Nat.le_refl _))).2).trans c0
 have k1:=((u2.loc (c:=s.next+1) (by omega) (h.fresh (by omega))).2).trans c1
 obtain⟨f2,k2⟩:=u2.loc (c:=s.next+2) hkn (h.fresh (by omega))
 have k2:=k2.trans c2
 cases hg:goesB (isS D so) with
 |false =>
  rw[hg]at hR
  have fin:∀ {B:Blk},R (.tuple #[vA 0 0 ⟨#[]⟩,.bool false]) (s2.put (s.next+2) B):=fun {B}=>by
   obtain⟨g1,g2⟩:=h2.loc (c:=s.next+2) (B:=B) ((Upd.of_le l1).trans u2) (by omega) f2
   exact hR _ _ _ _ g1 g2
  unfold vA at fin
  simp -implicitDefEqProofs only[↓Zd,(Zp),Zr,simprocAttr,qP,Value.cells,cut,qC,cld2,(HEx),(TAx),vA,k2,bVal0]
  exact fin
 |true =>
  obtain⟨e1,_,_⟩:=is_goes hg
  rw[hg,e1]at hR
  rw[e1]at h2
  have hb:=h2.bl
  unfold stC at hb
  obtain⟨_,tg,pf,pn,sl0,bs,hin⟩:=h2.heap
  simp -implicitDefEqProofs only[↓Zd,(Zp),Zr,simprocAttr,qP,Value.cells,cut,qC,cld2,(HEx),(TAx),vA,k0,k1,k2,hb,co109,ord45]
  refine hget_spec hin hn fun s3 v l3 hv=>?_
  have n2:=u2.next
  have k23:=(l3.2 (s.next+2) (by omega)).trans k2
  have fin:∀ {B:Blk},R (.tuple #[vOf v,.bool true]) (s3.put (s.next+2) B):=fun {B}=>by
   obtain⟨g1,g2⟩:=(h2.le l3).loc (c:=s.next+2) (B:=B) (((Upd.of_le l1).trans u2).trans (.of_le l3)) (by omega) f2
   exact hR _ _ _ _ g1 g2
  unfold vOf vA at fin ⊢
  simp -implicitDefEqProofs only[↓Zd,(Zp),Zr,simprocAttr,qP,Value.cells,cut,qC,cld2,(HEx),(TAx),vA,k23,ord45]
  exact fin
theorem ssetix_spec{k n kk kn vk vn:Int}{y x vx:ByteArray}(h:StIn lo s q D N O p gb ov tv)(hlo:lo≤s.next)(hN:N+4≤1000000)(hn : -9223372036854775808≤n∧n≤9223372036854775807)
  (hR:∀ s' O' tv',StIn lo s' q (chS D (decide (k=4) && decide (kk=3)) n (setH D.H n x (vk,vn,vx)) (setE D.H n x)) (N+4) O' p gb ov tv'→Upd s s' (ownS q gb ov tv O) (ownS q gb ov tv' O')→R (.bool (goesB (chS D (decide (k=4) && decide (kk=3)) n (setH D.H n x (vk,vn,vx)) (setE D.H n x)))) s') :
  QC prog w0 20 #[.pointer (some ⟨q,0,none⟩),vA k n y,vA kk kn x,vA vk vn vx] s R:=by
 refine wfun2 hmix ok20 func20 rfl ntmps20 results20 (by simp) ?_
 have l1:s.le ((((s.new (.cells [.pointer (some ⟨q,0,none⟩)] 25 true)).new (.cells [.int .i64 k,.int .i64 n,.string y] 31 true)).new (.cells [.int .i64 kk,.int .i64 kn,.string x] 31 true)).new (.cells [.int .i64 vk,.int .i64 vn,.string vx] 31 true)):=(by repeat (first|exact lR _|assumption|refine lN ?_|refine lP ?_ (by first|omega|(simp only[(Sn)];omega))|refine lT ?_ (by assumption)))
 have c0:((((s.new (.cells [.pointer (some ⟨q,0,none⟩)] 25 true)).new (.cells [.int .i64 k,.int .i64 n,.string y] 31 true)).new (.cells [.int .i64 kk,.int .i64 kn,.string x] 31 true)).new (.cells [.int .i64 vk,.int .i64 vn,.string vx] 31 true)).at' s.next=some (.cells [.pointer (some ⟨q,0,none⟩)] 25 true):=by simp only[St.at_new,St.next_new];(repeat rw[if_neg (by omega)]);rw[if_pos trivial]
 have c1:((((s.new (.cells [.pointer (some ⟨q,0,none⟩)] 25 true)).new (.cells [.int .i64 k,.int .i64 n,.string y] 31 true)).new (.cells [.int .i64 kk,.int .i64 kn,.string x] 31 true)).new (.cells [.int .i64 vk,.int .i64 vn,.string vx] 31 true)).at' (s.next+1)=some (.cells [.int .i64 k,.int .i64 n,.string y] 31 true):=by simp only[St.at_new,St.next_new];(repeat rw[if_neg (by omega)]);rw[if_pos trivial]
 have c2:((((s.new (.cells [.pointer (some ⟨q,0,none⟩)] 25 true)).new (.cells [.int .i64 k,.int .i64 n,.string y] 31 true)).new (.cells [.int .i64 kk,.int .i64 kn,.string x] 31 true)).new (.cells [.int .i64 vk,.int .i64 vn,.string vx] 31 true)).at' (s.next+2)=some (.cells [.int .i64 kk,.int .i64 kn,.string x] 31 true):=by rw[St.at_new,if_neg (by simp only[St.next_new];omega),St.at_new,if_pos (by simp only[St.next_new])]
 have c3:((((s.new (.cells [.pointer (some ⟨q,0,none⟩)] 25 true)).new (.cells [.int .i64 k,.int .i64 n,.string y] 31 true)).new (.cells [.int .i64 kk,.int .i64 kn,.string x] 31 true)).new (.cells [.int .i64 vk,.int .i64 vn,.string vx] 31 true)).at' (s.next+3)=some (.cells [.int .i64 vk,.int .i64 vn,.string vx] 31 true):=by rw[St.at_new,if_pos (by simp only[St.next_new])]
 have hkn:s.next+3<((((s.new (.cells [.pointer (some ⟨q,0,none⟩)] 25 true)).new (.cells [.int .i64 k,.int .i64 n,.string y] 31 true)).new (.cells [.int .i64 kk,.int .i64 kn,.string x] 31 true)).new (.cells [.int .i64 vk,.int .i64 vn,.string vx] 31 true)).next:=by simp only[St.next_new];omega
 simp -implicitDefEqProofs only[↓Zd,(Zp),Zr,simprocAttr,qP,Value.cells,cut,qC,cld2,(HEx),(TAx),vA,co76]
 generalize ((((s.new (.cells [.pointer (some ⟨q,0,none⟩)] 25 true)).new (.cells [.int .i64 k,.int .i64 n,.string y] 31 true)).new (.cells [.int .i64 kk,.int .i64 kn,.string x] 31 true)).new (.cells [.int .i64 vk,.int .i64 vn,.string vx] 31 true))=s1 at l1 c0 c1 c2 c3 hkn ⊢
 have h1:=h.le l1
 refine skeyed_spec h1 fun s2 h2 u2=>?_
 generalize (decide (k=4) && decide (kk=3))=so at h2 hR ⊢
 have k0:=((u2.loc (c:=s.next) (by omega) (h.fresh (Nat.le_refl _))).2).trans c0
 have k1:=((u2.loc (c:=s.next+1) (by omega) (h.fresh (by omega))).2).trans c1
 have k2:=((u2.loc (c:=s.next+2) (by omega) (h.fresh (by omega))).2).trans c2
 have k3:=((u2.loc (c:=s.next+3) (by omega) (h.fresh (by omega))).2).trans c3
 have n1:=l1.1
 have n2:=u2.next
 cases hg:goesB (isS D so) with
 |false =>
  simp only[chS_no hg,hg]at hR
  simp -implicitDefEqProofs only[↓Zd,(Zp),Zr,simprocAttr,qP,Value.cells,cut,qC,cld2,(HEx),(TAx),vA]
  exact hR _ _ _ (h2.mono (by omega)) ((Upd.of_le l1).trans u2)
 |true =>
  obtain⟨e1,_,_⟩:=is_goes hg
  simp only[chS_yes hg]at hR
  rw[e1]at h2
  simp -implicitDefEqProofs only[↓Zd,(Zp),Zr,simprocAttr,qP,Value.cells,cut,qC,cld2,(HEx),(TAx),vA,k0,k1,co73]
  refine swatch_spec (H':=setH D.H n x (vk,vn,vx)) (e:=setE D.H n x) co77 h2 hN hn (fun K hK=>ssetix1_spec h2 (by omega) (by omega) hn k0 k1 k2 k3 hK) fun s3 O3 tv3 h3 u3=>?_
  simp -implicitDefEqProofs only[↓Zd,(Zp),Zr,simprocAttr,qP,Value.cells,cut,qC,cld2,(HEx),(TAx),vA]
  exact hR _ _ _ h3 (((Upd.of_le l1).trans u2).trans u3)
theorem sdelix_spec{k n kk kn:Int}{y x:ByteArray}(h:StIn lo s q D N O p gb ov tv)(hlo:lo≤s.next)(hN:N+4≤1000000)(hn : -9223372036854775808≤n∧n≤9223372036854775807)
  (hR:∀ s' O' tv',StIn lo s' q (chS D (decide (k=4) && decide (kk=3)) n (delH D.H n x) 0) (N+4) O' p gb ov tv'→Upd s s' (ownS q gb ov tv O) (ownS q gb ov tv' O')→R (.bool (goesB (chS D (decide (k=4) && decide (kk=3)) n (delH D.H n x) 0))) s') :
  QC prog w0 49 #[.pointer (some ⟨q,0,none⟩),vA k n y,vA kk kn x] s R:=by
 refine wfun2 hmix ok49 func49 rfl ntmps49 results49 (by simp) ?_
 have l1:s.le ((s.new (.cells [.int .i64 k,.int .i64 n,.string y] 31 true)).new (.cells [.int .i64 kk,.int .i64 kn,.string x] 31 true)):=(by repeat (first|exact lR _|assumption|refine lN ?_|refine lP ?_ (by first|omega|(simp only[(Sn)];omega))|refine lT ?_ (by assumption)))
 have c0:((s.new (.cells [.int .i64 k,.int .i64 n,.string y] 31 true)).new (.cells [.int .i64 kk,.int .i64 kn,.string x] 31 true)).at' s.next=some (.cells [.int .i64 k,.int .i64 n,.string y] 31 true):=by rw[St.at_new,if_neg (by simp only[St.next_new];omega),St.at_new,if_pos rfl]
 have c1:((s.new (.cells [.int .i64 k,.int .i64 n,.string y] 31 true)).new (.cells [.int .i64 kk,.int .i64 kn,.string x] 31 true)).at' (s.next+1)=some (.cells [.int .i64 kk,.int .i64 kn,.string x] 31 true):=by rw[St.at_new,if_pos (by simp only[St.next_new])]
 have hkn:s.next+1<((s.new (.cells [.int .i64 k,.int .i64 n,.string y] 31 true)).new (.cells [.int .i64 kk,.int .i64 kn,.string x] 31 true)).next:=by simp only[St.next_new];omega
 simp -implicitDefEqProofs only[↓Zd,(Zp),Zr,simprocAttr,qP,Value.cells,cut,qC,cld2,(HEx),(TAx),vA,co76]
 generalize ((s.new (.cells [.int .i64 k,.int .i64 n,.string y] 31 true)).new (.cells [.int .i64 kk,.int .i64 kn,.string x] 31 true))=s1 at l1 c0 c1 hkn ⊢
 have h1:=h.le l1
 refine skeyed_spec h1 fun s2 h2 u2=>?_
 generalize (decide (k=4) && decide (kk=3))=so at h2 hR ⊢
 have k0:=((u2.loc (c:=s.next) (by omega) (h.fresh (Nat.le_refl _))).2).trans c0
 have k1:=((u2.loc (c:=s.next+1) (by omega) (h.fresh (by omega))).2).trans c1
 have n1:=l1.1
 have n2:=u2.next
 cases hg:goesB (isS D so) with
 |false =>
  simp only[chS_no hg,hg]at hR
  simp -implicitDefEqProofs only[↓Zd,(Zp),Zr,simprocAttr,qP,Value.cells,cut,qC,cld2,(HEx),(TAx),vA]
  exact hR _ _ _ (h2.mono (by omega)) ((Upd.of_le l1).trans u2)
 |true =>
  obtain⟨e1,_,_⟩:=is_goes hg
  simp only[chS_yes hg]at hR
  rw[e1]at h2
  simp -implicitDefEqProofs only[↓Zd,(Zp),Zr,simprocAttr,qP,Value.cells,cut,qC,cld2,(HEx),(TAx),vA,k0,k1,co79]
  refine srem_spec h2 (by omega) hN hn fun s3 O3 tv3 h3 u3=>?_
  simp -implicitDefEqProofs only[↓Zd,(Zp),Zr,simprocAttr,qP,Value.cells,cut,qC,cld2,(HEx),(TAx),vA]
  exact hR _ _ _ h3 (((Upd.of_le l1).trans u2).trans u3)
end
def builtN(a:Int):Int:=if a<1∨7<a then 0 else if a=2∨a=3∨a=5 then 2 else 1
noncomputable def objS (D:StD) (op:Int) (a b:Int×Int×ByteArray):StD:=
 if op=2 then isS D (decide (b.1=2)) else if op=3 then isS D (decide (b.1=3))
 else if op=5 then chS D (decide (b.1=4) || decide (b.1=0)) a.2.1 (protoH D.H a.2.1 b.2.1) (protoE D.H a.2.1 b.2.1) else D
noncomputable def builtS (D:StD) (op:Int) (l:List (Int×Int×ByteArray)):StD:=
 let a:=l.getD 0 zV
 if builtN op=0∨(l.length:Int)≠builtN op then needS D 2
 else if op=6 then needS D (errOf (lenV a.1 a.2.2)) else if op=7 then needS D (errOf (textV a.1 a.2.1 a.2.2 D.l3))
 else if goesB (isS D (decide (a.1=4)))=true then objS D op a (l.getD 1 zV) else isS D (decide (a.1=4))
theorem val3_at{g:List (Int×Int×ByteArray)}{k:Nat}{v:Int×Int×ByteArray}(h:g[k]?=some v):(g.flatMap val3)[k*3]?=some (.int .i64 v.1)∧(g.flatMap val3)[k*3+1]?=some (.int .i64 v.2.1)∧(g.flatMap val3)[k*3+2]?=some (.string v.2.2):=by
 obtain⟨c1,c2⟩:=val3_cut h
 refine⟨?_,?_,?_⟩
 ·have:=congrArg (·[0]?) c2;simpa [List.getElem?_take,List.getElem?_drop] using this
 ·have:=congrArg (·[1]?) c2;simpa [List.getElem?_take,List.getElem?_drop] using this
 ·have:=congrArg (·[2]?) c2;simpa [List.getElem?_take,List.getElem?_drop] using this
section
variable {lo q N p gb:Nat}{D:StD}{O:Nat→Prop}{ov tv:Value}
theorem tbuilt_spec{a:Int}(hR:∀ x,(x=(⟨#[]⟩:ByteArray)↔builtN a=0)→R (.tuple #[.string x,.int .i64 (builtN a)]) s):QC prog w0 67 #[.int .i64 a] s R:=by
 refine wfun2 hmix ok67 func67 rfl ntmps67 results67 (by simp) ?_
 unfold builtN at hR
 rcases (show a=1∨a=2∨a=3∨a=4∨a=5∨a=6∨a=7∨(a<1∨7<a) by omega) with rfl|rfl|rfl|rfl|rfl|rfl|rfl|h
 case inr.inr.inr.inr.inr.inr.inr =>
  rw[if_pos h]at hR
  have a1:¬ a=1:=by omega
  have a2:¬ a=2:=by omega
  have a3:¬ a=3:=by omega
  have a4:¬ a=4:=by omega
  have a5:¬ a=5:=by omega
  have a6:¬ a=6:=by omega
  have a7:¬ a=7:=by omega
  simp -implicitDefEqProofs only[↓Zd,(Zp),Zr,simprocAttr,qP,Value.cells,cut,qC,cld2,(HEx),(TAx),vA,underlying122,a1,a2,a3,a4,a5,a6,a7,decide_false]
  exact hR _ ⟨fun _=>rfl,fun _=>rfl⟩
 all_goals
  simp at hR
  simp -implicitDefEqProofs only[↓Zd,(Zp),Zr,simprocAttr,qP,Value.cells,cut,qC,cld2,(HEx),(TAx),vA,underlying122,decide_true,decide_false]
  exact hR _ (by decide)
theorem sobj1_spec{b0 b1 b2 b o n c qn:Nat}{i k1 n1:Int}{y1:ByteArray}{own:Bool}{us:List (Int×Int×ByteArray)}(h:StIn lo s q D N O p gb ov tv)(hlo:lo≤s.next)(hN:N+3≤1000000)(hi : -9223372036854775808≤i∧i≤9223372036854775807)(hn1 : -9223372036854775808≤n1∧n1≤9223372036854775807)
  (c0:s.at' b0=some (.cells [.pointer (some ⟨q,0,none⟩)] 25 true))(c1:s.at' b1=some (.cells [.int .i64 i] 3 true))(c2:s.at' b2=some (.cells [.slice (some ⟨b,o*3,none⟩) 2 c] 48 true))(cb:s.at' b=some (.cells (us.flatMap val3) 31 own))(hu:us[o+1]?=some (k1,n1,y1))
  (hR:∀ s' O',HpAt lo s' p (protoH D.H i n1) (N+3) O'→Upd s s' O O'→R (.int .i64 (protoE D.H i n1)) s') :
  QC prog w0 152 #[.pointer (some ⟨b0,0,none⟩),.pointer (some ⟨b1,0,none⟩),.pointer (some ⟨b2,0,none⟩)] s R:=by
 refine wfun2 hmix ok152 func152 rfl ntmps152 results152 (by simp) ?_
 have hb:=h.bl
 unfold stC at hb
 obtain⟨_,u2,_⟩:=val3_at hu
 have e3:(o+1)*3+1=o*3+4:=by omega
 rw[e3]at u2
 have b1':(1:Int)<((2:Nat):Int):=by omega
 simp -implicitDefEqProofs only[↓Zd,(Zp),Zr,simprocAttr,qP,Value.cells,cut,qC,cld2,(HEx),(TAx),vA,hb,c0,c1,c2,cb,u2,b1',co153,ord152]
 refine hsetproto_spec h.heap hlo hN h.num.n hi hn1 fun s2 O2 h2 u2=>?_
 simp -implicitDefEqProofs only[↓Zd,(Zp),Zr,simprocAttr,qP,Value.cells,cut,qC,cld2,(HEx),(TAx),vA,ord152]
 exact hR _ _ h2 u2
theorem hkey2_spec{H:Hp}{tg:Nat→Nat}{pf pn:Nat}{sl:Value}{bs:List Nat}{i k:Int}(h:HpIn lo s p H N O tg pf pn sl bs)(hN:N≤1000000)(hi : -9223372036854775808≤i∧i≤9223372036854775807)(hk : -9223372036854775808≤k∧k≤9223372036854775807)
  (hR:∀ s' kx kb,s.le s'→R (.tuple #[.string kx,.bool kb]) s'):QC prog w0 129 #[.pointer (some ⟨p,0,none⟩),.int .i64 i,.int .i64 k] s R:=by
 refine hkey_spec h hN hi hk fun s' l=>?_
 cases obAt H i with
 |none=>exact hR _ _ _ l
 |some o =>
  unfold keyV
  simp only
  split
  ·exact hR _ _ _ l
  ·exact hR _ _ _ l
theorem hown2_spec{H:Hp}{tg:Nat→Nat}{pf pn:Nat}{sl:Value}{bs:List Nat}{i:Int}{x:ByteArray}(h:HpIn lo s p H N O tg pf pn sl bs)(hi : -9223372036854775808≤i∧i≤9223372036854775807)
  (hR:∀ s' a b y kb,s.le s'→R (.tuple #[vA a b y,.bool kb]) s'):QC prog w0 130 #[.pointer (some ⟨p,0,none⟩),.int .i64 i,.string x] s R:=by
 refine hown_spec h hi fun s' l=>?_
 unfold gotV
 split
 ·exact hR _ _ _ _ _ l
 ·exact hR _ _ _ _ _ l
theorem sobj_spec{b o n c:Nat}{op:Int}{a a2:Int×Int×ByteArray}{own:Bool}{us:List (Int×Int×ByteArray)}(h:StIn lo s q D N O p gb ov tv)(hlo:lo≤s.next)(hN:N+4≤1000000)(hop:1≤op∧op≤5)(hnn:builtN op=(n:Int))(ha:I64 a.2.1)(ha2:n=2→I64 a2.2.1)
  (hbn:b<s.next)(hbo:¬ ownS q gb ov tv O b)(cb:s.at' b=some (.cells (us.flatMap val3) 31 own))(hu:us[o]?=some a)(hu2:n=2→us[o+1]?=some a2)(hg:goesB D=true)
  (hR:∀ s' O' tv' k m x,StIn lo s' q (objS D op a a2) (N+4) O' p gb ov tv'→Upd s s' (ownS q gb ov tv O) (ownS q gb ov tv' O')→R (.tuple #[vA k m x,.bool (goesB (objS D op a a2))]) s') :
  QC prog w0 70 #[.pointer (some ⟨q,0,none⟩),.int .i64 op,.slice (some ⟨b,o*3,none⟩) n c] s R:=by
 refine wfun2 hmix ok70 func70 rfl ntmps70 results70 (by simp) ?_
 obtain⟨k,m,x⟩:=a
 obtain⟨k2,m2,x2⟩:=a2
 have ha : -9223372036854775808≤m∧m≤9223372036854775807:=ha
 obtain⟨v1,v2,v3⟩:=val3_at hu
 obtain⟨w1,w2⟩:=val3_cut hu
 simp only at v1 v2 v3 w1 w2
 have hnb:¬ b=s.next:=by omega
 have hnb1:¬ b=s.next+1:=by omega
 have hnb2:¬ b=s.next+2:=by omega
 have hnb3:¬ b=s.next+3:=by omega
 have hnb4:¬ b=s.next+4:=by omega
 have h0n:(0:Int)<((n:Nat):Int):=by rw[← hnn];unfold builtN;(repeat' split)<;>omega
 have hq0:=h.q0
 have hqn:¬ q=s.next:=by omega
 have hqn1:¬ q=s.next+1:=by omega
 have hqn2:¬ q=s.next+2:=by omega
 have hqn3:¬ q=s.next+3:=by omega
 have hqn4:¬ q=s.next+4:=by omega
 have hb:=h.bl
 unfold stC at hb
 obtain⟨S,hS⟩:∃ S,S=(((((((s.new (.cells [.pointer (some ⟨q,0,none⟩)] 25 true)).new (.cells [.slice (some ⟨b,o*3,none⟩) n c] 48 true)).new (.cells [.int .i64 0,.int .i64 0,.string ⟨#[]⟩] 31 true)).new (.cells [.int .i64 0] 3 true)).new (.cells [.int .i64 0,.int .i64 0,.string ⟨#[]⟩] 31 true)).put (s.next+3) (.cells [.int .i64 m] 3 true)).put (s.next+4) (.cells [.int .i64 0,.int .i64 0,.string ⟨#[]⟩] 31 true)):=⟨_,rfl⟩
 have lS:s.le S:=by rw[hS];exact (by repeat (first|exact lR _|assumption|refine lN ?_|refine lP ?_ (by first|omega|(simp only[(Sn)];omega))|refine lT ?_ (by assumption)))
 have nS:S.next=s.next+5:=by rw[hS];rfl
 have d0:S.at' s.next=some (.cells [.pointer (some ⟨q,0,none⟩)] 25 true):=by rw[hS];simp only[St.at_new,St.next_new,St.at_put];(repeat rw[if_neg (by omega)]);rw[if_pos trivial]
 have d1:S.at' (s.next+1)=some (.cells [.slice (some ⟨b,o*3,none⟩) n c] 48 true):=by rw[hS];simp only[St.at_new,St.next_new,St.at_put];(repeat rw[if_neg (by omega)]);rw[if_pos trivial]
 have d2:S.at' (s.next+2)=some (.cells [.int .i64 0,.int .i64 0,.string ⟨#[]⟩] 31 true):=by rw[hS];simp only[St.at_new,St.next_new,St.at_put];(repeat rw[if_neg (by omega)]);(first|rw[if_pos trivial]|rw[if_pos rfl])
 have d3:S.at' (s.next+3)=some (.cells [.int .i64 m] 3 true):=by rw[hS];simp only[St.at_new,St.next_new,St.at_put];rw[if_neg (by omega),if_pos trivial]
 have d4:S.at' (s.next+4)=some (.cells [.int .i64 0,.int .i64 0,.string ⟨#[]⟩] 31 true):=by rw[hS];simp only[St.at_put];rw[if_pos trivial]
 have hSI:=h.le lS
 have hf0:=h.fresh (c:=s.next) (Nat.le_refl _)
 have hf1:=h.fresh (c:=s.next+1) (by omega)
 have hf2:=h.fresh (c:=s.next+2) (by omega)
 have hf3:=h.fresh (c:=s.next+3) (by omega)
 have hf4:=h.fresh (c:=s.next+4) (by omega)
 have cbS:=(lS.2 b hbn).trans cb
 have hSb:=hSI.bl
 unfold stC at hSb
 have q23:¬ s.next+2=s.next+4:=by omega
 have q43:¬ s.next+4=s.next+2:=by omega
 have fin:∀ {s2:St M}{O2:Nat→Prop}{tv2:Value}{N2:Nat}{D2:StD}(kk mm:Int) (xx:ByteArray),D2=objS D op (k,m,x) (k2,m2,x2)→N2≤N+4→StIn lo s2 q D2 N2 O2 p gb ov tv2→Upd s s2 (ownS q gb ov tv O) (ownS q gb ov tv2 O2)→¬ ownS q gb ov tv2 O2 (s.next+2)→∀ B,R (.tuple #[vA kk mm xx,.bool (goesB D2)]) (s2.put (s.next+2) B):=fun {s2 O2 tv2 N2 D2} kk mm xx e hN2 h2 u2 f2 B=>by
  subst e
  obtain⟨g1,g2⟩:=(h2.mono hN2).loc (c:=s.next+2) (B:=B) u2 (by omega) f2
  exact hR _ _ _ kk mm xx g1 g2
 have fin4:∀ {s2:St M}{O2:Nat→Prop}{tv2:Value}{N2:Nat}{D2:StD}(kk mm:Int) (xx:ByteArray),D2=objS D op (k,m,x) (k2,m2,x2)→N2≤N+4→StIn lo s2 q D2 N2 O2 p gb ov tv2→Upd s s2 (ownS q gb ov tv O) (ownS q gb ov tv2 O2)→¬ ownS q gb ov tv2 O2 (s.next+2)→¬ ownS q gb ov tv2 O2 (s.next+4)→∀ B B',R (.tuple #[vA kk mm xx,.bool (goesB D2)]) ((s2.put (s.next+4) B').put (s.next+2) B):=fun {s2 O2 tv2 N2 D2} kk mm xx e hN2 h2 u2 f2 f4 B B'=>by
  obtain⟨g1,g2⟩:=h2.loc (c:=s.next+4) (B:=B') u2 (by omega) f4
  exact fin kk mm xx e hN2 g1 g2 f2 _
 unfold vA at fin fin4
 have uS:Upd s S (ownS q gb ov tv O) (ownS q gb ov tv O) := .of_le lS
 obtain⟨hpro,tg,pf,pn,sl0,bs,hin⟩:=hSI.heap
 rcases (show op=1∨op=2∨op=3∨op=4∨op=5 by omega) with rfl|rfl|rfl|rfl|rfl
 ·have eo:objS D 1 (k,m,x) (k2,m2,x2)=D:=by simp[objS]
  simp -implicitDefEqProofs only[↓Zd,(Zp),Zr,simprocAttr,qP,Value.cells,cut,qC,cld2,(HEx),(TAx),vA,cb,hb,hnb,hnb1,hnb2,hnb3,hnb4,hqn,hqn1,hqn2,hqn3,hqn4,v2,h0n,bVal0,co128,ord70]
  rw[← hS]
  refine hcount_spec hin ha fun s2 l2=>?_
  have h2:=hSI.le l2
  have k2':=(l2.2 (s.next+2) (by omega)).trans d2
  have k4:=(l2.2 (s.next+4) (by omega)).trans d4
  simp -implicitDefEqProofs only[↓Zd,(Zp),Zr,simprocAttr,qP,Value.cells,cut,qC,cld2,(HEx),(TAx),vA,k2',k4,q23,q43,bv2,ord70]
  have:=fin4 (s2:=s2) (D2:=D) 2 (countV D.H m) ⟨#[]⟩ eo.symm (by omega) h2 (uS.trans (.of_le l2)) hf2 hf4
  rw[hg]at this
  exact this _ _
 ·have eo:objS D 2 (k,m,x) (k2,m2,x2)=isS D (decide (k2=2)):=by simp[objS]
  have hn2:n=2:=by have:builtN 2=2:=rfl;omega
  subst hn2
  obtain⟨y1,y2,y3⟩:=val3_at (hu2 rfl)
  simp only at y1 y2 y3
  rw[show (o+1)*3=o*3+3 by omega]at y1 y2 y3
  have ha2 : -9223372036854775808≤m2∧m2≤9223372036854775807:=ha2 rfl
  have l12:(1:Int)<((2:Nat):Int):=by omega
  by_cases hk:k2=2
  ·rw[hk]at y1 eo
   simp -implicitDefEqProofs only[↓Zd,(Zp),Zr,simprocAttr,qP,Value.cells,cut,qC,cld2,(HEx),(TAx),vA,cb,hb,hnb,hnb1,hnb2,hnb3,hnb4,hqn,hqn1,hqn2,hqn3,hqn4,v2,h0n,bVal0,y1,l12,co64,ord70]
   rw[← hS]
   refine sis_spec hSI fun s2 h2 u2=>?_
   have e0:=((u2.loc (c:=s.next) (by omega) hf0).2).trans d0
   have e1:=((u2.loc (c:=s.next+1) (by omega) hf1).2).trans d1
   obtain⟨g2,e2⟩:=u2.loc (c:=s.next+2) (by omega) hf2
   have e2:=e2.trans d2
   have e3:=((u2.loc (c:=s.next+3) (by omega) hf3).2).trans d3
   obtain⟨g4,e4⟩:=u2.loc (c:=s.next+4) (by omega) hf4
   have e4:=e4.trans d4
   have eb:=(u2.keep b (by omega) hbo).trans cbS
   have n2:=u2.next
   have i1:isS D true=D:=rfl
   rw[i1]at h2
   rw[i1,hg]
   have h2b:=h2.bl
   unfold stC at h2b
   obtain⟨_,tg2,pf2,pn2,sl2,bs2,hin2⟩:=h2.heap
   simp -implicitDefEqProofs only[↓Zd,(Zp),Zr,simprocAttr,qP,Value.cells,cut,qC,cld2,(HEx),(TAx),vA,e0,e1,e2,e3,e4,eb,h2b,y1,y2,l12,co64,co129,ord70]
   refine hkey2_spec hin2 (by omega) ha ha2 fun s3 kx kb l3=>?_
   have h3:=h2.le l3
   have f2:=(l3.2 (s.next+2) (by omega)).trans e2
   have f4:=(l3.2 (s.next+4) (by omega)).trans e4
   have u3:=(uS.trans u2).trans (.of_le l3)
   have eD:D=objS D 2 (k,m,x) (2,m2,x2):=rfl
   cases kb with
   |true =>
    simp -implicitDefEqProofs only[↓Zd,(Zp),Zr,simprocAttr,qP,Value.cells,cut,qC,cld2,(HEx),(TAx),vA,f2,f4,q23,q43,bv3,co129,ord70]
    have:=fin4 (s2:=s3) (D2:=D) 3 0 kx (by rw[hk];exact eD) (by omega) h3 u3 g2 g4
    rw[hg]at this
    exact this _ _
   |false =>
    simp -implicitDefEqProofs only[↓Zd,(Zp),Zr,simprocAttr,qP,Value.cells,cut,qC,cld2,(HEx),(TAx),vA,f2,f4,q23,q43,co129,ord70]
    have:=fin (s2:=s3) (D2:=D) 0 0 ⟨#[]⟩ (by rw[hk];exact eD) (by omega) h3 u3 g2
    rw[hg]at this
    exact this _
  ·simp -implicitDefEqProofs only[↓Zd,(Zp),Zr,simprocAttr,qP,Value.cells,cut,qC,cld2,(HEx),(TAx),vA,cb,hb,hnb,hnb1,hnb2,hnb3,hnb4,hqn,hqn1,hqn2,hqn3,hqn4,v2,h0n,bVal0,y1,hk,l12,co64,ord70]
   rw[← hS]
   refine sis_spec hSI fun s2 h2 u2=>?_
   have e0:=((u2.loc (c:=s.next) (by omega) hf0).2).trans d0
   have e1:=((u2.loc (c:=s.next+1) (by omega) hf1).2).trans d1
   obtain⟨g2,e2⟩:=u2.loc (c:=s.next+2) (by omega) hf2
   have e2:=e2.trans d2
   have e3:=((u2.loc (c:=s.next+3) (by omega) hf3).2).trans d3
   obtain⟨g4,e4⟩:=u2.loc (c:=s.next+4) (by omega) hf4
   have e4:=e4.trans d4
   have eb:=(u2.keep b (by omega) hbo).trans cbS
   have n2:=u2.next
   have i1:=goes_is30 (D:=D)
   rw[i1]
   simp -implicitDefEqProofs only[↓Zd,(Zp),Zr,simprocAttr,qP,Value.cells,cut,qC,cld2,(HEx),(TAx),vA,e0,e1,e2,e3,e4,eb,y1,hk,l12,co64,ord70]
   have:=fin (s2:=s2) (D2:=isS D false) 0 0 ⟨#[]⟩ (by rw[eo,decide_eq_false hk]) (by omega) h2 (uS.trans u2) g2
   rw[i1]at this
   exact this _
 ·have eo:objS D 3 (k,m,x) (k2,m2,x2)=isS D (decide (k2=3)):=by simp[objS]
  have hn2:n=2:=by have:builtN 3=2:=rfl;omega
  subst hn2
  obtain⟨y1,y2,y3⟩:=val3_at (hu2 rfl)
  obtain⟨z1,z2⟩:=val3_cut (hu2 rfl)
  simp only at y1 y2 y3 z1 z2
  rw[show (o+1)*3=o*3+3 by omega]at y1 y2 y3 z1 z2
  have l12:(1:Int)<((2:Nat):Int):=by omega
  simp -implicitDefEqProofs only[↓Zd,(Zp),Zr,simprocAttr,qP,Value.cells,cut,qC,cld2,(HEx),(TAx),vA,cb,hb,hnb,hnb1,hnb2,hnb3,hnb4,hqn,hqn1,hqn2,hqn3,hqn4,v2,h0n,bVal0,y1,z1,z2,l12,co151,ord70]
  rw[← hS]
  refine isKey_spec ?_
  have lT:S.le (S.new (vB k2 m2 x2)):=lN (lR _)
  have nT:(S.new (vB k2 m2 x2)).next=s.next+6:=by rw[St.next_new,nS]
  have uT:=uS.trans (.of_le lT)
  have hTI:=hSI.le lT
  have cbT:=(lT.2 b (by omega)).trans cbS
  have d0:=(lT.2 _ (by omega)).trans d0
  have d1:=(lT.2 _ (by omega)).trans d1
  have d2:=(lT.2 _ (by omega)).trans d2
  have d3:=(lT.2 _ (by omega)).trans d3
  have d4:=(lT.2 _ (by omega)).trans d4
  have hTb:=hTI.bl
  unfold stC at hTb
  generalize S.new (vB k2 m2 x2)=T at lT nT uT hTI cbT d0 d1 d2 d3 d4 hTb ⊢
  simp -implicitDefEqProofs only[↓Zd,(Zp),Zr,simprocAttr,qP,Value.cells,cut,qC,cld2,(HEx),(TAx),vA,d0,d1,d2,d3,d4,cbT,hTb,y1,z1,z2,l12,co151,co64,ord70]
  by_cases hk:k2=3
  ·rw[decide_eq_true hk]
   rw[decide_eq_true hk]at eo
   refine sis_spec hTI fun s2 h2 u2=>?_
   have e0:=((u2.loc (c:=s.next) (by omega) hf0).2).trans d0
   have e1:=((u2.loc (c:=s.next+1) (by omega) hf1).2).trans d1
   obtain⟨g2,e2⟩:=u2.loc (c:=s.next+2) (by omega) hf2
   have e2:=e2.trans d2
   have e3:=((u2.loc (c:=s.next+3) (by omega) hf3).2).trans d3
   obtain⟨g4,e4⟩:=u2.loc (c:=s.next+4) (by omega) hf4
   have e4:=e4.trans d4
   have eb:=(u2.keep b (by omega) hbo).trans cbT
   have n2:=u2.next
   have i1:isS D true=D:=rfl
   rw[i1]at h2 eo
   rw[i1,hg]
   have h2b:=h2.bl
   unfold stC at h2b
   obtain⟨_,tg2,pf2,pn2,sl2,bs2,hin2⟩:=h2.heap
   have hb2n:¬ b=s.next+4:=by omega
   have q2n:¬ q=s.next+4:=by omega
   have q04:¬ s.next=s.next+4:=by omega
   have q14:¬ s.next+1=s.next+4:=by omega
   have q34:¬ s.next+3=s.next+4:=by omega
   simp -implicitDefEqProofs only[↓Zd,(Zp),Zr,simprocAttr,qP,Value.cells,cut,qC,cld2,(HEx),(TAx),vA,e0,e1,e2,e3,e4,eb,h2b,y3,l12,hb2n,q2n,q04,q14,q34,co151,co64,co130,ord70]
   obtain⟨p1,pu1⟩:=h2.loc (c:=s.next+4) (B := .cells [.int .i64 1,.int .i64 0,.string ⟨#[]⟩] 31 true) (uT.trans u2) (by omega) g4
   have lP:(s2.put (s.next+4) (.cells [.int .i64 1,.int .i64 0,.string ⟨#[]⟩] 31 true)).le ((s2.put (s.next+4) (.cells [.int .i64 1,.int .i64 0,.string ⟨#[]⟩] 31 true)).new (.cells [.int .i64 0,.int .i64 0,.string ⟨#[]⟩] 31 true)):=lN (lR _)
   have p2:=p1.le lP
   have r2:((s2.put (s.next+4) (.cells [.int .i64 1,.int .i64 0,.string ⟨#[]⟩] 31 true)).new (.cells [.int .i64 0,.int .i64 0,.string ⟨#[]⟩] 31 true)).at' (s.next+2)=some (.cells [.int .i64 0,.int .i64 0,.string ⟨#[]⟩] 31 true):=by rw[St.at_new,if_neg (by simp only[St.next_put];omega),St.at_put,if_neg (by omega)];exact e2
   have r4:((s2.put (s.next+4) (.cells [.int .i64 1,.int .i64 0,.string ⟨#[]⟩] 31 true)).new (.cells [.int .i64 0,.int .i64 0,.string ⟨#[]⟩] 31 true)).at' (s.next+4)=some (.cells [.int .i64 1,.int .i64 0,.string ⟨#[]⟩] 31 true):=by rw[St.at_new,if_neg (by simp only[St.next_put];omega),St.at_put,if_pos rfl]
   have r5:((s2.put (s.next+4) (.cells [.int .i64 1,.int .i64 0,.string ⟨#[]⟩] 31 true)).new (.cells [.int .i64 0,.int .i64 0,.string ⟨#[]⟩] 31 true)).at' s2.next=some (.cells [.int .i64 0,.int .i64 0,.string ⟨#[]⟩] 31 true):=by rw[St.at_new,if_pos (by simp only[St.next_put])]
   have nP:((s2.put (s.next+4) (.cells [.int .i64 1,.int .i64 0,.string ⟨#[]⟩] 31 true)).new (.cells [.int .i64 0,.int .i64 0,.string ⟨#[]⟩] 31 true)).next=s2.next+1:=rfl
   have g5:¬ ownS q gb ov tv O s2.next:=p1.fresh (by simp only[St.next_put];omega)
   have uP:=pu1.trans (.of_le lP)
   generalize ((s2.put (s.next+4) (.cells [.int .i64 1,.int .i64 0,.string ⟨#[]⟩] 31 true)).new (.cells [.int .i64 0,.int .i64 0,.string ⟨#[]⟩] 31 true))=P2 at lP p2 r2 r4 r5 nP uP ⊢
   obtain⟨_,tg3,pf3,pn3,sl3,bs3,hin3⟩:=p2.heap
   refine hown2_spec hin3 ha fun s4 va vb vx kb l4=>?_
   have r2:=(l4.2 (s.next+2) (by omega)).trans r2
   have r4:=(l4.2 (s.next+4) (by omega)).trans r4
   have r5:=(l4.2 s2.next (by omega)).trans r5
   have n25:¬ s.next+2=s2.next:=by omega
   have n45:¬ s.next+4=s2.next:=by omega
   have eD:D=objS D 3 (k,m,x) (k2,m2,x2):=eo.symm
   have w4:=fun B=>(p2.le l4).loc (c:=s2.next) (B:=B) (uP.trans (.of_le l4)) (by omega) g5
   cases kb with
   |true =>
    unfold vA
    simp -implicitDefEqProofs only[↓Zd,(Zp),Zr,simprocAttr,qP,Value.cells,cut,qC,cld2,(HEx),(TAx),vA,r2,r4,r5,n25,n45,q23,q43,co130,ord70]
    have:=fin4 (s2:=s4.put s2.next (.cells [.int .i64 va,.int .i64 vb,.string vx] 31 true)) (D2:=D) 1 1 ⟨#[]⟩ eD (by omega) (w4 _).1 (w4 _).2 g2 g4
    rw[hg]at this
    exact this _ _
   |false =>
    unfold vA
    simp -implicitDefEqProofs only[↓Zd,(Zp),Zr,simprocAttr,qP,Value.cells,cut,qC,cld2,(HEx),(TAx),vA,r2,r4,r5,n25,n45,q23,q43,co130,ord70]
    have:=fin (s2:=s4.put s2.next (.cells [.int .i64 va,.int .i64 vb,.string vx] 31 true)) (D2:=D) 1 0 ⟨#[]⟩ eD (by omega) (w4 _).1 (w4 _).2 g2
    rw[hg]at this
    exact this _
  ·rw[decide_eq_false hk]
   rw[decide_eq_false hk]at eo
   refine sis_spec hTI fun s2 h2 u2=>?_
   have e0:=((u2.loc (c:=s.next) (by omega) hf0).2).trans d0
   have e1:=((u2.loc (c:=s.next+1) (by omega) hf1).2).trans d1
   obtain⟨g2,e2⟩:=u2.loc (c:=s.next+2) (by omega) hf2
   have e2:=e2.trans d2
   have e3:=((u2.loc (c:=s.next+3) (by omega) hf3).2).trans d3
   obtain⟨g4,e4⟩:=u2.loc (c:=s.next+4) (by omega) hf4
   have e4:=e4.trans d4
   have eb:=(u2.keep b (by omega) hbo).trans cbT
   have n2:=u2.next
   have i1:=goes_is30 (D:=D)
   rw[i1]
   simp -implicitDefEqProofs only[↓Zd,(Zp),Zr,simprocAttr,qP,Value.cells,cut,qC,cld2,(HEx),(TAx),vA,e0,e1,e2,e3,e4,eb,y1,z1,z2,l12,co151,co64,ord70]
   have:=fin (s2:=s2) (D2:=isS D false) 0 0 ⟨#[]⟩ eo.symm (by omega) h2 (uT.trans u2) g2
   rw[i1]at this
   exact this _
 ·have eo:objS D 4 (k,m,x) (k2,m2,x2)=D:=by simp[objS]
  simp -implicitDefEqProofs only[↓Zd,(Zp),Zr,simprocAttr,qP,Value.cells,cut,qC,cld2,(HEx),(TAx),vA,cb,hb,hnb,hnb1,hnb2,hnb3,hnb4,hqn,hqn1,hqn2,hqn3,hqn4,v2,h0n,bVal0,co127,ord70]
  rw[← hS]
  refine hproto_spec hin ha ?_
  by_cases hp0:0<protoV D.H m
  ·simp -implicitDefEqProofs only[↓Zd,(Zp),Zr,simprocAttr,qP,Value.cells,cut,qC,cld2,(HEx),(TAx),vA,d2,d4,q23,q43,hp0,bv2,ord70]
   have:=fin4 (s2:=S) (D2:=D) 4 (protoV D.H m) ⟨#[]⟩ eo.symm (by omega) hSI uS hf2 hf4
   rw[hg]at this
   exact this _ _
  ·simp -implicitDefEqProofs only[↓Zd,(Zp),Zr,simprocAttr,qP,Value.cells,cut,qC,cld2,(HEx),(TAx),vA,d2,d4,q23,q43,hp0,ord70]
   have:=fin (s2:=S) (D2:=D) 0 0 ⟨#[]⟩ eo.symm (by omega) hSI uS hf2
   rw[hg]at this
   exact this _
 ·have eo:objS D 5 (k,m,x) (k2,m2,x2)=chS D (decide (k2=4) || decide (k2=0)) m (protoH D.H m m2) (protoE D.H m m2):=by simp[objS]
  have hn2:n=2:=by have:builtN 5=2:=rfl;omega
  subst hn2
  have hu2:=hu2 rfl
  obtain⟨y1,y2,y3⟩:=val3_at hu2
  simp only at y1 y2 y3
  rw[show (o+1)*3=o*3+3 by omega]at y1 y2 y3
  have hm2 : -9223372036854775808≤m2∧m2≤9223372036854775807:=ha2 rfl
  have l12:(1:Int)<((2:Nat):Int):=by omega
  rcases (show k2=4∨k2=0∨(¬ k2=4∧¬ k2=0) by omega) with hk|hk|⟨hk,hk'⟩
  ·subst hk
   simp -implicitDefEqProofs only[↓Zd,(Zp),Zr,simprocAttr,qP,Value.cells,cut,qC,cld2,(HEx),(TAx),vA,cb,hb,hnb,hnb1,hnb2,hnb3,hnb4,hqn,hqn1,hqn2,hqn3,hqn4,v2,h0n,bVal0,y1,l12,co64,ord70]
   rw[← hS]
   refine sis_spec hSI fun s2 h2 u2=>?_
   have e0:=((u2.loc (c:=s.next) (by omega) hf0).2).trans d0
   have e1:=((u2.loc (c:=s.next+1) (by omega) hf1).2).trans d1
   obtain⟨g2,e2⟩:=u2.loc (c:=s.next+2) (by omega) hf2
   have e2:=e2.trans d2
   have e3:=((u2.loc (c:=s.next+3) (by omega) hf3).2).trans d3
   obtain⟨g4,e4⟩:=u2.loc (c:=s.next+4) (by omega) hf4
   have e4:=e4.trans d4
   have eb:=(u2.keep b (by omega) hbo).trans cbS
   have n2:=u2.next
   have i1:isS D true=D:=rfl
   rw[i1]at h2
   rw[i1,hg]
   have eo:=eo.trans (show _=watchS D m (protoH D.H m m2) (protoE D.H m m2) by unfold chS;rw[hg];rfl)
   simp -implicitDefEqProofs only[↓Zd,(Zp),Zr,simprocAttr,qP,Value.cells,cut,qC,cld2,(HEx),(TAx),vA,e0,e1,e2,e3,e4,eb,y1,y2,l12,co64,co73,ord70]
   refine swatch_spec (H':=protoH D.H m m2) (e:=protoE D.H m m2) co152 h2 hN ha (fun K hK=>sobj1_spec (n:=0) (qn:=0) h2 (by omega) (by omega) ha hm2 e0 e3 e1 eb hu2 hK) fun s3 O3 tv3 h3 u3=>?_
   have r1:=((u3.loc (c:=s.next+1) (by omega) (u2.loc (c:=s.next+1) (by omega) hf1).1).2).trans e1
   obtain⟨t2,r2⟩:=u3.loc (c:=s.next+2) (by omega) g2
   have r2:=r2.trans e2
   obtain⟨t4,r4⟩:=u3.loc (c:=s.next+4) (by omega) g4
   have r4:=r4.trans e4
   have eb3:=(u3.keep b (by omega) (u2.loc (c:=b) (by omega) hbo).1).trans eb
   have hu3:=(uS.trans u2).trans u3
   cases hg3:goesB (watchS D m (protoH D.H m m2) (protoE D.H m m2)) with
   |true =>
    simp -implicitDefEqProofs only[↓Zd,(Zp),Zr,simprocAttr,qP,Value.cells,cut,qC,cld2,(HEx),(TAx),vA,r1,r2,r4,eb3,w1,w2,v1,v2,v3,h0n,Nat.add_zero,q23,q43,co64,co73,ord70]
    have:=fin4 (s2:=s3) k m x eo.symm (by omega) h3 hu3 t2 t4
    rw[hg3]at this
    exact this _ _
   |false =>
    simp -implicitDefEqProofs only[↓Zd,(Zp),Zr,simprocAttr,qP,Value.cells,cut,qC,cld2,(HEx),(TAx),vA,r1,r2,r4,eb3,h0n,q23,q43,co64,co73,ord70]
    have:=fin (s2:=s3) 0 0 ⟨#[]⟩ eo.symm (by omega) h3 hu3 t2
    rw[hg3]at this
    exact this _
  ·subst hk
   simp -implicitDefEqProofs only[↓Zd,(Zp),Zr,simprocAttr,qP,Value.cells,cut,qC,cld2,(HEx),(TAx),vA,cb,hb,hnb,hnb1,hnb2,hnb3,hnb4,hqn,hqn1,hqn2,hqn3,hqn4,v2,h0n,bVal0,y1,l12,co64,ord70]
   rw[← hS]
   refine sis_spec hSI fun s2 h2 u2=>?_
   have e0:=((u2.loc (c:=s.next) (by omega) hf0).2).trans d0
   have e1:=((u2.loc (c:=s.next+1) (by omega) hf1).2).trans d1
   obtain⟨g2,e2⟩:=u2.loc (c:=s.next+2) (by omega) hf2
   have e2:=e2.trans d2
   have e3:=((u2.loc (c:=s.next+3) (by omega) hf3).2).trans d3
   obtain⟨g4,e4⟩:=u2.loc (c:=s.next+4) (by omega) hf4
   have e4:=e4.trans d4
   have eb:=(u2.keep b (by omega) hbo).trans cbS
   have n2:=u2.next
   have i1:isS D true=D:=rfl
   rw[i1]at h2
   rw[i1,hg]
   have eo:=eo.trans (show _=watchS D m (protoH D.H m m2) (protoE D.H m m2) by unfold chS;rw[hg];rfl)
   simp -implicitDefEqProofs only[↓Zd,(Zp),Zr,simprocAttr,qP,Value.cells,cut,qC,cld2,(HEx),(TAx),vA,e0,e1,e2,e3,e4,eb,y1,y2,l12,co64,co73,ord70]
   refine swatch_spec (H':=protoH D.H m m2) (e:=protoE D.H m m2) co152 h2 hN ha (fun K hK=>sobj1_spec (n:=0) (qn:=0) h2 (by omega) (by omega) ha hm2 e0 e3 e1 eb hu2 hK) fun s3 O3 tv3 h3 u3=>?_
   have r1:=((u3.loc (c:=s.next+1) (by omega) (u2.loc (c:=s.next+1) (by omega) hf1).1).2).trans e1
   obtain⟨t2,r2⟩:=u3.loc (c:=s.next+2) (by omega) g2
   have r2:=r2.trans e2
   obtain⟨t4,r4⟩:=u3.loc (c:=s.next+4) (by omega) g4
   have r4:=r4.trans e4
   have eb3:=(u3.keep b (by omega) (u2.loc (c:=b) (by omega) hbo).1).trans eb
   have hu3:=(uS.trans u2).trans u3
   cases hg3:goesB (watchS D m (protoH D.H m m2) (protoE D.H m m2)) with
   |true =>
    simp -implicitDefEqProofs only[↓Zd,(Zp),Zr,simprocAttr,qP,Value.cells,cut,qC,cld2,(HEx),(TAx),vA,r1,r2,r4,eb3,w1,w2,v1,v2,v3,h0n,Nat.add_zero,q23,q43,co64,co73,ord70]
    have:=fin4 (s2:=s3) k m x eo.symm (by omega) h3 hu3 t2 t4
    rw[hg3]at this
    exact this _ _
   |false =>
    simp -implicitDefEqProofs only[↓Zd,(Zp),Zr,simprocAttr,qP,Value.cells,cut,qC,cld2,(HEx),(TAx),vA,r1,r2,r4,eb3,h0n,q23,q43,co64,co73,ord70]
    have:=fin (s2:=s3) 0 0 ⟨#[]⟩ eo.symm (by omega) h3 hu3 t2
    rw[hg3]at this
    exact this _
  ·rw[decide_eq_false hk,decide_eq_false hk']at eo
   simp -implicitDefEqProofs only[↓Zd,(Zp),Zr,simprocAttr,qP,Value.cells,cut,qC,cld2,(HEx),(TAx),vA,cb,hb,hnb,hnb1,hnb2,hnb3,hnb4,hqn,hqn1,hqn2,hqn3,hqn4,v2,h0n,bVal0,y1,hk,hk',l12,co64,ord70]
   rw[← hS]
   refine sis_spec hSI fun s2 h2 u2=>?_
   have e0:=((u2.loc (c:=s.next) (by omega) hf0).2).trans d0
   have e1:=((u2.loc (c:=s.next+1) (by omega) hf1).2).trans d1
   obtain⟨g2,e2⟩:=u2.loc (c:=s.next+2) (by omega) hf2
   have e2:=e2.trans d2
   have e3:=((u2.loc (c:=s.next+3) (by omega) hf3).2).trans d3
   obtain⟨g4,e4⟩:=u2.loc (c:=s.next+4) (by omega) hf4
   have e4:=e4.trans d4
   have eb:=(u2.keep b (by omega) hbo).trans cbS
   have n2:=u2.next
   have i1:=goes_is30 (D:=D)
   have eo:objS D 5 (k,m,x) (k2,m2,x2)=isS D false:=eo.trans (chS_no (so:=false || false) i1)
   rw[i1]
   simp -implicitDefEqProofs only[↓Zd,(Zp),Zr,simprocAttr,qP,Value.cells,cut,qC,cld2,(HEx),(TAx),vA,e0,e1,e2,e3,e4,eb,y1,hk,hk',l12,co64,ord70]
   have:=fin (s2:=s2) (D2:=isS D false) 0 0 ⟨#[]⟩ eo.symm (by omega) h2 (uS.trans u2) g2
   rw[i1]at this
   exact this _
end
def effP(o a:Int):Int:=
 if o=9∨o=11∨o=14∨o=18∨o=20∨o=23∨o=24∨o=25∨o=27∨o=30∨o=31∨o=32 then 1
 else if o=13∨o=15∨o=16∨o=19∨o=21 then 2
 else if o=17 then 3
 else if o=29 then builtN a
 else if o=26 then (if 0≤a∧a≤6 then a+1 else 0)
 else if o=28 then (if 0≤a∧a≤6 then a+2 else 0)
 else 0
section
theorem rbuiltn_spec{a:Int}(hR:∀ s' x,s.le s'→R (.tuple #[.string x,.int .i64 (builtN a)]) s'):QC prog w0 92 #[.int .i64 a] s R:=by
 refine wfun2 hmix ok92 func92 rfl ntmps92 results92 (by simp) ?_
 have hl:∀ C:Blk,s.le (s.new C):=fun C=>lN (lR _)
 unfold builtN at hR
 rcases (show a<1∨7<a∨a=1∨a=2∨a=3∨a=4∨a=5∨a=6∨a=7 by omega) with h|h|rfl|rfl|rfl|rfl|rfl|rfl|rfl
 ·rw[if_pos (.inl h)]at hR
  simp -implicitDefEqProofs only[↓Zd,(Zp),if_true,if_false,ne_eq,implies_true,forall_const,Nat.reduceEqDiff,reduceIte,reduceCtorEq,Int.reduceEq,Int.reduceNeg,Int.reduceLE,Int.reduceLT,Nat.reduceAdd,Nat.reduceLeDiff,Int.reduceToNat,Nat.reduceMul,Nat.reduceBEq,qP,Value.cells,cut,qC,cld2,(BBx),vA,rowWords,h,decide_true]
  exact hR _ _ (hl _)
 ·have h1:¬ a<1:=by omega
  rw[if_pos (.inr h)]at hR
  simp -implicitDefEqProofs only[↓Zd,(Zp),if_true,if_false,ne_eq,implies_true,forall_const,Nat.reduceEqDiff,reduceIte,reduceCtorEq,Int.reduceEq,Int.reduceNeg,Int.reduceLE,Int.reduceLT,Nat.reduceAdd,Nat.reduceLeDiff,Int.reduceToNat,Nat.reduceMul,Nat.reduceBEq,qP,Value.cells,cut,qC,cld2,(BBx),vA,rowWords,h,h1,decide_true,decide_false]
  exact hR _ _ (hl _)
 all_goals
  have w0:IntKind.i64.wrap (1 - 1)=0:=by decide
  have w1:IntKind.i64.wrap (2 - 1)=1:=by decide
  have w2:IntKind.i64.wrap (3 - 1)=2:=by decide
  have w3:IntKind.i64.wrap (4 - 1)=3:=by decide
  have w4:IntKind.i64.wrap (5 - 1)=4:=by decide
  have w5:IntKind.i64.wrap (6 - 1)=5:=by decide
  have w6:IntKind.i64.wrap (7 - 1)=6:=by decide
  have b0:(0:Int)<((7:Nat):Int):=by omega
  have b1:(1:Int)<((7:Nat):Int):=by omega
  have b2:(2:Int)<((7:Nat):Int):=by omega
  have b3:(3:Int)<((7:Nat):Int):=by omega
  have b4:(4:Int)<((7:Nat):Int):=by omega
  have b5:(5:Int)<((7:Nat):Int):=by omega
  have b6:(6:Int)<((7:Nat):Int):=by omega
  simp at hR
  simp -implicitDefEqProofs only[↓Zd,(Zp),if_true,if_false,ne_eq,implies_true,forall_const,Nat.reduceEqDiff,reduceIte,reduceCtorEq,Int.reduceEq,Int.reduceNeg,Int.reduceLE,Int.reduceLT,Nat.reduceAdd,Nat.reduceLeDiff,Int.reduceToNat,Nat.reduceMul,Nat.reduceBEq,qP,Value.cells,cut,qC,cld2,(BBx),vA,rowWords,b0,b1,b2,b3,b4,b5,b6,Int.toNat_zero,Int.toNat_one,List.getElem?_cons_zero,List.getElem?_cons_succ,w0,w1,w2,w3,w4,w5,w6,decide_true,decide_false]
  exact hR _ _ (hl _)
theorem reffect_spec{op a b:Int}(hR:∀ s' y,s.le s'→R (.tuple #[.int .i64 (effP op a),.int .i64 y]) s'):QC prog w0 32 #[.agg #[.int .i64 op,.int .i64 a,.int .i64 b]] s R:=by
 refine wfun2 hmix ok32 func32 rfl ntmps32 results32 (by simp) ?_
 have hl:s.le (s.new (.cells [.int .i64 op,.int .i64 a,.int .i64 b] 74 true)):=lN (lR _)
 have hX:∀ x y,effP op a=x→∀ s',s.le s'→R (.tuple #[.int .i64 x,.int .i64 y]) s':=fun x y e s' h=>by rw[← e];exact hR s' y h
 simp -implicitDefEqProofs only[↓Zd,(Zp),if_true,if_false,ne_eq,implies_true,forall_const,Nat.reduceEqDiff,reduceIte,reduceCtorEq,Int.reduceEq,Int.reduceNeg,Int.reduceLE,Int.reduceLT,Nat.reduceAdd,Nat.reduceLeDiff,Int.reduceToNat,Nat.reduceMul,Nat.reduceBEq,qP,Value.cells,cut,qC,cld2,(BBx),vA]
 repeat' (first|(refine c2_split (fun h=>?_) (fun h=>?_)<;>simp -implicitDefEqProofs only[↓Zd,(Zp),if_true,if_false,ne_eq,implies_true,forall_const,Nat.reduceEqDiff,reduceIte,reduceCtorEq,Int.reduceEq,Int.reduceNeg,Int.reduceLE,Int.reduceLT,Nat.reduceAdd,Nat.reduceLeDiff,Int.reduceToNat,Nat.reduceMul,Nat.reduceBEq,qP,Value.cells,cut,qC,cld2,(BBx),vA,co92])|(refine g3_split (fun h=>?_) (fun h=>?_)<;>simp -implicitDefEqProofs only[↓Zd,(Zp),if_true,if_false,ne_eq,implies_true,forall_const,Nat.reduceEqDiff,reduceIte,reduceCtorEq,Int.reduceEq,Int.reduceNeg,Int.reduceLE,Int.reduceLT,Nat.reduceAdd,Nat.reduceLeDiff,Int.reduceToNat,Nat.reduceMul,Nat.reduceBEq,qP,Value.cells,cut,qC,cld2,(BBx),vA,co92]))
 all_goals first
  |(simp only[Bool.not_true,Bool.not_false,decide_eq_true_eq,decide_eq_false_iff_not]at *
    subst_vars
    exact hX _ _ rfl _ hl)
  |(simp only[Bool.not_true,Bool.not_false,decide_eq_true_eq,decide_eq_false_iff_not]at *
    subst_vars
    refine hX _ _ ?_ _ hl
    simp[effP]
    omega)
  |(simp only[Bool.not_true,Bool.not_false,decide_eq_true_eq,decide_eq_false_iff_not]at *
    subst_vars
    rw[wrap_i64 (by omega)]
    refine hX _ _ ?_ _ hl
    simp[effP]
    omega)
  |(simp only[Bool.not_true,Bool.not_false,decide_eq_true_eq,decide_eq_false_iff_not]at *
    refine hX _ _ ?_ _ hl
    unfold effP
    (repeat' split)<;>omega)
  |(simp only[Bool.not_true,Bool.not_false,decide_eq_true_eq,decide_eq_false_iff_not]at *
    subst_vars
    refine rbuiltn_spec fun s2 x l2=>?_
    have h0:0≤builtN a:=by unfold builtN;(repeat' split)<;>omega
    have e1:effP 29 a=builtN a:=rfl
    by_cases h3:0<builtN a
    ·simp -implicitDefEqProofs only[↓Zd,(Zp),if_true,if_false,ne_eq,implies_true,forall_const,Nat.reduceEqDiff,reduceIte,reduceCtorEq,Int.reduceEq,Int.reduceNeg,Int.reduceLE,Int.reduceLT,Nat.reduceAdd,Nat.reduceLeDiff,Int.reduceToNat,Nat.reduceMul,Nat.reduceBEq,qP,Value.cells,cut,qC,cld2,(BBx),vA,h3,decide_true]
     exact hX _ _ e1 _ (lT hl l2)
    ·simp -implicitDefEqProofs only[↓Zd,(Zp),if_true,if_false,ne_eq,implies_true,forall_const,Nat.reduceEqDiff,reduceIte,reduceCtorEq,Int.reduceEq,Int.reduceNeg,Int.reduceLE,Int.reduceLT,Nat.reduceAdd,Nat.reduceLeDiff,Int.reduceToNat,Nat.reduceMul,Nat.reduceBEq,qP,Value.cells,cut,qC,cld2,(BBx),vA,h3,decide_false]
     exact hX _ _ (by omega) _ (lT hl l2))
theorem ceffect_spec{op a b:Int}(hR:∀ s' y,s.le s'→R (.tuple #[.int .i64 (effP op a),.int .i64 y]) s'):QC prog w0 86 #[.agg #[.int .i64 op,.int .i64 a,.int .i64 b]] s R:=by
 refine wfun2 hmix ok86 func86 rfl ntmps86 results86 (by simp) ?_
 have hl:s.le (s.new (.cells [.int .i64 op,.int .i64 a,.int .i64 b] 74 true)):=lN (lR _)
 have hX:∀ x y,effP op a=x→∀ s',s.le s'→R (.tuple #[.int .i64 x,.int .i64 y]) s':=fun x y e s' h=>by rw[← e];exact hR s' y h
 simp -implicitDefEqProofs only[↓Zd,(Zp),if_true,if_false,ne_eq,implies_true,forall_const,Nat.reduceEqDiff,reduceIte,reduceCtorEq,Int.reduceEq,Int.reduceNeg,Int.reduceLE,Int.reduceLT,Nat.reduceAdd,Nat.reduceLeDiff,Int.reduceToNat,Nat.reduceMul,Nat.reduceBEq,qP,Value.cells,cut,qC,cld2,(BBx),vA]
 repeat' (first|(refine c2_split (fun h=>?_) (fun h=>?_)<;>simp -implicitDefEqProofs only[↓Zd,(Zp),if_true,if_false,ne_eq,implies_true,forall_const,Nat.reduceEqDiff,reduceIte,reduceCtorEq,Int.reduceEq,Int.reduceNeg,Int.reduceLE,Int.reduceLT,Nat.reduceAdd,Nat.reduceLeDiff,Int.reduceToNat,Nat.reduceMul,Nat.reduceBEq,qP,Value.cells,cut,qC,cld2,(BBx),vA,co67])|(refine g3_split (fun h=>?_) (fun h=>?_)<;>simp -implicitDefEqProofs only[↓Zd,(Zp),if_true,if_false,ne_eq,implies_true,forall_const,Nat.reduceEqDiff,reduceIte,reduceCtorEq,Int.reduceEq,Int.reduceNeg,Int.reduceLE,Int.reduceLT,Nat.reduceAdd,Nat.reduceLeDiff,Int.reduceToNat,Nat.reduceMul,Nat.reduceBEq,qP,Value.cells,cut,qC,cld2,(BBx),vA,co67]))
 all_goals first
  |(simp only[Bool.not_true,Bool.not_false,decide_eq_true_eq,decide_eq_false_iff_not]at *
    subst_vars
    exact hX _ _ rfl _ hl)
  |(simp only[Bool.not_true,Bool.not_false,decide_eq_true_eq,decide_eq_false_iff_not]at *
    subst_vars
    refine hX _ _ ?_ _ hl
    simp[effP]
    omega)
  |(simp only[Bool.not_true,Bool.not_false,decide_eq_true_eq,decide_eq_false_iff_not]at *
    subst_vars
    rw[wrap_i64 (by omega)]
    refine hX _ _ ?_ _ hl
    simp[effP]
    omega)
  |(simp only[Bool.not_true,Bool.not_false,decide_eq_true_eq,decide_eq_false_iff_not]at *
    refine hX _ _ ?_ _ hl
    unfold effP
    (repeat' split)<;>omega)
  |(simp only[Bool.not_true,Bool.not_false,decide_eq_true_eq,decide_eq_false_iff_not]at *
    rcases (show op=26∨op=28 by omega) with e|e
    ·subst e
     rw[show (26:Int).tdiv 28=0 from rfl,show IntKind.i64.wrap 0=0 from rfl,wrap_i64 (n:=a+1) (by omega),wrap_i64 (by omega)]
     refine hX _ _ ?_ _ hl
     simp[effP]
     omega
    ·subst e
     rw[show (28:Int).tdiv 28=1 from rfl,show IntKind.i64.wrap 1=1 from rfl,wrap_i64 (n:=a+1) (by omega),wrap_i64 (by omega)]
     refine hX _ _ ?_ _ hl
     simp[effP]
     omega)
  |(simp only[Bool.not_true,Bool.not_false,decide_eq_true_eq,decide_eq_false_iff_not]at *
    subst_vars
    refine tbuilt_spec fun x hx=>?_
    have e1:effP 29 a=builtN a:=rfl
    by_cases h3:x=(⟨#[]⟩:ByteArray)
    ·simp -implicitDefEqProofs only[↓Zd,(Zp),if_true,if_false,ne_eq,implies_true,forall_const,Nat.reduceEqDiff,reduceIte,reduceCtorEq,Int.reduceEq,Int.reduceNeg,Int.reduceLE,Int.reduceLT,Nat.reduceAdd,Nat.reduceLeDiff,Int.reduceToNat,Nat.reduceMul,Nat.reduceBEq,qP,Value.cells,cut,qC,cld2,(BBx),vA,h3,decide_true]
     exact hX _ _ (by rw[e1];exact hx.1 h3) _ hl
    ·simp -implicitDefEqProofs only[↓Zd,(Zp),if_true,if_false,ne_eq,implies_true,forall_const,Nat.reduceEqDiff,reduceIte,reduceCtorEq,Int.reduceEq,Int.reduceNeg,Int.reduceLE,Int.reduceLT,Nat.reduceAdd,Nat.reduceLeDiff,Int.reduceToNat,Nat.reduceMul,Nat.reduceBEq,qP,Value.cells,cut,qC,cld2,(BBx),vA,h3,decide_false]
     exact hX _ _ e1 _ hl)
end
section
variable {lo q N p gb:Nat}{D:StD}{O:Nat→Prop}{ov tv:Value}
theorem sbuilt_spec{b o c:Nat}{op:Int}{l us:List (Int×Int×ByteArray)}{own:Bool}(h:StIn lo s q D N O p gb ov tv)(hlo:lo≤s.next)(hN:N+4≤1000000)(hl:(l.length:Int)=builtN op∨True)(hI:∀ v∈l,I64 v.2.1)(hl2:l.length≤100)
  (hbn:b<s.next)(hbo:¬ ownS q gb ov tv O b)(cb:s.at' b=some (.cells (us.flatMap val3) 31 own))(hu:∀ i,i<l.length→us[o+i]?=l[i]?)
  (hR:∀ s' O' tv' k m x,StIn lo s' q (builtS D op l) (N+4) O' p gb ov tv'→Upd s s' (ownS q gb ov tv O) (ownS q gb ov tv' O')→R (.tuple #[vA k m x,.bool (goesB (builtS D op l))]) s') :
  QC prog w0 16 #[.pointer (some ⟨q,0,none⟩),.int .i64 op,.slice (some ⟨b,o*3,none⟩) l.length c] s R:=by
 refine wfun2 hmix ok16 func16 rfl ntmps16 results16 (by simp) ?_
 have l1:s.le (s.new (.cells [.int .i64 0,.int .i64 0,.string ⟨#[]⟩] 31 true)):=lN (lR _)
 have h1:=h.le l1
 have u1:Upd s (s.new (.cells [.int .i64 0,.int .i64 0,.string ⟨#[]⟩] 31 true)) (ownS q gb ov tv O) (ownS q gb ov tv O) := .of_le l1
 have k1:(s.new (.cells [.int .i64 0,.int .i64 0,.string ⟨#[]⟩] 31 true)).at' s.next=some (.cells [.int .i64 0,.int .i64 0,.string ⟨#[]⟩] 31 true):=by rw[St.at_new,if_pos rfl]
 have kb:=(l1.2 b hbn).trans cb
 have n1:(s.new (.cells [.int .i64 0,.int .i64 0,.string ⟨#[]⟩] 31 true)).next=s.next+1:=rfl
 have hf:=h.fresh (c:=s.next) (Nat.le_refl _)
 have hlim:=h.num.lim
 simp -implicitDefEqProofs only[↓Zd,(Zp),Zr,simprocAttr,qP,Value.cells,cut,qC,cld2,(HEx),(TAx),vA,co26]
 generalize s.new (.cells [.int .i64 0,.int .i64 0,.string ⟨#[]⟩] 31 true)=s1 at l1 h1 u1 k1 kb n1 ⊢
 have fin:∀ {s2:St M}{O2:Nat→Prop}{tv2:Value}{N2:Nat}{D2:StD}(kk mm:Int) (xx:ByteArray),D2=builtS D op l→N2≤N+4→StIn lo s2 q D2 N2 O2 p gb ov tv2→Upd s s2 (ownS q gb ov tv O) (ownS q gb ov tv2 O2)→¬ ownS q gb ov tv2 O2 s.next→∀ B,R (.tuple #[vA kk mm xx,.bool (goesB D2)]) (s2.put s.next B):=fun {s2 O2 tv2 N2 D2} kk mm xx e hN2 h2 u2 f2 B=>by
  subst e
  obtain⟨g1,g2⟩:=(h2.mono hN2).loc (c:=s.next) (B:=B) u2 (Nat.le_refl _) f2
  exact hR _ _ _ kk mm xx g1 g2
 unfold vA at fin
 refine sover_spec h1 ?_
 cases hg:goesB D with
 |false =>
  have eD:D=builtS D op l:=by
   unfold builtS
   simp only[goes_need hg,goes_is hg,hg,Bool.false_eq_true,if_false,ite_self]
  simp -implicitDefEqProofs only[↓Zd,(Zp),Zr,simprocAttr,qP,Value.cells,cut,qC,cld2,(HEx),(TAx),vA,k1,bVal0]
  have:=fin (s2:=s1) (D2:=D) 0 0 ⟨#[]⟩ eD (by omega) h1 u1 hf
  rw[hg]at this
  exact this _
 |true =>
  simp -implicitDefEqProofs only[↓Zd,(Zp),Zr,simprocAttr,qP,Value.cells,cut,qC,cld2,(HEx),(TAx),vA,k1,underlying122,co67]
  refine tbuilt_spec fun x hx=>?_
  by_cases hbad:builtN op=0∨(l.length:Int)≠builtN op
  ·have eD:needS D 2=builtS D op l:=by unfold builtS;simp only;rw[if_pos hbad]
   by_cases hx0:x=(⟨#[]⟩:ByteArray)
   case' pos=>simp -implicitDefEqProofs only[↓Zd,(Zp),Zr,simprocAttr,qP,Value.cells,cut,qC,cld2,(HEx),(TAx),vA,k1,hx0,underlying122,bVal0,co63]
   case' neg =>
    have hne:¬ (l.length:Int)=builtN op:=by
     rcases hbad with h0|h0
     ·exact absurd (hx.2 h0) hx0
     ·exact h0
    simp -implicitDefEqProofs only[↓Zd,(Zp),Zr,simprocAttr,qP,Value.cells,cut,qC,cld2,(HEx),(TAx),vA,k1,hx0,hne,underlying122,bVal0,co63]
   all_goals
    refine smade2_spec h1 fun s2 a b2 y h2 u2=>?_
    obtain⟨f2,k2⟩:=u2.loc (c:=s.next) (by omega) hf
    have k2:=k2.trans k1
    unfold vA
    simp -implicitDefEqProofs only[↓Zd,(Zp),Zr,simprocAttr,qP,Value.cells,cut,qC,cld2,(HEx),(TAx),vA,k2]
    exact fin _ _ _ eD (by omega) h2 (u1.trans u2) f2 _
  ·have hb0:¬ builtN op=0:=fun e=>hbad (.inl e)
   have hlb:(l.length:Int)=builtN op:=Decidable.byContradiction fun e=>hbad (.inr e)
   have hx0:¬ x=(⟨#[]⟩:ByteArray):=fun e=>hb0 (hx.1 e)
   have hop:1≤op∧op≤7:=by
    unfold builtN at hb0
    split at hb0
    ·exact absurd rfl hb0
    ·omega
   have h0n:0<l.length:=by unfold builtN at hlb;(repeat' split at hlb)<;>omega
   have h0i:(0:Int)<(l.length:Int):=by omega
   obtain⟨v,hv⟩:∃ v,l[0]?=some v:=⟨_,List.getElem?_eq_getElem h0n⟩
   have hv0:us[o]?=some v:=by have:=hu 0 h0n;rw[Nat.add_zero]at this;rw[this,hv]
   have eV:l.getD 0 zV=v:=by rw[List.getD_eq_getElem?_getD,hv];rfl
   have eS:builtS D op l=(if op=6 then needS D (errOf (lenV v.1 v.2.2)) else if op=7 then needS D (errOf (textV v.1 v.2.1 v.2.2 D.l3)) else if goesB (isS D (decide (v.1=4)))=true then objS D op v (l.getD 1 zV) else isS D (decide (v.1=4))):=by
    unfold builtS
    simp only
    rw[if_neg hbad,eV]
   have hIv:I64 v.2.1:=hI v (List.mem_of_getElem? hv)
   obtain⟨k,m,y⟩:=v
   obtain⟨v1,v2,v3⟩:=val3_at hv0
   obtain⟨w1,w2⟩:=val3_cut hv0
   simp only at v1 v2 v3 w1 w2 eS hIv
   have h0b:(0:Int)<builtN op:=by omega
   by_cases h6:op=6
   ·rw[if_pos h6]at eS
    subst h6
    obtain⟨a,b2,z,e,hV⟩:=lenV_tup k y
    have he:errOf (lenV k y)=e:=by rw[hV];rfl
    rw[he]at eS
    unfold vA at hV
    simp -implicitDefEqProofs only[↓Zd,(Zp),Zr,simprocAttr,qP,Value.cells,cut,qC,cld2,(HEx),(TAx),vA,k1,hx0,hlb,kb,w1,w2,h0b,hb0,Nat.add_zero,Nat.zero_mul,underlying122,bVal0,co68,co63]
    refine len_spec fun s2 l2=>?_
    have h2:=h1.le l2
    have n2:=l2.1
    have k2:=(l2.2 s.next (by omega)).trans k1
    simp -implicitDefEqProofs only[↓Zd,(Zp),Zr,simprocAttr,qP,Value.cells,cut,qC,cld2,(HEx),(TAx),vA,hV,k2,hlb,h0b,co68,co63]
    refine smade2_spec h2 fun s3 a3 b3 y3 h3 u3=>?_
    obtain⟨f3,k3⟩:=u3.loc (c:=s.next) (by omega) hf
    have k3:=k3.trans k2
    unfold vA
    simp -implicitDefEqProofs only[↓Zd,(Zp),Zr,simprocAttr,qP,Value.cells,cut,qC,cld2,(HEx),(TAx),vA,k3]
    exact fin _ _ _ eS.symm (by omega) h3 ((u1.trans (.of_le l2)).trans u3) f3 _
   rw[if_neg h6]at eS
   by_cases h7:op=7
   ·rw[if_pos h7]at eS
    subst h7
    obtain⟨a,b2,z,e,hV⟩:=textV_tup k m y D.l3
    have he:errOf (textV k m y D.l3)=e:=by rw[hV];rfl
    rw[he]at eS
    unfold vA at hV
    have hb:=h1.bl
    unfold stC at hb
    simp -implicitDefEqProofs only[↓Zd,(Zp),Zr,simprocAttr,qP,Value.cells,cut,qC,cld2,(HEx),(TAx),vA,k1,hb,hx0,hlb,kb,w1,w2,h0b,hb0,Nat.add_zero,Nat.zero_add,Nat.zero_mul,underlying122,bVal0,co69,co63,ord16]
    refine otext_spec hIv fun s2 l2=>?_
    have h2:=h1.le l2
    have n2:=l2.1
    have k2:=(l2.2 s.next (by omega)).trans k1
    simp -implicitDefEqProofs only[↓Zd,(Zp),Zr,simprocAttr,qP,Value.cells,cut,qC,cld2,(HEx),(TAx),vA,hV,k2,hlb,h0b,co69,co63,ord16]
    refine smade2_spec h2 fun s3 a3 b3 y3 h3 u3=>?_
    obtain⟨f3,k3⟩:=u3.loc (c:=s.next) (by omega) hf
    have k3:=k3.trans k2
    unfold vA
    simp -implicitDefEqProofs only[↓Zd,(Zp),Zr,simprocAttr,qP,Value.cells,cut,qC,cld2,(HEx),(TAx),vA,k3,ord16]
    exact fin _ _ _ eS.symm (by omega) h3 ((u1.trans (.of_le l2)).trans u3) f3 _
   rw[if_neg h7]at eS
   by_cases hk:k=4
   ·subst hk
    have i1:isS D (decide ((4:Int)=4))=D:=rfl
    rw[i1,hg,if_pos rfl]at eS
    simp -implicitDefEqProofs only[↓Zd,(Zp),Zr,simprocAttr,qP,Value.cells,cut,qC,cld2,(HEx),(TAx),vA,k1,hx0,hlb,h6,h7,kb,v1,h0b,hb0,Nat.add_zero,Nat.zero_mul,underlying122,bVal0,co64]
    refine sis_spec h1 fun s2 h2 u2=>?_
    have i2:isS D true=D:=rfl
    rw[i2]at h2
    rw[i2,hg]
    obtain⟨f2,k2⟩:=u2.loc (c:=s.next) (by omega) hf
    have k2:=k2.trans k1
    have n2:=u2.next
    simp -implicitDefEqProofs only[↓Zd,(Zp),Zr,simprocAttr,qP,Value.cells,cut,qC,cld2,(HEx),(TAx),vA,k2,co64,co70]
    refine sobj_spec (a:=(4,m,y)) (a2:=l.getD 1 zV) (us:=us) (own:=own) h2 (by omega) hN (by omega) hlb.symm hIv (fun e=>?_) (by omega) hbo ((u2.keep b (by omega) hbo).trans kb) hv0 (fun e=>?_) hg fun s3 O3 tv3 kk mm xx h3 u3=>?_
    ·have:l[1]?=some l[1]:=List.getElem?_eq_getElem (by omega)
     rw[List.getD_eq_getElem?_getD,this]
     exact hI _ (List.mem_of_getElem? this)
    ·have:l[1]?=some l[1]:=List.getElem?_eq_getElem (by omega)
     rw[List.getD_eq_getElem?_getD,this,hu 1 (by omega),this]
     rfl
    ·obtain⟨f3,k3⟩:=u3.loc (c:=s.next) (by omega) f2
     have k3:=k3.trans k2
     unfold vA
     simp -implicitDefEqProofs only[↓Zd,(Zp),Zr,simprocAttr,qP,Value.cells,cut,qC,cld2,(HEx),(TAx),vA,k3,co70]
     exact fin _ _ _ eS.symm (by omega) h3 ((u1.trans u2).trans u3) f3 _
   ·have i1:isS D (decide (k=4))=isS D false:=by rw[decide_eq_false hk]
    rw[i1,goes_is30,if_neg Bool.false_ne_true]at eS
    simp -implicitDefEqProofs only[↓Zd,(Zp),Zr,simprocAttr,qP,Value.cells,cut,qC,cld2,(HEx),(TAx),vA,k1,hx0,hlb,h6,h7,hk,kb,v1,h0b,hb0,Nat.add_zero,Nat.zero_mul,underlying122,bVal0,co64]
    refine sis_spec h1 fun s2 h2 u2=>?_
    have i2:=goes_is30 (D:=D)
    rw[i2]
    obtain⟨f2,k2⟩:=u2.loc (c:=s.next) (by omega) hf
    have k2:=k2.trans k1
    simp -implicitDefEqProofs only[↓Zd,(Zp),Zr,simprocAttr,qP,Value.cells,cut,qC,cld2,(HEx),(TAx),vA,k2,bVal0,co64]
    have:=fin 0 0 ⟨#[]⟩ eS.symm (by omega) h2 (u1.trans u2) f2
    rw[i2]at this
    exact this _
end
end Go.Proofs.Tryz
section
namespace Go.Cs
section
variable {M:Type}[Mem M]{P:Program}{w0:World}{s:St M}{ev:Operand→Value}{d:Option Tmp}{ty t:TypeId}{pos:String}{af:Array Edge}{g:Option (Nat×Bool)}{K:Value→St M→Prop}{F:Value→St M→Option Value→Prop}{args:Array Operand}{ats:Array TypeId}
theorem p_min{args:Array Operand}{ats:Array TypeId}:wfop P ⟨d,.call ⟨.builtin .min,args,ats⟩,ty,pos,af,g⟩ ev s F=must (cbuiltin P .min ats ty (args.map ev)) fun v=>F v s none:=rfl
theorem p_max{args:Array Operand}{ats:Array TypeId}:wfop P ⟨d,.call ⟨.builtin .max,args,ats⟩,ty,pos,af,g⟩ ev s F=must (cbuiltin P .max ats ty (args.map ev)) fun v=>F v s none:=rfl
theorem q_min{ats:Array TypeId}{ty:TypeId}{k k2:IntKind}{a b:Int}:cbuiltin P .min ats ty #[.int k a,.int k2 b]=some (.int k (if b<a then b else a)):=rfl
theorem q_max{ats:Array TypeId}{ty:TypeId}{k k2:IntKind}{a b:Int}:cbuiltin P .max ats ty #[.int k a,.int k2 b]=some (.int k (if b>a then b else a)):=rfl
end
end Go.Cs
namespace Go.Proofs.Tryz
open Go.Cs
open Go.RowKit (Below)
set_option maxRecDepth 100000
attribute [local irreducible] QC WLoop WScope CRound WRange
theorem mkV0:cmks Tryz.prog 48 (.int .i64 ((0:Nat):Int)) (.int .i64 ((0:Nat):Int))=some (.cells ((List.replicate 0 ((0,0,⟨#[]⟩):Int×Int×ByteArray)).flatMap val3) 31 true,fun b => .slice (some ⟨b,0,none⟩) 0 0):=by kernel_rfl
theorem mkV1:cmks Tryz.prog 48 (.int .i64 ((1:Nat):Int)) (.int .i64 ((1:Nat):Int))=some (.cells ((List.replicate 1 ((0,0,⟨#[]⟩):Int×Int×ByteArray)).flatMap val3) 31 true,fun b => .slice (some ⟨b,0,none⟩) 1 1):=by kernel_rfl
theorem mkV2:cmks Tryz.prog 48 (.int .i64 ((2:Nat):Int)) (.int .i64 ((2:Nat):Int))=some (.cells ((List.replicate 2 ((0,0,⟨#[]⟩):Int×Int×ByteArray)).flatMap val3) 31 true,fun b => .slice (some ⟨b,0,none⟩) 2 2):=by kernel_rfl
theorem mkV3:cmks Tryz.prog 48 (.int .i64 ((3:Nat):Int)) (.int .i64 ((3:Nat):Int))=some (.cells ((List.replicate 3 ((0,0,⟨#[]⟩):Int×Int×ByteArray)).flatMap val3) 31 true,fun b => .slice (some ⟨b,0,none⟩) 3 3):=by kernel_rfl
theorem mkV4:cmks Tryz.prog 48 (.int .i64 ((4:Nat):Int)) (.int .i64 ((4:Nat):Int))=some (.cells ((List.replicate 4 ((0,0,⟨#[]⟩):Int×Int×ByteArray)).flatMap val3) 31 true,fun b => .slice (some ⟨b,0,none⟩) 4 4):=by kernel_rfl
theorem mkV5:cmks Tryz.prog 48 (.int .i64 ((5:Nat):Int)) (.int .i64 ((5:Nat):Int))=some (.cells ((List.replicate 5 ((0,0,⟨#[]⟩):Int×Int×ByteArray)).flatMap val3) 31 true,fun b => .slice (some ⟨b,0,none⟩) 5 5):=by kernel_rfl
theorem mkV6:cmks Tryz.prog 48 (.int .i64 ((6:Nat):Int)) (.int .i64 ((6:Nat):Int))=some (.cells ((List.replicate 6 ((0,0,⟨#[]⟩):Int×Int×ByteArray)).flatMap val3) 31 true,fun b => .slice (some ⟨b,0,none⟩) 6 6):=by kernel_rfl
theorem mkV7:cmks Tryz.prog 48 (.int .i64 ((7:Nat):Int)) (.int .i64 ((7:Nat):Int))=some (.cells ((List.replicate 7 ((0,0,⟨#[]⟩):Int×Int×ByteArray)).flatMap val3) 31 true,fun b => .slice (some ⟨b,0,none⟩) 7 7):=by kernel_rfl
theorem mkV8:cmks Tryz.prog 48 (.int .i64 ((8:Nat):Int)) (.int .i64 ((8:Nat):Int))=some (.cells ((List.replicate 8 ((0,0,⟨#[]⟩):Int×Int×ByteArray)).flatMap val3) 31 true,fun b => .slice (some ⟨b,0,none⟩) 8 8):=by kernel_rfl
theorem mkV9:cmks Tryz.prog 48 (.int .i64 ((9:Nat):Int)) (.int .i64 ((9:Nat):Int))=some (.cells ((List.replicate 9 ((0,0,⟨#[]⟩):Int×Int×ByteArray)).flatMap val3) 31 true,fun b => .slice (some ⟨b,0,none⟩) 9 9):=by kernel_rfl
theorem mkV10:cmks Tryz.prog 48 (.int .i64 ((10:Nat):Int)) (.int .i64 ((10:Nat):Int))=some (.cells ((List.replicate 10 ((0,0,⟨#[]⟩):Int×Int×ByteArray)).flatMap val3) 31 true,fun b => .slice (some ⟨b,0,none⟩) 10 10):=by kernel_rfl
theorem mkV11:cmks Tryz.prog 48 (.int .i64 ((11:Nat):Int)) (.int .i64 ((11:Nat):Int))=some (.cells ((List.replicate 11 ((0,0,⟨#[]⟩):Int×Int×ByteArray)).flatMap val3) 31 true,fun b => .slice (some ⟨b,0,none⟩) 11 11):=by kernel_rfl
theorem mkV12:cmks Tryz.prog 48 (.int .i64 ((12:Nat):Int)) (.int .i64 ((12:Nat):Int))=some (.cells ((List.replicate 12 ((0,0,⟨#[]⟩):Int×Int×ByteArray)).flatMap val3) 31 true,fun b => .slice (some ⟨b,0,none⟩) 12 12):=by kernel_rfl
theorem mkV13:cmks Tryz.prog 48 (.int .i64 ((13:Nat):Int)) (.int .i64 ((13:Nat):Int))=some (.cells ((List.replicate 13 ((0,0,⟨#[]⟩):Int×Int×ByteArray)).flatMap val3) 31 true,fun b => .slice (some ⟨b,0,none⟩) 13 13):=by kernel_rfl
theorem mkV14:cmks Tryz.prog 48 (.int .i64 ((14:Nat):Int)) (.int .i64 ((14:Nat):Int))=some (.cells ((List.replicate 14 ((0,0,⟨#[]⟩):Int×Int×ByteArray)).flatMap val3) 31 true,fun b => .slice (some ⟨b,0,none⟩) 14 14):=by kernel_rfl
theorem mkV15:cmks Tryz.prog 48 (.int .i64 ((15:Nat):Int)) (.int .i64 ((15:Nat):Int))=some (.cells ((List.replicate 15 ((0,0,⟨#[]⟩):Int×Int×ByteArray)).flatMap val3) 31 true,fun b => .slice (some ⟨b,0,none⟩) 15 15):=by kernel_rfl
theorem mkV16:cmks Tryz.prog 48 (.int .i64 ((16:Nat):Int)) (.int .i64 ((16:Nat):Int))=some (.cells ((List.replicate 16 ((0,0,⟨#[]⟩):Int×Int×ByteArray)).flatMap val3) 31 true,fun b => .slice (some ⟨b,0,none⟩) 16 16):=by kernel_rfl
theorem mkV17:cmks Tryz.prog 48 (.int .i64 ((17:Nat):Int)) (.int .i64 ((17:Nat):Int))=some (.cells ((List.replicate 17 ((0,0,⟨#[]⟩):Int×Int×ByteArray)).flatMap val3) 31 true,fun b => .slice (some ⟨b,0,none⟩) 17 17):=by kernel_rfl
theorem mkV18:cmks Tryz.prog 48 (.int .i64 ((18:Nat):Int)) (.int .i64 ((18:Nat):Int))=some (.cells ((List.replicate 18 ((0,0,⟨#[]⟩):Int×Int×ByteArray)).flatMap val3) 31 true,fun b => .slice (some ⟨b,0,none⟩) 18 18):=by kernel_rfl
theorem mkV19:cmks Tryz.prog 48 (.int .i64 ((19:Nat):Int)) (.int .i64 ((19:Nat):Int))=some (.cells ((List.replicate 19 ((0,0,⟨#[]⟩):Int×Int×ByteArray)).flatMap val3) 31 true,fun b => .slice (some ⟨b,0,none⟩) 19 19):=by kernel_rfl
theorem mkV20:cmks Tryz.prog 48 (.int .i64 ((20:Nat):Int)) (.int .i64 ((20:Nat):Int))=some (.cells ((List.replicate 20 ((0,0,⟨#[]⟩):Int×Int×ByteArray)).flatMap val3) 31 true,fun b => .slice (some ⟨b,0,none⟩) 20 20):=by kernel_rfl
theorem mkV21:cmks Tryz.prog 48 (.int .i64 ((21:Nat):Int)) (.int .i64 ((21:Nat):Int))=some (.cells ((List.replicate 21 ((0,0,⟨#[]⟩):Int×Int×ByteArray)).flatMap val3) 31 true,fun b => .slice (some ⟨b,0,none⟩) 21 21):=by kernel_rfl
theorem mkV22:cmks Tryz.prog 48 (.int .i64 ((22:Nat):Int)) (.int .i64 ((22:Nat):Int))=some (.cells ((List.replicate 22 ((0,0,⟨#[]⟩):Int×Int×ByteArray)).flatMap val3) 31 true,fun b => .slice (some ⟨b,0,none⟩) 22 22):=by kernel_rfl
theorem mkV23:cmks Tryz.prog 48 (.int .i64 ((23:Nat):Int)) (.int .i64 ((23:Nat):Int))=some (.cells ((List.replicate 23 ((0,0,⟨#[]⟩):Int×Int×ByteArray)).flatMap val3) 31 true,fun b => .slice (some ⟨b,0,none⟩) 23 23):=by kernel_rfl
theorem mkV24:cmks Tryz.prog 48 (.int .i64 ((24:Nat):Int)) (.int .i64 ((24:Nat):Int))=some (.cells ((List.replicate 24 ((0,0,⟨#[]⟩):Int×Int×ByteArray)).flatMap val3) 31 true,fun b => .slice (some ⟨b,0,none⟩) 24 24):=by kernel_rfl
theorem mkVals(n:Nat)(hn:n≤24):cmks Tryz.prog 48 (.int .i64 (n:Int)) (.int .i64 (n:Int))=some (.cells ((List.replicate n ((0,0,⟨#[]⟩):Int×Int×ByteArray)).flatMap val3) 31 true,fun b => .slice (some ⟨b,0,none⟩) n n):=by
 match n,hn with
 |0,_=>exact mkV0
 |1,_=>exact mkV1
 |2,_=>exact mkV2
 |3,_=>exact mkV3
 |4,_=>exact mkV4
 |5,_=>exact mkV5
 |6,_=>exact mkV6
 |7,_=>exact mkV7
 |8,_=>exact mkV8
 |9,_=>exact mkV9
 |10,_=>exact mkV10
 |11,_=>exact mkV11
 |12,_=>exact mkV12
 |13,_=>exact mkV13
 |14,_=>exact mkV14
 |15,_=>exact mkV15
 |16,_=>exact mkV16
 |17,_=>exact mkV17
 |18,_=>exact mkV18
 |19,_=>exact mkV19
 |20,_=>exact mkV20
 |21,_=>exact mkV21
 |22,_=>exact mkV22
 |23,_=>exact mkV23
 |24,_=>exact mkV24
 |n+25,h=>exact absurd h (by omega)
def AAt{M:Type}[Mem M](s:St M)(aad:Option Addr)(A:List (Int×Int×ByteArray))(acp:Nat):Prop:=
 (aad=none∧A=[]∧acp=0)∨∃ (j:Nat) (us:List (Int×Int×ByteArray)),aad=some ⟨j,0,none⟩∧j<s.next∧s.at' j=some (.cells (us.flatMap val3) 31 false)∧∀ k,k<A.length→us[k]?=A[k]?
theorem val3_len:∀ l:List (Int×Int×ByteArray),(l.flatMap val3).length=l.length*3:=by
 intro l
 induction l with
 |nil=>rfl
 |cons y l ih=>rw[List.flatMap_cons,List.length_append,ih,List.length_cons];show 3+_=_;omega
theorem val3_take:∀ (k:Nat) (l:List (Int×Int×ByteArray)),(l.flatMap val3).take (k*3)=(l.take k).flatMap val3:=by
 intro k
 induction k with
 |zero=>intro l;simp
 |succ k ih =>
  intro l
  cases l with
  |nil=>simp
  |cons y l =>
   rw[List.flatMap_cons,show (k+1)*3=3+k*3 by omega,List.take_append,List.take_of_length_le (by show 3≤3+k*3;omega)]
   rw[show 3+k*3 - (val3 y).length=k*3 by show 3+k*3 - 3=_;omega,ih]
   rfl
theorem val3_ok(l:List (Int×Int×ByteArray)):(l.flatMap val3).all qC=true:=by
 rw[List.all_eq_true]
 intro v hv
 obtain⟨y,_,hy⟩:=List.mem_flatMap.1 hv
 simp only[val3,List.mem_cons,List.not_mem_nil,or_false]at hy
 rcases hy with rfl|rfl|rfl<;>rfl
section
variable {M:Type}[Mem M]{w0:World}{s:St M}{R:Value→St M→Prop}{g:Int}{pl cl:Option Addr}{cpp ccp:Nat}{pool:List ByteArray}{C:List CodeV}
end
end Go.Proofs.Tryz
end
namespace Go.Proofs.Tryz
open Go.Cs
open Go.RowKit (Below)
set_option maxRecDepth 100000
attribute [local irreducible] QC WLoop WScope CRound WRange
set_option maxHeartbeats 32000000
variable {M:Type}[Mem M]{w0:World}{s:St M}{R:Value→St M→Prop}
def cl(x m:Int):Int:=max 0 (min x m)
def newD(g f a b c d n:Int):StD:={ H:=newH (cl a 200) (cl c 32) n,g:=List.replicate (cl g 24).toNat zV,l0:=cl a 200,l1:=cl b 50,l2:=cl c 32,l3:=cl d 256,fuel:=cl f 1048576,taken:=0,depth:=0,out:=[],tch:=[],kind:=0,err:=0,vk:=0,vn:=0,vx:=⟨#[]⟩ }
theorem newD_num(g f a b c d n:Int):StN (newD g f a b c d n) 32:=by
 refine⟨?_,?_,?_,by show 0≤32;omega,by show 0≤32;omega,?_,Nat.le_refl _⟩
 ·show 0≤(0:Int)∧0≤cl f 1048576∧cl f 1048576≤1048576
  unfold cl;omega
 ·show 0≤(0:Int)∧(0:Int)≤1000000;omega
 ·show 0≤cl b 50∧cl b 50≤1000000∧0≤cl d 256∧cl d 256≤1000000
  unfold cl;omega
 ·show (List.replicate (cl g 24).toNat zV).length≤24
  rw[List.length_replicate];unfold cl;omega
theorem bLim(a b c d:Int):cbuild prog 24 #[(0,.int .i64 a),(1,.int .i64 b),(2,.int .i64 c),(3,.int .i64 d)]=some (.agg #[.int .i64 a,.int .i64 b,.int .i64 c,.int .i64 d]):=by kernel_rfl
theorem bState(p gb m:Nat)(a b c d f:Int):cbuild prog 90 #[(0,.pointer (some ⟨p,0,none⟩)),(1,.pointer none),(2,.agg #[.int .i64 a,.int .i64 b,.int .i64 c,.int .i64 d]),(3,.slice (some ⟨gb,0,none⟩) m m),(4,.int .i64 f)] =
  some (.agg #[.pointer (some ⟨p,0,none⟩),.pointer none,.int .i64 a,.int .i64 b,.int .i64 c,.int .i64 d,.slice (some ⟨gb,0,none⟩) m m,.int .i64 f,.int .i64 0,.int .i64 0,.slice none 0 0,.slice none 0 0,.int .i64 0,.int .i64 0,.int .i64 0,.int .i64 0,.string ⟨#[]⟩]):=by kernel_rfl
section
variable {lo q N p gb:Nat}{D:StD}{O:Nat→Prop}{ov tv:Value}
theorem wbetween_spec{a b:Int}(h:R (.int .i64 (cl a b)) s):QC prog w0 93 #[.int .i64 a,.int .i64 b] s R:=by
 refine wfun2 hmix ok93 func93 rfl ntmps93 results93 (by simp) ?_
 have hmx:(if (if b<a then b else a)>0 then (if b<a then b else a) else 0)=cl a b:=by unfold cl;omega
 simp -implicitDefEqProofs only[↓Zd,(Zp),Zr,simprocAttr,qP,Value.cells,cut,qC,cld2,(HEx),(TAx),vA,o_min,o_max,bi_min,bi_max,hmx]
 exact h
theorem sbetween_spec{a b:Int}(h:R (.int .i64 (cl a b)) s):QC prog w0 35 #[.int .i64 a,.int .i64 b] s R:=by
 refine wfun2 hmix ok35 func35 rfl ntmps35 results35 (by simp) ?_
 have hmx:(if (if b<a then b else a)>0 then (if b<a then b else a) else 0)=cl a b:=by unfold cl;omega
 simp -implicitDefEqProofs only[↓Zd,(Zp),Zr,simprocAttr,qP,Value.cells,cut,qC,cld2,(HEx),(TAx),vA,o_min,o_max,bi_min,bi_max,hmx]
 exact h
theorem wcut_spec{a b c d:Int}(h:∀ s',s.le s'→R (.agg #[.int .i64 (cl a 200),.int .i64 (cl b 50),.int .i64 (cl c 32),.int .i64 (cl d 256)]) s'):QC prog w0 33 #[.agg #[.int .i64 a,.int .i64 b,.int .i64 c,.int .i64 d]] s R:=by
 refine wfun2 hmix ok33 func33 rfl ntmps33 results33 (by simp) ?_
 have hz:=ze24
 simp -implicitDefEqProofs only[↓Zd,(Zp),Zr,simprocAttr,qP,Value.cells,cut,qC,cld2,(HEx),(TAx),vA,hz,co93,ord33]
 refine wbetween_spec ?_
 simp -implicitDefEqProofs only[↓Zd,(Zp),Zr,simprocAttr,qP,Value.cells,cut,qC,cld2,(HEx),(TAx),vA,hz,co93,ord33]
 refine wbetween_spec ?_
 simp -implicitDefEqProofs only[↓Zd,(Zp),Zr,simprocAttr,qP,Value.cells,cut,qC,cld2,(HEx),(TAx),vA,hz,co93,ord33]
 refine wbetween_spec ?_
 simp -implicitDefEqProofs only[↓Zd,(Zp),Zr,simprocAttr,qP,Value.cells,cut,qC,cld2,(HEx),(TAx),vA,hz,co93,ord33]
 refine wbetween_spec ?_
 simp -implicitDefEqProofs only[↓Zd,(Zp),Zr,simprocAttr,qP,Value.cells,cut,qC,cld2,(HEx),(TAx),vA,hz,bLim,co93,ord33]
 exact h _ (by repeat (first|exact lR _|assumption|refine lN ?_|refine lP ?_ (by first|omega|(simp only[(Sn)];omega))|refine lT ?_ (by assumption)))
theorem snew_spec{g f a b c d n:Int}(hR:∀ lo s' q p gb O,s.next≤lo→lo≤s'.next→StIn lo s' q (newD g f a b c d n) 32 O p gb (.slice none 0 0) (.slice none 0 0)→s.le s'→R (.pointer (some ⟨q,0,none⟩)) s') :
  QC prog w0 5 #[.int .i64 g,.int .i64 f,.agg #[.int .i64 a,.int .i64 b,.int .i64 c,.int .i64 d],.int .i64 n,.pointer none] s R:=by
 refine wfun2 hmix ok5 func5 rfl ntmps5 results5 (by simp) ?_
 have l1:s.le (s.new (.cells [.int .i64 a,.int .i64 b,.int .i64 c,.int .i64 d] 24 true)):=lN (lR _)
 have k1:(s.new (.cells [.int .i64 a,.int .i64 b,.int .i64 c,.int .i64 d] 24 true)).at' s.next=some (.cells [.int .i64 a,.int .i64 b,.int .i64 c,.int .i64 d] 24 true):=by rw[St.at_new,if_pos rfl]
 have n1:(s.new (.cells [.int .i64 a,.int .i64 b,.int .i64 c,.int .i64 d] 24 true)).next=s.next+1:=rfl
 simp -implicitDefEqProofs only[↓Zd,(Zp),Zr,simprocAttr,qP,Value.cells,cut,qC,cld2,(HEx),(TAx),vA,co33]
 generalize s.new (.cells [.int .i64 a,.int .i64 b,.int .i64 c,.int .i64 d] 24 true)=s1 at l1 k1 n1 ⊢
 refine wcut_spec fun s2 l2=>?_
 have n2:=l2.1
 have k2:=(l2.2 s.next (by omega)).trans k1
 simp -implicitDefEqProofs only[↓Zd,(Zp),Zr,simprocAttr,qP,Value.cells,cut,qC,cld2,(HEx),(TAx),vA,k2,co33,co34,co35,ord5]
 have l3:s2.le (s2.put s.next (.cells [.int .i64 (cl a 200),.int .i64 (cl b 50),.int .i64 (cl c 32),.int .i64 (cl d 256)] 24 true))∨True := .inr trivial
 have hk3:∀ e,e<s.next→(s2.put s.next (.cells [.int .i64 (cl a 200),.int .i64 (cl b 50),.int .i64 (cl c 32),.int .i64 (cl d 256)] 24 true)).at' e=s.at' e:=fun e he=>by
  rw[St.at_put,if_neg (by omega),l2.2 e (by omega),l1.2 e he]
 have k3:(s2.put s.next (.cells [.int .i64 (cl a 200),.int .i64 (cl b 50),.int .i64 (cl c 32),.int .i64 (cl d 256)] 24 true)).at' s.next=some (.cells [.int .i64 (cl a 200),.int .i64 (cl b 50),.int .i64 (cl c 32),.int .i64 (cl d 256)] 24 true):=by rw[St.at_put,if_pos rfl]
 have n3:(s2.put s.next (.cells [.int .i64 (cl a 200),.int .i64 (cl b 50),.int .i64 (cl c 32),.int .i64 (cl d 256)] 24 true)).next=s2.next:=rfl
 generalize s2.put s.next (.cells [.int .i64 (cl a 200),.int .i64 (cl b 50),.int .i64 (cl c 32),.int .i64 (cl d 256)] 24 true)=s3 at hk3 k3 n3 ⊢
 refine hnew_spec fun s4 p h4 l4=>?_
 have n4:=l4.1
 have k4:=(l4.2 s.next (by omega)).trans k3
 obtain⟨m,hm⟩:∃ m:Nat,cl g 24=(m:Int):=⟨(cl g 24).toNat,by unfold cl;omega⟩
 have hm24:m≤24:=by unfold cl at hm;omega
 have hsn:¬ s.next=s4.next:=by omega
 simp -implicitDefEqProofs only[↓Zd,(Zp),Zr,simprocAttr,qP,Value.cells,cut,qC,cld2,(HEx),(TAx),vA,k4,co34,co35,ord5]
 refine sbetween_spec ?_
 rw[hm]
 simp -implicitDefEqProofs only[↓Zd,(Zp),Zr,simprocAttr,qP,Value.cells,cut,qC,cld2,(HEx),(TAx),vA,k4,hsn,mkVals m hm24,↓o_mks,↓f_mks,co34,co35,ord5]
 refine sbetween_spec ?_
 simp -implicitDefEqProofs only[↓Zd,(Zp),Zr,simprocAttr,qP,Value.cells,cut,qC,cld2,(HEx),(TAx),vA,k4,hsn,mkVals m hm24,bState,↓o_mks,↓f_mks,co34,co35,ord5]
 have hO:∀ e,(s3.next≤e∧e<s4.next)→e<s4.next:=fun e he=>he.2
 refine hR s3.next _ (s4.next+1) p s4.next (fun e=>s3.next≤e∧e<s4.next) (by omega) ?zm ⟨?zA,?zB,newD_num _ _ _ _ _ _ _,⟨by omega,?zn,by omega⟩,⟨by omega,?zo,by omega,by omega⟩,?zC,.inl ⟨rfl,rfl,rfl⟩,.inl ⟨rfl,rfl,rfl⟩,(fun e he=>by cases he),(fun e he=>by cases he)⟩ ?zD
 case zm=>simp only[St.next_new];omega
 case zn=>simp only[St.next_new];omega
 case zo=>simp only[St.next_new];omega
 ·exact (h4.le (lN (lN (lR _)))).mono (by omega)
 ·rw[St.at_new,if_pos (by simp only[St.next_new])]
  unfold stC newD
  simp only[List.length_replicate,hm,Int.toNat_natCast]
 ·rw[St.at_new,if_neg (by simp only[St.next_new];omega),St.at_new,if_pos rfl]
  unfold newD
  simp only[hm,Int.toNat_natCast]
  rfl
 ·refine⟨by simp only[St.next_new];omega,fun e he=>?_⟩
  rw[St.at_new,if_neg (by simp only[St.next_new];omega),St.at_new,if_neg (by omega),l4.2 e (by omega),hk3 e he]
end
def TBx:=(And.intro (And.intro (And.intro (And.intro (And.intro @underlying68 @sz68) (And.intro @is68 @ce68)) (And.intro (And.intro @ag68 @ze68) (And.intro @nt68 @nn68))) (And.intro (And.intro (And.intro @nf68 @ng68) (And.intro @underlying66 @sz66)) (And.intro (And.intro @is66 @ce66) (And.intro @ag66 (And.intro @ze66 @fa66x0))))) (And.intro (And.intro (And.intro (And.intro @fa66x1 @fa66x2) (And.intro @fa66x3 @underlying137)) (And.intro (And.intro @sz137 @is137) (And.intro @ce137 (And.intro @ag137 @underlying141)))) (And.intro (And.intro (And.intro @sz141 @is141) (And.intro @ce141 @ag141)) (And.intro (And.intro @underlying75 @sz75) (And.intro @is75 (And.intro @ce75 @ag75))))))
theorem rowV1(a b:Int)(x:ByteArray):crow prog 48 1 #[(0,.agg #[.int .i64 a,.int .i64 b,.string x])]=some (.cells [.int .i64 a,.int .i64 b,.string x] 31 true):=by kernel_rfl
theorem vnil(a:Addr)(n c:Nat)(x y:Operand):cbin prog .eql 48 x y (.slice (some a) n c) (.slice none 0 0)=some (.bool false):=by kernel_rfl
theorem rowV0:crow prog 48 0 #[]=some (.cells [] 31 true):=by kernel_rfl
theorem infoV:∃ ie,prog.info? 31=some ie∧ie.size=3∧ie.bytes=32:=by
 obtain⟨ie,h⟩:=Option.isSome_iff_exists.1 is31
 have h1:=ce31
 have h2:prog.bytesOf 31=32:=by kernel_rfl
 rw[cellsOf_info h]at h1
 simp only[Program.bytesOf,h]at h2
 exact⟨ie,h,h1,h2⟩
section
theorem app_cap{b n o k:Nat}{cs new:List Value}{own:Bool}{v:Value}(hb:s.at' b=some (.cells cs 31 own))(hn:o+n*3≤cs.length)(hn2:n+k≤1000000)(hk:k≠0)(hv:cmore 3 v s=some (k,new))(hok:new.all qC=true) :
  capp prog #[48,48] #[.slice (some ⟨b,o,none⟩) n n,v] s=some (.slice (some ⟨s.next,0,none⟩) (n+k) UNK,s.new (.cells ((cs.drop o).take (n*3)++new) 31 true)):=by
 obtain⟨ie,hie,h1,h2⟩:=infoV
 have hz:=ze31
 have hU:¬ n=UNK:=by unfold UNK;omega
 have hne:¬ n+k≤n:=by omega
 have hcut:cut cs o (n*3)=some ((cs.drop o).take (n*3)):=by unfold cut;rw[if_pos hn]
 unfold capp
 simp only[List.getElem?_toArray,List.getElem?_cons_zero,List.getElem?_cons_succ,Option.bind_some,underlying48,hie,h1,hv,hok,Bool.true_eq_false,if_false,hU,hne,hb,hcut]
 unfold cgrow
 rw[hz]
 simp only[h1]
 rw[if_pos ⟨rfl,by rw[h2];omega,by rw[h2];omega⟩]
theorem lay_spec{qf sb n c:Nat}{f pc tk tn a d:Int}{tx x:ByteArray}{va:Value}{cs:List Value}{own:Bool}(hf:s.at' qf=some (.cells [.int .i64 f,.int .i64 pc,va,.slice (some ⟨sb,0,none⟩) n c,.int .i64 tk,.int .i64 tn,.string tx] 62 true))(hqf:qf<s.next)(hsb:sb<s.next)
  (hs:s.at' sb=some (.cells cs 31 own))(hn:n*3≤cs.length)(hn2:n≤1000)(hc:c=UNK∨(c=n∧n≤1000))
  (hR:∀ s' b cs',s'.at' qf=some (.cells [.int .i64 f,.int .i64 pc,va,.slice (some ⟨b,0,none⟩) (n+1) UNK,.int .i64 tk,.int .i64 tn,.string tx] 62 true)→s.next≤s'.next→(∀ c,c<s.next→c≠qf→s'.at' c=s.at' c)→s.next≤b→b<s'.next→s'.at' b=some (.cells cs' 31 true)→(n+1)*3≤cs'.length→R (.tuple #[]) s') :
  QC prog w0 90 #[.pointer (some ⟨qf,0,none⟩),vA a d x] s R:=by
 refine wfun2 hmix ok90 func90 rfl ntmps90 results90 (by simp) ?_
 have hq1:¬ qf=s.next:=by omega
 have hq2:¬ qf=s.next+1:=by omega
 have hq3:¬ qf=s.next+2:=by omega
 have hs1:¬ sb=s.next:=by omega
 have hs2:¬ sb=s.next+1:=by omega
 have hsl:cslice prog 48 (.slice (some ⟨sb,0,none⟩) n c) none (some (.int .i64 (n:Int))) (some (.int .i64 (n:Int)))=some (.slice (some ⟨sb,0,none⟩) n n):=by
  obtain⟨ie,h1⟩:=Option.isSome_iff_exists.1 is31
  have hne:¬ n=UNK:=by unfold UNK;omega
  have hb:(0:Int)≤(n:Int)∧(n:Int)≤((n:Nat):Int):=by omega
  have hnU:n<UNK:=by unfold UNK;omega
  rcases hc with rfl|⟨rfl,_⟩
  ·unfold cslice
   simp only[underlying48,h1,cbound,if_true,Option.isSome_some,Option.isNone_some,Bool.and_false,Bool.false_and,Bool.false_eq_true,if_false,hb,and_self,Int.toNat_natCast,hnU,Nat.zero_mul,addr_add_zero,ite_self,Nat.sub_zero]
  ·unfold cslice
   simp only[underlying48,h1,cbound,hne,if_true,Option.isSome_some,Option.isNone_some,Bool.and_false,Bool.false_and,Bool.false_eq_true,if_false,hb,and_self,Int.toNat_natCast,hnU,Nat.zero_mul,addr_add_zero,ite_self,Nat.sub_zero]
 have happ:=app_cap (s:=(s.new (.cells [.int .i64 a,.int .i64 d,.string x] 31 true)).new (.cells [.int .i64 a,.int .i64 d,.string x] 31 true)) (b:=sb) (n:=n) (o:=0) (k:=1) (cs:=cs) (own:=own) (v := .slice (some ⟨s.next+1,0,none⟩) 1 1) (new:=[.int .i64 a,.int .i64 d,.string x]) (by rw[St.at_new,if_neg (by simp only[St.next_new];omega),St.at_new,if_neg (by omega)];exact hs) (by omega) (by omega) (by omega) (by simp only[more_at,St.at_new,St.next_new,if_true,more2];rfl) rfl
 rw[show ((s.new (.cells [.int .i64 a,.int .i64 d,.string x] 31 true)).new (.cells [.int .i64 a,.int .i64 d,.string x] 31 true)).next=s.next+2 from rfl]at happ
 simp -implicitDefEqProofs only[↓Zd,(Zp),Zr,simprocAttr,qP,Value.cells,cut,qC,cld2,(HEx),(TAx),(BBx),(TBx),vA,hf,hq1,hq2,hq3,hsl,rowV1,happ,sz48,ord90]
 refine hR _ (s.next+2) ((cs.drop 0).take (n*3) ++ [.int .i64 a,.int .i64 d,.string x]) ?_ ?_ (fun c hc hc2=>?_) (by omega) ?_ ?_ ?_
 ·rw[St.at_put,if_pos rfl]
 ·simp only[(Sn)];omega
 ·rw[St.at_put,if_neg hc2,St.at_new,if_neg (by simp only[St.next_new];omega),St.at_new,if_neg (by simp only[St.next_new];omega),St.at_new,if_neg (by omega)]
 ·simp only[(Sn)];omega
 ·rw[St.at_put,if_neg (by omega),St.at_new,if_pos (by simp only[St.next_new])]
  rfl
 ·rw[List.length_append,List.length_take,List.drop_zero]
  show (n+1)*3≤min (n*3) cs.length+3
  omega
theorem clone_spec{b o n c:Nat}{cs:List Value}{own:Bool}(hb:s.at' b=some (.cells cs 31 own))(hbn:b<s.next)(hn:o+n*3≤cs.length)(hn2:n≤1000)(hok:cs.all qC=true)
  (hR:∀ s' a m c,s.le s'→R (.slice a m c) s'):QC prog w0 88 #[.slice (some ⟨b,o,none⟩) n c] s R:=by
 refine wfun2 hmix ok88 func88 rfl ntmps88 results88 (by simp) ?_
 have l1:s.le (s.new (.cells [] 31 true)):=lN (lR _)
 have hm:cmore 3 (.slice (some ⟨b,o,none⟩) n c) (s.new (.cells [] 31 true))=some (n,(cs.drop o).take (n*3)):=by
  have hcut:cut cs o (n*3)=some ((cs.drop o).take (n*3)):=by unfold cut;rw[if_pos hn]
  simp only[more_at,St.at_new,(show ¬ b=s.next by omega),if_false,hb,more2,hcut,Option.map_some]
 by_cases h0:n=0
 ·subst h0
  obtain⟨ie,hie,h1,h2⟩:=infoV
  have happ:capp prog #[48,48] #[.slice (some ⟨s.next,0,none⟩) 0 0,.slice (some ⟨b,o,none⟩) 0 c] (s.new (.cells [] 31 true))=some (.slice (some ⟨s.next,0,none⟩) 0 0,s.new (.cells [] 31 true)):=by
   have hU:¬ 0=UNK:=by unfold UNK;omega
   unfold capp
   simp only[List.getElem?_toArray,List.getElem?_cons_zero,List.getElem?_cons_succ,Option.bind_some,underlying48,hie,h1,hm,Nat.zero_mul,List.take_zero,List.all_nil,Bool.true_eq_false,if_false,if_true,hU,Nat.add_zero,Nat.le_refl]
  simp -implicitDefEqProofs only[↓Zd,(Zp),Zr,simprocAttr,qP,Value.cells,cut,qC,cld2,(HEx),(TAx),(BBx),(TBx),vA,rowV0,vnil,happ]
  exact hR _ _ _ _ l1
 ·have happ:=app_cap (s:=s.new (.cells [] 31 true)) (b:=s.next) (n:=0) (o:=0) (k:=n) (cs:=[]) (own:=true) (v := .slice (some ⟨b,o,none⟩) n c) (new:=(cs.drop o).take (n*3)) (by rw[St.at_new,if_pos rfl]) (by simp) (by omega) h0 hm (by
   rw[List.all_eq_true]at hok ⊢
   exact fun v hv=>hok v (List.mem_of_mem_drop (List.mem_of_mem_take hv)))
  simp -implicitDefEqProofs only[↓Zd,(Zp),Zr,simprocAttr,qP,Value.cells,cut,qC,cld2,(HEx),(TAx),(BBx),(TBx),vA,rowV0,vnil,happ]
  exact hR _ _ _ _ (lN l1)
theorem jump_spec{qf sb n c ab ao na ac:Nat}{f pc tk tn op a3 b3:Int}{tx:ByteArray}{va:Value}{cs:List Value}{own own':Bool}{us:List (Int×Int×ByteArray)}(hf:s.at' qf=some (.cells [.int .i64 f,.int .i64 pc,va,.slice (some ⟨sb,0,none⟩) n c,.int .i64 tk,.int .i64 tn,.string tx] 62 true))(hqf:qf<s.next)(hsb:sb<s.next)
  (hs:s.at' sb=some (.cells cs 31 own))(hn:n*3≤cs.length)(hn2:n≤1000)(hc:c=UNK∨(c=n∧n≤1000))(hop:22≤op∧op≤25)(hpc:0≤pc∧pc≤1000000)(hqs:qf≠sb)
  (hab:ab<s.next)(haq:ab≠qf)(ha:s.at' ab=some (.cells (us.flatMap val3) 31 own'))(hna:op≠22→na=1∧∃ v,us[ao]?=some v)
  (hR:∀ s' pc' sa,s'.at' qf=some (.cells [.int .i64 f,.int .i64 pc',va,sa,.int .i64 tk,.int .i64 tn,.string tx] 62 true)→s.next≤s'.next→(∀ c,c<s.next→c≠qf→s'.at' c=s.at' c)→R (.tuple #[]) s') :
  QC prog w0 87 #[.pointer (some ⟨qf,0,none⟩),.agg #[.int .i64 op,.int .i64 a3,.int .i64 b3],.slice (some ⟨ab,ao*3,none⟩) na ac] s R:=by
 refine wfun2 hmix ok87 func87 rfl ntmps87 results87 (by simp) ?_
 have hq1:¬ qf=s.next:=by omega
 have hl1:s.le (s.new (.cells [.int .i64 op,.int .i64 a3,.int .i64 b3] 74 true)):=lN (lR _)
 have w1:IntKind.i64.wrap (pc+1)=pc+1:=wrap_i64 (by omega)
 have k1:(s.new (.cells [.int .i64 op,.int .i64 a3,.int .i64 b3] 74 true)).at' s.next=some (.cells [.int .i64 op,.int .i64 a3,.int .i64 b3] 74 true):=by rw[St.at_new,if_pos rfl]
 have n1:(s.new (.cells [.int .i64 op,.int .i64 a3,.int .i64 b3] 74 true)).next=s.next+1:=rfl
 have kf:=(hl1.2 qf hqf).trans hf
 have ka:=(hl1.2 ab hab).trans ha
 have ks:=(hl1.2 sb hsb).trans hs
 have hq2:¬ s.next=qf:=by omega
 have bTF:(true == false)=false:=rfl
 have bFT:(false == true)=false:=rfl
 rcases (show op=22∨op=23∨op=24∨op=25 by omega) with rfl|rfl|rfl|rfl
 ·simp -implicitDefEqProofs only[↓Zd,(Zp),Zr,simprocAttr,qP,Value.cells,cut,qC,cld2,(HEx),(TAx),(BBx),(TBx),vA,hf,hq1,hq2,w1,bTF,bFT,Nat.zero_add]
  refine hR _ a3 (.slice (some ⟨sb,0,none⟩) n c) ?_ ?_ (fun c hc hc2=>?_)
  ·rw[St.at_put,if_pos rfl]
  ·simp only[(Sn)];omega
  ·rw[St.at_put,if_neg hc2,St.at_put,if_neg hc2,St.at_new,if_neg (by omega)]
 all_goals
  obtain⟨rfl,⟨k,m,x⟩,hv⟩:=hna (by decide)
  obtain⟨c1,c2⟩:=val3_cut hv
  simp only at c2
  have l01:(0:Int)<((1:Nat):Int):=by omega
 ·simp -implicitDefEqProofs only[↓Zd,(Zp),Zr,simprocAttr,qP,Value.cells,cut,qC,cld2,(HEx),(TAx),(BBx),(TBx),vA,k1,ka,c1,c2,l01,hq1,hq2,w1,bTF,bFT,Nat.zero_add,Nat.add_zero,co176,ord87]
  generalize s.new (.cells [.int .i64 23,.int .i64 a3,.int .i64 b3] 74 true)=s1 at hl1 k1 n1 kf ka ks ⊢
  refine truth_le fun s2 l2=>?_
  have n2:=l2.1
  have l12:=lT hl1 l2
  have k2:=(l2.2 s.next (by omega)).trans k1
  have kf2:=(l2.2 qf (by omega)).trans kf
  cases ht:truthV k m with
  |false =>
   simp -implicitDefEqProofs only[↓Zd,(Zp),Zr,simprocAttr,qP,Value.cells,cut,qC,cld2,(HEx),(TAx),(BBx),(TBx),vA,k2,kf2,hq1,hq2,w1,bTF,bFT,Nat.zero_add,Nat.add_zero,co176,ord87]
   refine hR _ a3 _ (by rw[St.at_put,if_pos rfl]) (by simp only[St.next_put];omega) (fun c hc hc2=>?_)
   rw[St.at_put,if_neg hc2,St.at_put,if_neg hc2,l12.2 c hc]
  |true =>
   simp -implicitDefEqProofs only[↓Zd,(Zp),Zr,simprocAttr,qP,Value.cells,cut,qC,cld2,(HEx),(TAx),(BBx),(TBx),vA,k2,kf2,hq1,hq2,w1,bTF,bFT,Nat.zero_add,Nat.add_zero,co176,ord87]
   refine hR _ (pc+1) _ (by rw[St.at_put,if_pos rfl]) (by simp only[St.next_put];omega) (fun c hc hc2=>?_)
   rw[St.at_put,if_neg hc2,l12.2 c hc]
 ·simp -implicitDefEqProofs only[↓Zd,(Zp),Zr,simprocAttr,qP,Value.cells,cut,qC,cld2,(HEx),(TAx),(BBx),(TBx),vA,k1,ka,c1,c2,l01,hq1,hq2,w1,bTF,bFT,Nat.zero_add,Nat.add_zero,co176,ord87]
  generalize s.new (.cells [.int .i64 24,.int .i64 a3,.int .i64 b3] 74 true)=s1 at hl1 k1 n1 kf ka ks ⊢
  refine truth_le fun s2 l2=>?_
  have n2:=l2.1
  have l12:=lT hl1 l2
  have k2:=(l2.2 s.next (by omega)).trans k1
  have kf2:=(l2.2 qf (by omega)).trans kf
  have ka2:=(l2.2 ab (by omega)).trans ka
  have ks2:=(l2.2 sb (by omega)).trans ks
  cases ht:truthV k m with
  |false =>
   simp -implicitDefEqProofs only[↓Zd,(Zp),Zr,simprocAttr,qP,Value.cells,cut,qC,cld2,(HEx),(TAx),(BBx),(TBx),vA,k2,ka2,kf2,c1,c2,l01,hq1,hq2,w1,bTF,bFT,Nat.zero_add,Nat.add_zero,co176,co90,ord87]
   refine lay_spec kf2 (by omega) (by omega) ks2 hn hn2 hc fun s3 b3' cs3 g1 g2 g3 _ _ _ _=>?_
   have k3:=(g3 s.next (by omega) hq2).trans k2
   simp -implicitDefEqProofs only[↓Zd,(Zp),Zr,simprocAttr,qP,Value.cells,cut,qC,cld2,(HEx),(TAx),(BBx),(TBx),vA,k3,g1,hq1,hq2,w1,bTF,bFT,Nat.zero_add,Nat.add_zero,co176,ord87]
   refine hR _ a3 _ (by rw[St.at_put,if_pos rfl]) (by simp only[St.next_put];omega) (fun c hc hc2=>?_)
   rw[St.at_put,if_neg hc2,St.at_put,if_neg hc2,g3 c (by omega) hc2,l12.2 c hc]
  |true =>
   simp -implicitDefEqProofs only[↓Zd,(Zp),Zr,simprocAttr,qP,Value.cells,cut,qC,cld2,(HEx),(TAx),(BBx),(TBx),vA,k2,ka2,kf2,c1,c2,l01,hq1,hq2,w1,bTF,bFT,Nat.zero_add,Nat.add_zero,co176,ord87]
   refine hR _ (pc+1) _ (by rw[St.at_put,if_pos rfl]) (by simp only[St.next_put];omega) (fun c hc hc2=>?_)
   rw[St.at_put,if_neg hc2,l12.2 c hc]
 ·simp -implicitDefEqProofs only[↓Zd,(Zp),Zr,simprocAttr,qP,Value.cells,cut,qC,cld2,(HEx),(TAx),(BBx),(TBx),vA,k1,ka,c1,c2,l01,hq1,hq2,w1,bTF,bFT,Nat.zero_add,Nat.add_zero,co176,ord87]
  generalize s.new (.cells [.int .i64 25,.int .i64 a3,.int .i64 b3] 74 true)=s1 at hl1 k1 n1 kf ka ks ⊢
  refine truth_le fun s2 l2=>?_
  have n2:=l2.1
  have l12:=lT hl1 l2
  have k2:=(l2.2 s.next (by omega)).trans k1
  have kf2:=(l2.2 qf (by omega)).trans kf
  have ka2:=(l2.2 ab (by omega)).trans ka
  have ks2:=(l2.2 sb (by omega)).trans ks
  cases ht:truthV k m with
  |true =>
   simp -implicitDefEqProofs only[↓Zd,(Zp),Zr,simprocAttr,qP,Value.cells,cut,qC,cld2,(HEx),(TAx),(BBx),(TBx),vA,k2,ka2,kf2,c1,c2,l01,hq1,hq2,w1,bTF,bFT,Nat.zero_add,Nat.add_zero,co176,co90,ord87]
   refine lay_spec kf2 (by omega) (by omega) ks2 hn hn2 hc fun s3 b3' cs3 g1 g2 g3 _ _ _ _=>?_
   have k3:=(g3 s.next (by omega) hq2).trans k2
   simp -implicitDefEqProofs only[↓Zd,(Zp),Zr,simprocAttr,qP,Value.cells,cut,qC,cld2,(HEx),(TAx),(BBx),(TBx),vA,k3,g1,hq1,hq2,w1,bTF,bFT,Nat.zero_add,Nat.add_zero,co176,ord87]
   refine hR _ a3 _ (by rw[St.at_put,if_pos rfl]) (by simp only[St.next_put];omega) (fun c hc hc2=>?_)
   rw[St.at_put,if_neg hc2,St.at_put,if_neg hc2,g3 c (by omega) hc2,l12.2 c hc]
  |false =>
   simp -implicitDefEqProofs only[↓Zd,(Zp),Zr,simprocAttr,qP,Value.cells,cut,qC,cld2,(HEx),(TAx),(BBx),(TBx),vA,k2,ka2,kf2,c1,c2,l01,hq1,hq2,w1,bTF,bFT,Nat.zero_add,Nat.add_zero,co176,ord87]
   refine hR _ (pc+1) _ (by rw[St.at_put,if_pos rfl]) (by simp only[St.next_put];omega) (fun c hc hc2=>?_)
   rw[St.at_put,if_neg hc2,l12.2 c hc]
end
theorem bvF(k n:Int):cbuild prog 31 #[(0,.int .i64 k),(1,.int .i64 n)]=some (.agg #[.int .i64 k,.int .i64 n,.string ⟨#[]⟩]):=bv2 k n
theorem strC_map:∀ us:List ByteArray,us.flatMap strC=us.map Value.string:=by
 intro us
 induction us with
 |nil=>rfl
 |cons y l ih=>rw[List.flatMap_cons,ih];rfl
section
variable {lo q N p gb:Nat}{D:StD}{O:Nat→Prop}{ov tv:Value}
theorem push_spec{qf vb vc cpp nc ccp:Nat}{f pc tk tn op a3 b3 g:Int}{tx:ByteArray}{sa:Value}{V:List (Int×Int×ByteArray)}{pl cl:Option Addr}{pool:List ByteArray}{c:CodeV}(h:StIn lo s q D N O p gb ov tv)(hlo:lo≤s.next)(hN:N+4≤1000000)
  (hf:s.at' qf=some (.cells [.int .i64 f,.int .i64 pc,.slice (some ⟨vb,0,none⟩) V.length vc,sa,.int .i64 tk,.int .i64 tn,.string tx] 62 true))(hqf:qf<s.next)
  (hv:s.at' vb=some (.cells (V.flatMap val3) 31 true))(hvb:vb<s.next)(hpl:QRow 9 strC s pl pool)(hA:ArgOk g pool.length c op a3)(hloc:op=8→a3<(V.length:Int))
  (hop:op=2∨op=3∨op=4∨op=5∨op=6∨op=7∨op=8∨op=10∨op=12)
  (hR:∀ s' D' O' k m x,StIn lo s' q D' N O' p gb ov tv→Upd s s' (ownS q gb ov tv O) (ownS q gb ov tv O')→(goesB D=true→R (.tuple #[vA k m x,.bool (goesB D')]) s'))(hg:goesB D=true) :
  QC prog w0 177 #[.pointer (some ⟨q,0,none⟩),.agg #[.int .i64 g,.slice pl pool.length cpp,.slice cl nc ccp],.pointer (some ⟨qf,0,none⟩),.agg #[.int .i64 op,.int .i64 a3,.int .i64 b3]] s R:=by
 refine wfun2 hmix ok177 func177 rfl ntmps177 results177 (by simp) ?_
 have hR0:=hR
 have hR:∀ s' D' O' k m x,StIn lo s' q D' N O' p gb ov tv→Upd s s' (ownS q gb ov tv O) (ownS q gb ov tv O')→goesB D'=true→R (.tuple #[.agg #[.int .i64 k,.int .i64 m,.string x],.bool true]) s':=fun s' D' O' k m x g1 g2 g4=>by
  have:=hR s' D' O' k m x g1 g2 hg
  rw[g4]at this
  exact this
 have fin:∀ {s':St M}(k m:Int) (x:ByteArray),s.le s'→R (.tuple #[.agg #[.int .i64 k,.int .i64 m,.string x],.bool true]) s':=fun k m x l=>hR _ D O k m x (h.le l) (.of_le l) hg
 have hq1:¬ qf=s.next:=by omega
 have hq2:¬ qf=s.next+1:=by omega
 have hq3:¬ qf=s.next+2:=by omega
 have hv1:¬ vb=s.next:=by omega
 have hv2:¬ vb=s.next+1:=by omega
 have hv3:¬ vb=s.next+2:=by omega
 have z02:¬ s.next=s.next+2:=by omega
 have z12:¬ s.next+1=s.next+2:=by omega
 rcases hop with rfl|rfl|rfl|rfl|rfl|rfl|rfl|rfl|rfl
 ·simp -implicitDefEqProofs only[↓Zd,(Zp),Zr,simprocAttr,qP,Value.cells,cut,qC,cld2,(HEx),(TAx),(BBx),(TBx),vA,bVal0]
  exact fin _ _ _ (by repeat (first|exact lR _|assumption|refine lN ?_|refine lP ?_ (by first|omega|(simp only[(Sn)];omega))|refine lT ?_ (by assumption)))
 ·simp -implicitDefEqProofs only[↓Zd,(Zp),Zr,simprocAttr,qP,Value.cells,cut,qC,cld2,(HEx),(TAx),(BBx),(TBx),vA,bVal0,bvF]
  exact fin _ _ _ (by repeat (first|exact lR _|assumption|refine lN ?_|refine lP ?_ (by first|omega|(simp only[(Sn)];omega))|refine lT ?_ (by assumption)))
 ·simp -implicitDefEqProofs only[↓Zd,(Zp),Zr,simprocAttr,qP,Value.cells,cut,qC,cld2,(HEx),(TAx),(BBx),(TBx),vA,bVal0,bvF]
  exact fin _ _ _ (by repeat (first|exact lR _|assumption|refine lN ?_|refine lP ?_ (by first|omega|(simp only[(Sn)];omega))|refine lT ?_ (by assumption)))
 ·have ha:=hA.2.2.1 (.inl rfl)
  obtain⟨an,rfl⟩:∃ an:Nat,a3=(an:Int):=⟨a3.toNat,by omega⟩
  have hx:pool[an]?=some (pool[an]'(by omega)):=List.getElem?_eq_getElem _
  generalize pool[an]'(by omega)=x at hx
  rcases hpl with h0|⟨j,us,rfl,hj,hjb,hus⟩
  ·rw[h0]at hx;simp at hx
  have d0:(us.flatMap strC)[an]?=some (.string x):=by rw[strC_map,List.getElem?_map,hus an (by omega),hx];rfl
  have hj1:¬ j=s.next:=by omega
  have hj2:¬ j=s.next+1:=by omega
  have hj3:¬ j=s.next+2:=by omega
  simp -implicitDefEqProofs only[↓Zd,(Zp),Zr,simprocAttr,qP,Value.cells,cut,qC,cld2,(HEx),(TAx),(BBx),(TBx),vA,bVal0,bv3,hjb,hj1,hj2,hj3,ha,d0,Nat.mul_one,Nat.zero_add]
  exact fin _ _ _ (by repeat (first|exact lR _|assumption|refine lN ?_|refine lP ?_ (by first|omega|(simp only[(Sn)];omega))|refine lT ?_ (by assumption)))
 ·simp -implicitDefEqProofs only[↓Zd,(Zp),Zr,simprocAttr,qP,Value.cells,cut,qC,cld2,(HEx),(TAx),(BBx),(TBx),vA,bVal0,hf,hq1,hq2,hq3,Nat.zero_add]
  exact fin _ _ _ (by repeat (first|exact lR _|assumption|refine lN ?_|refine lP ?_ (by first|omega|(simp only[(Sn)];omega))|refine lT ?_ (by assumption)))
 ·simp -implicitDefEqProofs only[↓Zd,(Zp),Zr,simprocAttr,qP,Value.cells,cut,qC,cld2,(HEx),(TAx),(BBx),(TBx),vA,bVal0,bvF]
  exact fin _ _ _ (by repeat (first|exact lR _|assumption|refine lN ?_|refine lP ?_ (by first|omega|(simp only[(Sn)];omega))|refine lT ?_ (by assumption)))
 ·have ha:=hA.2.2.2.1 (.inl rfl)
  have hal:=hloc rfl
  obtain⟨an,rfl⟩:∃ an:Nat,a3=(an:Int):=⟨a3.toNat,by omega⟩
  have hx:V[an]?=some (V[an]'(by omega)):=List.getElem?_eq_getElem _
  generalize V[an]'(by omega)=x at hx
  obtain⟨k,m,x⟩:=x
  obtain⟨c1,c2⟩:=val3_cut hx
  simp only at c2
  have haa:(0:Int)≤(an:Int)∧(an:Int)<(V.length:Int):=by omega
  simp -implicitDefEqProofs only[↓Zd,(Zp),Zr,simprocAttr,qP,Value.cells,cut,qC,cld2,(HEx),(TAx),(BBx),(TBx),vA,bVal0,hf,hv,hq1,hq2,hq3,hv1,hv2,hv3,haa,c1,c2,Nat.zero_add,Nat.add_zero,ord177]
  exact fin _ _ _ (by repeat (first|exact lR _|assumption|refine lN ?_|refine lP ?_ (by first|omega|(simp only[(Sn)];omega))|refine lT ?_ (by assumption)))
 ·have l1:s.le (((s.new (.cells [.int .i64 g,.slice pl pool.length cpp,.slice cl nc ccp] 60 true)).new (.cells [.int .i64 10,.int .i64 a3,.int .i64 b3] 74 true)).new (.cells [.int .i64 0,.int .i64 0,.string ⟨#[]⟩] 31 true)):=(by repeat (first|exact lR _|assumption|refine lN ?_|refine lP ?_ (by first|omega|(simp only[(Sn)];omega))|refine lT ?_ (by assumption)))
  have k2:(((s.new (.cells [.int .i64 g,.slice pl pool.length cpp,.slice cl nc ccp] 60 true)).new (.cells [.int .i64 10,.int .i64 a3,.int .i64 b3] 74 true)).new (.cells [.int .i64 0,.int .i64 0,.string ⟨#[]⟩] 31 true)).at' (s.next+2)=some (.cells [.int .i64 0,.int .i64 0,.string ⟨#[]⟩] 31 true):=by rw[St.at_new,if_pos (by simp only[St.next_new])]
  have kn:(((s.new (.cells [.int .i64 g,.slice pl pool.length cpp,.slice cl nc ccp] 60 true)).new (.cells [.int .i64 10,.int .i64 a3,.int .i64 b3] 74 true)).new (.cells [.int .i64 0,.int .i64 0,.string ⟨#[]⟩] 31 true)).next=s.next+3:=rfl
  simp -implicitDefEqProofs only[↓Zd,(Zp),Zr,simprocAttr,qP,Value.cells,cut,qC,cld2,(HEx),(TAx),(BBx),(TBx),vA,co25]
  generalize (((s.new (.cells [.int .i64 g,.slice pl pool.length cpp,.slice cl nc ccp] 60 true)).new (.cells [.int .i64 10,.int .i64 a3,.int .i64 b3] 74 true)).new (.cells [.int .i64 0,.int .i64 0,.string ⟨#[]⟩] 31 true))=s1 at l1 k2 kn ⊢
  refine sglob_spec (h.le l1) fun s2 l2=>?_
  have k22:=(l2.2 (s.next+2) (by omega)).trans k2
  have l12:=lT l1 l2
  generalize globV D a3=gv
  obtain⟨gk,gn,gx⟩:=gv
  unfold vA
  simp -implicitDefEqProofs only[↓Zd,(Zp),Zr,simprocAttr,qP,Value.cells,cut,qC,cld2,(HEx),(TAx),(BBx),(TBx),vA,k22]
  exact fin _ _ _ (lP l12 (by omega))
 ·have l1:s.le (((s.new (.cells [.int .i64 g,.slice pl pool.length cpp,.slice cl nc ccp] 60 true)).new (.cells [.int .i64 12,.int .i64 a3,.int .i64 b3] 74 true)).new (.cells [.int .i64 0,.int .i64 0,.string ⟨#[]⟩] 31 true)):=(by repeat (first|exact lR _|assumption|refine lN ?_|refine lP ?_ (by first|omega|(simp only[(Sn)];omega))|refine lT ?_ (by assumption)))
  have k2:(((s.new (.cells [.int .i64 g,.slice pl pool.length cpp,.slice cl nc ccp] 60 true)).new (.cells [.int .i64 12,.int .i64 a3,.int .i64 b3] 74 true)).new (.cells [.int .i64 0,.int .i64 0,.string ⟨#[]⟩] 31 true)).at' (s.next+2)=some (.cells [.int .i64 0,.int .i64 0,.string ⟨#[]⟩] 31 true):=by rw[St.at_new,if_pos (by simp only[St.next_new])]
  have kn:(((s.new (.cells [.int .i64 g,.slice pl pool.length cpp,.slice cl nc ccp] 60 true)).new (.cells [.int .i64 12,.int .i64 a3,.int .i64 b3] 74 true)).new (.cells [.int .i64 0,.int .i64 0,.string ⟨#[]⟩] 31 true)).next=s.next+3:=rfl
  simp -implicitDefEqProofs only[↓Zd,(Zp),Zr,simprocAttr,qP,Value.cells,cut,qC,cld2,(HEx),(TAx),(BBx),(TBx),vA,co13]
  generalize (((s.new (.cells [.int .i64 g,.slice pl pool.length cpp,.slice cl nc ccp] 60 true)).new (.cells [.int .i64 12,.int .i64 a3,.int .i64 b3] 74 true)).new (.cells [.int .i64 0,.int .i64 0,.string ⟨#[]⟩] 31 true))=s1 at l1 k2 kn ⊢
  refine smake_spec (h.le l1) (by omega) fun s2 O2 a b x h2 u2=>?_
  obtain⟨f2,e2⟩:=u2.loc (c:=s.next+2) (by omega) (h.fresh (by omega))
  have e2:=e2.trans k2
  have u12:=(Upd.of_le l1).trans u2
  have n2:=u12.next
  have fin2:∀ B,R (.tuple #[.agg #[.int .i64 a,.int .i64 b,.string x],.bool (goesB (makeS D))]) (s2.put (s.next+2) B):=fun B=>by
   obtain⟨g1,g2⟩:=h2.loc (c:=s.next+2) (B:=B) u12 (by omega) f2
   exact hR0 _ _ O2 a b x g1 g2 hg
  unfold vA
  simp -implicitDefEqProofs only[↓Zd,(Zp),Zr,simprocAttr,qP,Value.cells,cut,qC,cld2,(HEx),(TAx),(BBx),(TBx),vA,e2]
  exact fin2 _
end
section
variable {lo q N p gb:Nat}{D:StD}{O:Nat→Prop}{ov tv:Value}
end
theorem shape_abs{M:Type}[Mem M]{w0:World}{s:St M}{P:Program}{t:TypeId}{v:Value}{ops:Array Oper}{Q:Env→St M→Prop}{rest:List Oper}{env:Env}{d:Option Tmp}(l:List Nat)(h:∀ env':Env,(∀ i∈l,env' i=env i)→Cs.shape P t v fun v=>wreg P w0 ops Q rest (wput env' d v) s):Cs.shape P t v fun v=>wreg P w0 ops Q rest (wput env d v) s:=h env fun _ _=>rfl
def readyB(o a:Int)(nv ns:Nat):Bool:=decide (¬ ((o=8∨o=9)∧(nv:Int)≤a)∧effP o a≤(ns:Int))
section
theorem ready_spec{qf nv ns cpp ccp:Nat}{g f pc tk tn:Int}{tx:ByteArray}{va0 sa0:Option Addr}{vc sc:Nat}{pl cl:Option Addr}{pool:List ByteArray}{C:List CodeV}(hP:PAt s pl pool cl C)(hC:∀ c∈C,CodeGood g pool.length c)(hC2:C.length≤1000)
  (hf:s.at' qf=some (.cells [.int .i64 f,.int .i64 pc,.slice va0 nv vc,.slice sa0 ns sc,.int .i64 tk,.int .i64 tn,.string tx] 62 true))(hqf:qf<s.next)(hnv:nv≤1000)(hns:ns≤1000)
  (hno:(∀ (fi pi:Nat) c x,f=(fi:Int)→pc=(pi:Int)→C[fi]?=some c→c.ins[pi]?=some x→False)→∀ s',s.le s'→R (.tuple #[.agg #[.int .i64 0,.int .i64 0,.int .i64 0],.bool false]) s')
  (hyes:∀ (fi pi:Nat) c x,f=(fi:Int)→pc=(pi:Int)→C[fi]?=some c→c.ins[pi]?=some x→CodeGood g pool.length c→ArgOk g pool.length c x.a0 x.a1→∀ s',s.le s'→R (.tuple #[.agg #[.int .i64 x.a0,.int .i64 x.a1,.int .i64 x.a2],.bool (readyB x.a0 x.a1 nv ns)]) s') :
  QC prog w0 85 #[.agg #[.int .i64 g,.slice pl pool.length cpp,.slice cl C.length ccp],.pointer (some ⟨qf,0,none⟩)] s R:=by
 refine wfun2 hmix ok85 func85 rfl ntmps85 results85 (by simp) ?_
 have hbI:cbuild prog 74 #[]=some (.agg #[.int .i64 0,.int .i64 0,.int .i64 0]):=by kernel_rfl
 have hzI:=ze74
 have q1:¬ qf=s.next:=by omega
 have q2:¬ qf=s.next+1:=by omega
 by_cases r1:f<0
 ·have hno:=hno fun fi pi c x e1 _ _ _=>by omega
  simp -implicitDefEqProofs only[↓Zd,(Zp),Zr,simprocAttr,qP,Value.cells,cut,qC,cld2,(HEx),(TAx),(BBx),(TBx),vA,hf,q1,q2,hbI,hzI,r1,Nat.zero_add,Nat.add_zero,decide_true,ord85]
  exact hno _ (by repeat (first|exact lR _|assumption|refine lN ?_|refine lP ?_ (by first|omega|(simp only[(Sn)];omega))|refine lT ?_ (by assumption)))
 by_cases r2:(C.length:Int)≤f
 ·have hno:=hno fun fi pi c x e1 _ e2 _=>by
   have:=(List.getElem?_eq_some_iff.1 e2).1;omega
  simp -implicitDefEqProofs only[↓Zd,(Zp),Zr,simprocAttr,qP,Value.cells,cut,qC,cld2,(HEx),(TAx),(BBx),(TBx),vA,hf,q1,q2,hbI,hzI,r1,r2,Nat.zero_add,Nat.add_zero,decide_true,decide_false,ord85]
  exact hno _ (by repeat (first|exact lR _|assumption|refine lN ?_|refine lP ?_ (by first|omega|(simp only[(Sn)];omega))|refine lT ?_ (by assumption)))
 obtain⟨fi,rfl⟩:∃ fi:Nat,f=(fi:Int):=⟨f.toNat,by omega⟩
 by_cases r3:pc<0
 ·have hno:=hno fun fi pi c x _ e1 _ _=>by omega
  simp -implicitDefEqProofs only[↓Zd,(Zp),Zr,simprocAttr,qP,Value.cells,cut,qC,cld2,(HEx),(TAx),(BBx),(TBx),vA,hf,q1,q2,hbI,hzI,r1,r2,r3,Nat.zero_add,Nat.add_zero,decide_true,decide_false,ord85]
  exact hno _ (by repeat (first|exact lR _|assumption|refine lN ?_|refine lP ?_ (by first|omega|(simp only[(Sn)];omega))|refine lT ?_ (by assumption)))
 have hfl:fi<C.length:=by omega
 have hc:C[fi]?=some C[fi]:=List.getElem?_eq_getElem hfl
 generalize C[fi]=c at hc
 have hcm:=List.mem_of_getElem? hc
 have hff:(0:Int)≤(fi:Int)∧(fi:Int)<(C.length:Int):=by omega
 rcases hP.codes with h0|⟨jc,n,cc,rfl,hjc,hcb,hcl,hCn,hcc⟩
 ·rw[h0]at hfl;cases hfl
 have d4:(rowsN cc n)[fi*5+4]?=some (.slice c.ad c.ins.length c.cp):=by
  rw[rowsN_get hcl (by omega) (by omega),hcc fi c hc];rfl
 have j1:¬ jc=s.next:=by omega
 have j2:¬ jc=s.next+1:=by omega
 have j3:¬ jc=s.next+2:=by omega
 by_cases r4:(c.ins.length:Int)≤pc
 ·have hno:=hno fun fi' pi c' x e1 e2 e3 e4=>by
   have:fi=fi':=by omega
   subst this
   rw[hc]at e3
   cases e3
   have:=(List.getElem?_eq_some_iff.1 e4).1;omega
  simp -implicitDefEqProofs only[↓Zd,(Zp),Zr,simprocAttr,qP,Value.cells,cut,qC,cld2,(HEx),(TAx),(BBx),(TBx),vA,hf,q1,q2,hcb,j1,j2,d4,hff,hbI,hzI,r1,r2,r3,r4,Nat.zero_add,Nat.add_zero,decide_true,decide_false,ord85]
  exact hno _ (by repeat (first|exact lR _|assumption|refine lN ?_|refine lP ?_ (by first|omega|(simp only[(Sn)];omega))|refine lT ?_ (by assumption)))
 obtain⟨pi,rfl⟩:∃ pi:Nat,pc=(pi:Int):=⟨pc.toNat,by omega⟩
 have hpl:pi<c.ins.length:=by omega
 have hx:c.ins[pi]?=some c.ins[pi]:=List.getElem?_eq_getElem hpl
 generalize c.ins[pi]=x at hx
 have hgood:=hC c hcm
 have hyes:=hyes fi pi c x rfl rfl hc hx hgood (hgood.2.2 pi x hx)
 have hpp:(0:Int)≤(pi:Int)∧(pi:Int)<(c.ins.length:Int):=by omega
 rcases hP.ins c hcm with h0|⟨j,us,had,hj,hjb,hus⟩
 ·rw[h0]at hpl;cases hpl
 have hux:us[pi]?=some x:=by rw[hus pi hpl];exact hx
 obtain⟨c1,c2⟩:=actsI_cut us pi x hux
 have hA:=hgood.2.2 pi x hx
 obtain⟨o,a,b⟩:=x
 have c2:List.take 3 (List.drop (pi*3) (us.flatMap actIC))=[.int .i64 o,.int .i64 a,.int .i64 b]:=c2
 have hA:ArgOk g pool.length c o a:=hA
 have hyes:∀ s',s.le s'→R (.tuple #[.agg #[.int .i64 o,.int .i64 a,.int .i64 b],.bool (readyB o a nv ns)]) s':=hyes
 have i1:¬ j=s.next:=by omega
 have i2:¬ j=s.next+1:=by omega
 have i3:¬ j=s.next+2:=by omega
 have q3:¬ qf=s.next+2:=by omega
 rw[had]at d4
 simp -implicitDefEqProofs only[↓Zd,(Zp),Zr,simprocAttr,qP,Value.cells,cut,qC,cld2,(HEx),(TAx),(BBx),(TBx),vA,hf,q1,q2,q3,hcb,j1,j2,j3,i1,i2,i3,hjb,c1,c2,d4,hff,hpp,hbI,hzI,r1,r2,r3,r4,Nat.zero_add,Nat.add_zero,decide_true,decide_false,co86,ord85]
 obtain⟨S,hS⟩:∃ S,S=(((s.new (.cells [.int .i64 g,.slice pl pool.length cpp,.slice (some ⟨jc,0,none⟩) C.length ccp] 60 true)).new (.cells [.int .i64 0,.int .i64 0,.int .i64 0] 74 true)).new (.cells [.int .i64 0,.int .i64 0,.int .i64 0] 74 true)).put (s.next+2) (.cells [.int .i64 o,.int .i64 a,.int .i64 b] 74 true):=⟨_,rfl⟩
 rw[← hS]
 have lS:s.le S:=by rw[hS];exact (by repeat (first|exact lR _|assumption|refine lN ?_|refine lP ?_ (by first|omega|(simp only[(Sn)];omega))|refine lT ?_ (by assumption)))
 have nS:S.next=s.next+3:=by rw[hS];rfl
 have e0:S.at' s.next=some (.cells [.int .i64 g,.slice pl pool.length cpp,.slice (some ⟨jc,0,none⟩) C.length ccp] 60 true):=by rw[hS];simp only[St.at_put,St.at_new,St.next_new];(repeat rw[if_neg (by omega)]);rw[if_pos trivial]
 have e1:S.at' (s.next+1)=some (.cells [.int .i64 0,.int .i64 0,.int .i64 0] 74 true):=by rw[hS];simp only[St.at_put,St.at_new,St.next_new];(repeat rw[if_neg (by omega)]);rw[if_pos trivial]
 have e2:S.at' (s.next+2)=some (.cells [.int .i64 o,.int .i64 a,.int .i64 b] 74 true):=by rw[hS,St.at_put,if_pos rfl]
 clear hS
 refine ceffect_spec fun s2 y l2=>?_
 refine shape_abs [1,2,4,6] fun env he=>?_
 have t1:env 1 = .pointer (some ⟨qf,0,none⟩):=he 1 (by simp)
 have t2:env 2 = .pointer (some ⟨s.next,0,none⟩):=he 2 (by simp)
 have t4:env 4 = .pointer (some ⟨s.next+1,0,none⟩):=he 4 (by simp)
 have t6:env 6 = .pointer (some ⟨s.next+2,0,none⟩):=he 6 (by simp)
 clear he
 have l12:=lT lS l2
 have e02:=(l2.2 s.next (by omega)).trans e0
 have e12:=(l2.2 (s.next+1) (by omega)).trans e1
 have e22:=(l2.2 (s.next+2) (by omega)).trans e2
 have kf2:=(l12.2 qf hqf).trans hf
 have fin:∀ {r:Bool} B,r=readyB o a nv ns→R (.tuple #[.agg #[.int .i64 o,.int .i64 a,.int .i64 b],.bool r]) (s2.put (s.next+1) B):=fun B e=>by
  rw[e];exact hyes _ (lP l12 (by omega))
 have b1:=hA.1.1
 have b32:=hA.1.2
 by_cases h8:o=8∨o=9
 ·have ha0:¬ a<0:=by have:=hA.2.2.2.1 h8;omega
  by_cases hnva:(nv:Int)≤a
  ·have er:false=readyB o a nv ns:=by unfold readyB;rw[decide_eq_false];exact fun h=>h.1 ⟨h8,hnva⟩
   rcases h8 with rfl|rfl
   ·simp -implicitDefEqProofs only[↓Zd,(Zp),Zr,simprocAttr,qP,Value.cells,cut,qC,cld2,(HEx),(TAx),(BBx),(TBx),vA,t1,t2,t4,t6,e02,e12,e22,kf2,ha0,hnva,Nat.zero_add,Nat.add_zero,decide_true,decide_false,co86,ord85]
    exact fin _ er
   ·simp -implicitDefEqProofs only[↓Zd,(Zp),Zr,simprocAttr,qP,Value.cells,cut,qC,cld2,(HEx),(TAx),(BBx),(TBx),vA,t1,t2,t4,t6,e02,e12,e22,kf2,ha0,hnva,Nat.zero_add,Nat.add_zero,decide_true,decide_false,co86,ord85]
    exact fin _ er
  ·have erd:readyB o a nv ns=decide (effP o a≤(ns:Int)):=by
    unfold readyB
    by_cases hp:effP o a≤(ns:Int)
    ·rw[decide_eq_true hp,decide_eq_true];exact⟨fun h=>hnva h.2,hp⟩
    ·rw[decide_eq_false hp,decide_eq_false];exact fun h=>hp h.2
   rcases h8 with rfl|rfl
   ·skip
    simp -implicitDefEqProofs only[↓Zd,(Zp),Zr,simprocAttr,qP,Value.cells,cut,qC,cld2,(HEx),(TAx),(BBx),(TBx),vA,t1,t2,t4,t6,e02,e12,e22,kf2,ha0,hnva,Nat.zero_add,Nat.add_zero,decide_true,decide_false,co86,ord85]
    refine g3_split (fun hp=>?_) (fun hp=>?_)
    ·simp -implicitDefEqProofs only[↓Zd,(Zp),Zr,simprocAttr,qP,Value.cells,cut,qC,cld2,(HEx),(TAx),(BBx),(TBx),vA,t1,t2,t4,t6,e02,e12,e22,kf2,ha0,hnva,Nat.zero_add,Nat.add_zero,decide_true,decide_false,co86,ord85]
     exact fin _ (erd.trans hp).symm
    ·simp -implicitDefEqProofs only[↓Zd,(Zp),Zr,simprocAttr,qP,Value.cells,cut,qC,cld2,(HEx),(TAx),(BBx),(TBx),vA,t1,t2,t4,t6,e02,e12,e22,kf2,ha0,hnva,Nat.zero_add,Nat.add_zero,decide_true,decide_false,co86,ord85]
     exact fin _ (erd.trans hp).symm
   ·skip
    simp -implicitDefEqProofs only[↓Zd,(Zp),Zr,simprocAttr,qP,Value.cells,cut,qC,cld2,(HEx),(TAx),(BBx),(TBx),vA,t1,t2,t4,t6,e02,e12,e22,kf2,ha0,hnva,Nat.zero_add,Nat.add_zero,decide_true,decide_false,co86,ord85]
    refine g3_split (fun hp=>?_) (fun hp=>?_)
    ·simp -implicitDefEqProofs only[↓Zd,(Zp),Zr,simprocAttr,qP,Value.cells,cut,qC,cld2,(HEx),(TAx),(BBx),(TBx),vA,t1,t2,t4,t6,e02,e12,e22,kf2,ha0,hnva,Nat.zero_add,Nat.add_zero,decide_true,decide_false,co86,ord85]
     exact fin _ (erd.trans hp).symm
    ·simp -implicitDefEqProofs only[↓Zd,(Zp),Zr,simprocAttr,qP,Value.cells,cut,qC,cld2,(HEx),(TAx),(BBx),(TBx),vA,t1,t2,t4,t6,e02,e12,e22,kf2,ha0,hnva,Nat.zero_add,Nat.add_zero,decide_true,decide_false,co86,ord85]
     exact fin _ (erd.trans hp).symm
 have p8:¬ o=8:=fun e=>h8 (.inl e)
 have p9:¬ o=9:=fun e=>h8 (.inr e)
 have erd:readyB o a nv ns=decide (effP o a≤(ns:Int)):=by
  unfold readyB
  by_cases hp:effP o a≤(ns:Int)
  ·rw[decide_eq_true hp,decide_eq_true];exact⟨fun h=>h8 h.1,hp⟩
  ·rw[decide_eq_false hp,decide_eq_false];exact fun h=>hp h.2
 by_cases h5:o=5∨o=13∨o=14∨o=15∨o=18∨o=27
 ·have haa:=hA.2.2.1 h5
  have ha0:¬ a<0:=by omega
  have han:¬ (pool.length:Int)≤a:=by omega
  rcases h5 with rfl|rfl|rfl|rfl|rfl|rfl
  all_goals
   simp -implicitDefEqProofs only[↓Zd,(Zp),Zr,simprocAttr,qP,Value.cells,cut,qC,cld2,(HEx),(TAx),(BBx),(TBx),vA,t1,t2,t4,t6,e02,e12,e22,kf2,ha0,han,Nat.zero_add,Nat.add_zero,decide_true,decide_false,co86,ord85]
   refine g3_split (fun hp=>?_) (fun hp=>?_)
   ·simp -implicitDefEqProofs only[↓Zd,(Zp),Zr,simprocAttr,qP,Value.cells,cut,qC,cld2,(HEx),(TAx),(BBx),(TBx),vA,t1,t2,t4,t6,e02,e12,e22,kf2,ha0,han,Nat.zero_add,Nat.add_zero,decide_true,decide_false,co86,ord85]
    exact fin _ (erd.trans hp).symm
   ·simp -implicitDefEqProofs only[↓Zd,(Zp),Zr,simprocAttr,qP,Value.cells,cut,qC,cld2,(HEx),(TAx),(BBx),(TBx),vA,t1,t2,t4,t6,e02,e12,e22,kf2,ha0,han,Nat.zero_add,Nat.add_zero,decide_true,decide_false,co86,ord85]
    exact fin _ (erd.trans hp).symm
 ·have p5:¬ o=5:=by omega
  have p13:¬ o=13:=by omega
  have p14:¬ o=14:=by omega
  have p15:¬ o=15:=by omega
  have p18:¬ o=18:=by omega
  have p27:¬ o=27:=by omega
  simp -implicitDefEqProofs only[↓Zd,(Zp),Zr,simprocAttr,qP,Value.cells,cut,qC,cld2,(HEx),(TAx),(BBx),(TBx),vA,t1,t2,t4,t6,e02,e12,e22,kf2,p5,p8,p9,p13,p14,p15,p18,p27,b1,b32,Nat.zero_add,Nat.add_zero,decide_true,decide_false,co86,ord85]
  refine g3_split (fun hp=>?_) (fun hp=>?_)
  ·simp -implicitDefEqProofs only[↓Zd,(Zp),Zr,simprocAttr,qP,Value.cells,cut,qC,cld2,(HEx),(TAx),(BBx),(TBx),vA,t1,t2,t4,t6,e02,e12,e22,kf2,p5,p8,p9,p13,p14,p15,p18,p27,b1,b32,Nat.zero_add,Nat.add_zero,decide_true,decide_false,co86,ord85]
   exact fin _ (erd.trans hp).symm
  ·simp -implicitDefEqProofs only[↓Zd,(Zp),Zr,simprocAttr,qP,Value.cells,cut,qC,cld2,(HEx),(TAx),(BBx),(TBx),vA,t1,t2,t4,t6,e02,e12,e22,kf2,p5,p8,p9,p13,p14,p15,p18,p27,b1,b32,Nat.zero_add,Nat.add_zero,decide_true,decide_false,co86,ord85]
   exact fin _ (erd.trans hp).symm
end
section
variable {lo q N p gb:Nat}{D:StD}{O:Nat→Prop}{ov tv:Value}
theorem bplain2_spec{qf vb vc cpp nc ccp ab ao ac:Nat}{f pc tk tn op a3 b3 g:Int}{tx:ByteArray}{sa:Value}{V l us:List (Int×Int×ByteArray)}{own:Bool}{pl cl:Option Addr}{pool:List ByteArray}{c:CodeV}(h:StIn lo s q D N O p gb ov tv)(hlo:lo≤s.next)(hN:N+4≤1000000)(hg:goesB D=true)
  (hf:s.at' qf=some (.cells [.int .i64 f,.int .i64 pc,.slice (some ⟨vb,0,none⟩) V.length vc,sa,.int .i64 tk,.int .i64 tn,.string tx] 62 true))(hqf:qf<lo)
  (hv:s.at' vb=some (.cells (V.flatMap val3) 31 true))(hvb:vb<lo)(hpl:QRow 9 strC s pl pool)(hpj:∀ j,pl=some ⟨j,0,none⟩→j<lo)(hA:ArgOk g pool.length c op a3)(hloc:op=8∨op=9→a3<(V.length:Int))(ha3:I64 a3)(hgl:(D.g.length:Int)=g)
  (ha:s.at' ab=some (.cells (us.flatMap val3) 31 own))(hab:ab<lo)(hl:(l.length:Int)=effP op a3)(hu:∀ i,i<l.length→us[ao+i]?=l[i]?)(hI:∀ v∈l,I64 v.2.1)(hvq:vb≠qf)(hva:vb≠ab)
  (hop:¬ (22≤op∧op≤26)∧op≠28∧op≠32)
  (hR:∀ s' D' O' ov' tv' k m x lays,StIn lo s' q D' (N+4) O' p gb ov' tv'→s.next≤s'.next→(∀ c,c<s.next→¬ ownS q gb ov tv O c→c≠vb→s'.at' c=s.at' c)→(∀ c,ownS q gb ov' tv' O' c→ownS q gb ov tv O c∨s.next≤c)→R (.tuple #[vA k m x,.bool lays,.bool (goesB D')]) s') :
  QC prog w0 89 #[.pointer (some ⟨q,0,none⟩),.agg #[.int .i64 g,.slice pl pool.length cpp,.slice cl nc ccp],.pointer (some ⟨qf,0,none⟩),.agg #[.int .i64 op,.int .i64 a3,.int .i64 b3],.slice (some ⟨ab,ao*3,none⟩) l.length ac] s R:=by
 refine wfun2 hmix ok89 func89 rfl ntmps89 results89 (by simp) ?_
 have hlow:∀ c,c<lo→¬ ownS q gb ov tv O c:=fun c hc ho=>by have:=(h.own c ho).1;omega
 obtain⟨s1,hs1⟩:∃ s1,s1=(((s.new (.cells [.int .i64 g,.slice pl pool.length cpp,.slice cl nc ccp] 60 true)).new (.cells [.int .i64 op,.int .i64 a3,.int .i64 b3] 74 true)).new (.cells [.int .i64 0,.int .i64 0,.string ⟨#[]⟩] 31 true)):=⟨_,rfl⟩
 have l1:s.le s1:=by rw[hs1];exact (by repeat (first|exact lR _|assumption|refine lN ?_|refine lP ?_ (by first|omega|(simp only[(Sn)];omega))|refine lT ?_ (by assumption)))
 have n1:s1.next=s.next+3:=by rw[hs1];rfl
 have e0:s1.at' s.next=some (.cells [.int .i64 g,.slice pl pool.length cpp,.slice cl nc ccp] 60 true):=by rw[hs1,St.at_new,if_neg (by simp only[St.next_new];omega),St.at_new,if_neg (by simp only[St.next_new];omega),St.at_new,if_pos rfl]
 have e1:s1.at' (s.next+1)=some (.cells [.int .i64 op,.int .i64 a3,.int .i64 b3] 74 true):=by rw[hs1,St.at_new,if_neg (by simp only[St.next_new];omega),St.at_new,if_pos (by simp only[St.next_new])]
 have e2:s1.at' (s.next+2)=some (.cells [.int .i64 0,.int .i64 0,.string ⟨#[]⟩] 31 true):=by rw[hs1,St.at_new,if_pos (by simp only[St.next_new])]
 simp -implicitDefEqProofs only[↓Zd,(Zp),Zr,simprocAttr,qP,Value.cells,cut,qC,cld2,(HEx),(TAx),(BBx),(TBx),vA]
 rw[← hs1]
 clear hs1
 have h1:=h.le l1
 have kf:=(l1.2 qf (by omega)).trans hf
 have kv:=(l1.2 vb (by omega)).trans hv
 have ka:=(l1.2 ab (by omega)).trans ha
 have hf0:=h.fresh (c:=s.next) (Nat.le_refl _)
 have hf1:=h.fresh (c:=s.next+1) (by omega)
 have hf2:=h.fresh (c:=s.next+2) (by omega)
 have us1:Upd s s1 (ownS q gb ov tv O) (ownS q gb ov tv O) := .of_le l1
 have fin:∀ {s2:St M}{O2:Nat→Prop}{ov2 tv2:Value}{N2:Nat}{D2:StD}(k m:Int) (x:ByteArray) (lays:Bool),N2≤N+4→StIn lo s2 q D2 N2 O2 p gb ov2 tv2→s.next≤s2.next→(∀ c,c<s.next→¬ ownS q gb ov tv O c→c≠vb→s2.at' c=s.at' c)→(∀ c,ownS q gb ov2 tv2 O2 c→ownS q gb ov tv O c∨s.next≤c)→¬ ownS q gb ov2 tv2 O2 (s.next+2)→∀ B,R (.tuple #[vA k m x,.bool lays,.bool (goesB D2)]) (s2.put (s.next+2) B):=fun {s2 O2 ov2 tv2 N2 D2} k m x lays hN2 h2 n2 k2 o2 f2 B =>
  hR _ D2 O2 ov2 tv2 k m x lays ((h2.mono hN2).same (Nat.le_refl _) fun b hb=>by rw[St.at_put,if_neg (fun e:b=s.next+2=>f2 (e▸hb))]) n2 (fun c hc ho hcv=>by rw[St.at_put,if_neg (by omega)];exact k2 c hc ho hcv) o2
 have finU:∀ {s2:St M}{O2:Nat→Prop}{ov2 tv2:Value}{N2:Nat}{D2:StD}(k m:Int) (x:ByteArray) (lays:Bool),N2≤N+4→StIn lo s2 q D2 N2 O2 p gb ov2 tv2→Upd s1 s2 (ownS q gb ov tv O) (ownS q gb ov2 tv2 O2)→¬ ownS q gb ov2 tv2 O2 (s.next+2)→∀ B,R (.tuple #[vA k m x,.bool lays,.bool (goesB D2)]) (s2.put (s.next+2) B):=fun {s2 O2 ov2 tv2 N2 D2} k m x lays hN2 h2 u2 f2 B =>
  fin k m x lays hN2 h2 (us1.trans u2).next (fun c hc ho _=>(us1.trans u2).keep c hc ho) (us1.trans u2).own f2 B
 have finW:∀ {s2:St M}{O2:Nat→Prop}{ov2 tv2:Value}{N2:Nat}{D2:StD}(k m:Int) (x:ByteArray) (lays:Bool),N2≤N+4→StIn lo s2 q D2 N2 O2 p gb ov2 tv2→Upd s1 s2 (ownS q gb ov tv O) (ownS q gb ov2 tv2 O2)→¬ ownS q gb ov2 tv2 O2 (s.next+2)→∀ B B',R (.tuple #[vA k m x,.bool lays,.bool (goesB D2)]) ((s2.put (s.next+2) B).put (s.next+2) B'):=fun {s2 O2 ov2 tv2 N2 D2} k m x lays hN2 h2 u2 f2 B B'=>by
  obtain⟨g1,g2⟩:=h2.loc (c:=s.next+2) (B:=B) (us1.trans u2) (by omega) f2
  exact fin k m x lays hN2 g1 g2.next (fun c hc ho _=>g2.keep c hc ho) g2.own f2 B'
 unfold vA at fin finU finW
 have arg:∀ i v,l[i]?=some v→(ao+i)*3+3≤(us.flatMap val3).length∧List.take 3 (List.drop ((ao+i)*3) (us.flatMap val3))=[.int .i64 v.1,.int .i64 v.2.1,.string v.2.2]∧I64 v.2.1:=fun i v hi=>by
  have hil:=(List.getElem?_eq_some_iff.1 hi).1
  have:=val3_cut ((hu i hil).trans hi)
  exact⟨this.1,this.2,hI v (List.mem_of_getElem? hi)⟩
 have l1of:l.length=1→∃ x1,l=[x1]:=fun e=>List.length_eq_one_iff.1 e
 have l2of:l.length=2→∃ x1 x2,l=[x1,x2]:=fun e=>by
  match l,e with
  | [a,b],_=>exact⟨a,b,rfl⟩
 have l3of:l.length=3→∃ x1 x2 x3,l=[x1,x2,x3]:=fun e=>by
  match l,e with
  | [a,b,c],_=>exact⟨a,b,c,rfl⟩
 have l01:(0:Int)<((1:Nat):Int):=by omega
 have l02:(0:Int)<((2:Nat):Int):=by omega
 have l12:(1:Int)<((2:Nat):Int):=by omega
 have l03:(0:Int)<((3:Nat):Int):=by omega
 have l13:(1:Int)<((3:Nat):Int):=by omega
 have l23:(2:Int)<((3:Nat):Int):=by omega
 have str:∀ o,(op=5∨op=13∨op=14∨op=15∨op=18∨op=27)→o=op→∃ (an j:Nat) (us:List ByteArray) (x:ByteArray),a3=(an:Int)∧pl=some ⟨j,0,none⟩∧j<lo∧s1.at' j=some (.cells (us.flatMap strC) 9 false)∧(us.flatMap strC)[an]?=some (.string x)∧((0:Int)≤(an:Int)∧(an:Int)<(pool.length:Int)):=fun o hop _=>by
  have ha:=hA.2.2.1 hop
  obtain⟨an,rfl⟩:∃ an:Nat,a3=(an:Int):=⟨a3.toNat,by omega⟩
  have hx:pool[an]?=some (pool[an]'(by omega)):=List.getElem?_eq_getElem _
  generalize pool[an]'(by omega)=x at hx
  rcases hpl with h0|⟨j,us,rfl,hj,hjb,hus⟩
  ·rw[h0]at hx;simp at hx
  ·refine⟨an,j,us,x,rfl,rfl,hpj j rfl,(l1.2 j hj).trans hjb,?_,ha⟩
   rw[strC_map,List.getElem?_map,hus an (by omega),hx];rfl
 rcases (show op=1∨op=9∨op=11∨op=13∨op=15∨op=17∨op=18∨op=19∨op=30∨op=31∨op=14∨op=27∨op=16∨op=20∨op=21∨op=29∨(op=2∨op=3∨op=4∨op=5∨op=6∨op=7∨op=8∨op=10∨op=12) by have:=hA.1;omega) with rfl|rfl|rfl|rfl|rfl|rfl|rfl|rfl|rfl|rfl|rfl|rfl|rfl|rfl|rfl|rfl|hpush
 ·skip
  simp -implicitDefEqProofs only[↓Zd,(Zp),Zr,simprocAttr,qP,Value.cells,cut,qC,cld2,(HEx),(TAx),(BBx),(TBx),vA,e0,e1,e2,kf,ka,Nat.zero_add,Nat.add_zero,co18,ord89]
  refine stick_spec h1 ha3 fun s2 h2 u2=>?_
  have n2:=u2.next
  obtain⟨f2,k2⟩:=u2.loc (c:=s.next+2) (by omega) hf2
  have e22:=k2.trans e2
  have e02:=((u2.loc (c:=s.next) (by omega) hf0).2).trans e0
  have e12:=((u2.loc (c:=s.next+1) (by omega) hf1).2).trans e1
  have kf2:=(u2.keep qf (by omega) (hlow qf hqf)).trans kf
  have ka2:=(u2.keep ab (by omega) (hlow ab hab)).trans ka
  simp -implicitDefEqProofs only[↓Zd,(Zp),Zr,simprocAttr,qP,Value.cells,cut,qC,cld2,(HEx),(TAx),(BBx),(TBx),vA,e02,e12,e22,kf2,ka2,Nat.zero_add,Nat.add_zero,co18,ord89]
  exact finU _ _ _ _ (by omega) h2 u2 f2 _
 ·skip
  obtain⟨y1,rfl⟩:=l1of (by have:effP 9 a3=1:=rfl;omega)
  obtain⟨c0a,c0b,c0i⟩:=arg 0 y1 rfl
  obtain⟨k0,m0,x0⟩:=y1
  simp only[Nat.add_zero,Nat.add_mul,Nat.one_mul,Nat.reduceMul,List.length_cons,List.length_nil,Nat.zero_add]at c0a c0b
  have hal:=hloc (.inr rfl)
  have ha0:=hA.2.2.2.1 (.inr rfl)
  obtain⟨an,rfl⟩:∃ an:Nat,a3=(an:Int):=⟨a3.toNat,by omega⟩
  have hx:V[an]?=some (V[an]'(by omega)):=List.getElem?_eq_getElem _
  obtain⟨d1,d2⟩:=val3_cut hx
  have d3:=val3_set (g:=V) (k:=an) (k0,m0,x0) (by omega)
  simp only at d3
  have haa:(0:Int)≤(an:Int)∧(an:Int)<(V.length:Int):=by omega
  have hvn:¬ s.next+2=vb:=by omega
  simp -implicitDefEqProofs only[↓Zd,(Zp),Zr,simprocAttr,qP,Value.cells,cut,qC,cld2,(HEx),(TAx),(BBx),(TBx),vA,e0,e1,e2,kf,ka,kv,haa,d1,d2,hvn,c0a,c0b,l01,Nat.zero_add,Nat.add_zero,ord89]
  have hvo:=hlow vb hvb
  have:=fin (s2:=s1.put vb (.cells (setCells (V.flatMap val3) (an*3) [.int .i64 k0,.int .i64 m0,.string x0]) 31 true)) (D2:=D) 0 0 ⟨#[]⟩ false (by omega) (h1.same (Nat.le_refl _) fun b hb=>by rw[St.at_put,if_neg (fun e:b=vb=>hvo (e▸hb))]) (by simp only[St.next_put];omega) (fun c hc ho hcv=>by rw[St.at_put,if_neg hcv,l1.2 c hc]) (fun c hc => .inl hc) hf2
  rw[hg]at this
  exact this _
 ·skip
  obtain⟨y1,rfl⟩:=l1of (by have:effP 11 a3=1:=rfl;omega)
  obtain⟨c0a,c0b,c0i⟩:=arg 0 y1 rfl
  obtain⟨k0,m0,x0⟩:=y1
  simp only[Nat.add_zero,Nat.add_mul,Nat.one_mul,Nat.reduceMul,List.length_cons,List.length_nil,Nat.zero_add]at c0a c0b
  have hag:=hA.2.2.2.2.1 (.inr rfl)
  have hset:setgB D a3=true:=by unfold setgB;rw[hg,decide_eq_true (by omega)];rfl
  simp -implicitDefEqProofs only[↓Zd,(Zp),Zr,simprocAttr,qP,Value.cells,cut,qC,cld2,(HEx),(TAx),(BBx),(TBx),vA,e0,e1,e2,kf,ka,c0a,c0b,l01,Nat.zero_add,Nat.add_zero,co23,ord89]
  refine ssetg_spec h1 fun s2 h2 u2=>?_
  have n2:=u2.next
  obtain⟨f2,k2⟩:=u2.loc (c:=s.next+2) (by omega) hf2
  have e22:=k2.trans e2
  have e02:=((u2.loc (c:=s.next) (by omega) hf0).2).trans e0
  have e12:=((u2.loc (c:=s.next+1) (by omega) hf1).2).trans e1
  have kf2:=(u2.keep qf (by omega) (hlow qf hqf)).trans kf
  have ka2:=(u2.keep ab (by omega) (hlow ab hab)).trans ka
  have hgs:goesB (setgT D a3 (k0,m0,x0))=true:=by unfold setgT;rw[hset,if_pos rfl];exact hg
  rw[hset]
  simp -implicitDefEqProofs only[↓Zd,(Zp),Zr,simprocAttr,qP,Value.cells,cut,qC,cld2,(HEx),(TAx),(BBx),(TBx),vA,e02,e12,e22,kf2,ka2,c0a,c0b,l01,Nat.zero_add,Nat.add_zero,co23,ord89]
  have:=finU 0 0 ⟨#[]⟩ false (by omega) h2 u2 f2
  rw[hgs]at this
  exact this _
 ·skip
  obtain⟨y1,y2,rfl⟩:=l2of (by have:effP 13 a3=2:=rfl;omega)
  obtain⟨c0a,c0b,c0i⟩:=arg 0 y1 rfl
  obtain⟨k0,m0,x0⟩:=y1
  obtain⟨c1a,c1b,c1i⟩:=arg 1 y2 rfl
  obtain⟨k1,m1,x1⟩:=y2
  simp only[Nat.add_zero,Nat.add_mul,Nat.one_mul,Nat.reduceMul,List.length_cons,List.length_nil,Nat.zero_add]at c0a c0b c1a c1b
  obtain⟨an,j,us',x,rfl,rfl,hjl,kj,d0,han⟩:=str _ (by omega) rfl
  simp -implicitDefEqProofs only[↓Zd,(Zp),Zr,simprocAttr,qP,Value.cells,cut,qC,cld2,(HEx),(TAx),(BBx),(TBx),vA,e0,e1,e2,kf,ka,c0a,c0b,c1a,c1b,l02,l12,kj,han,d0,Nat.mul_one,Nat.zero_add,Nat.add_zero,co19,ord89]
  refine stset_spec h1 (by omega) hN c0i fun s2 O2 tv2 h2 u2=>?_
  have n2:=u2.next
  obtain⟨f2,k2⟩:=u2.loc (c:=s.next+2) (by omega) hf2
  have e22:=k2.trans e2
  have e02:=((u2.loc (c:=s.next) (by omega) hf0).2).trans e0
  have e12:=((u2.loc (c:=s.next+1) (by omega) hf1).2).trans e1
  have kf2:=(u2.keep qf (by omega) (hlow qf hqf)).trans kf
  have ka2:=(u2.keep ab (by omega) (hlow ab hab)).trans ka
  have kj2:=(u2.keep j (by omega) (hlow j hjl)).trans kj
  simp -implicitDefEqProofs only[↓Zd,(Zp),Zr,simprocAttr,qP,Value.cells,cut,qC,cld2,(HEx),(TAx),(BBx),(TBx),vA,e02,e12,e22,kf2,ka2,c0a,c0b,c1a,c1b,l02,l12,kj2,han,d0,Nat.mul_one,Nat.zero_add,Nat.add_zero,co19,ord89]
  exact finU _ _ _ _ (by omega) h2 u2 f2 _
 ·skip
  obtain⟨y1,y2,rfl⟩:=l2of (by have:effP 15 a3=2:=rfl;omega)
  obtain⟨c0a,c0b,c0i⟩:=arg 0 y1 rfl
  obtain⟨k0,m0,x0⟩:=y1
  obtain⟨c1a,c1b,c1i⟩:=arg 1 y2 rfl
  obtain⟨k1,m1,x1⟩:=y2
  simp only[Nat.add_zero,Nat.add_mul,Nat.one_mul,Nat.reduceMul,List.length_cons,List.length_nil,Nat.zero_add]at c0a c0b c1a c1b
  obtain⟨an,j,us',x,rfl,rfl,hjl,kj,d0,han⟩:=str _ (by omega) rfl
  simp -implicitDefEqProofs only[↓Zd,(Zp),Zr,simprocAttr,qP,Value.cells,cut,qC,cld2,(HEx),(TAx),(BBx),(TBx),vA,e0,e1,e2,kf,ka,c0a,c0b,c1a,c1b,l02,l12,kj,han,d0,Nat.mul_one,Nat.zero_add,Nat.add_zero,co19,ord89]
  refine stset_spec h1 (by omega) hN c0i fun s2 O2 tv2 h2 u2=>?_
  have n2:=u2.next
  obtain⟨f2,k2⟩:=u2.loc (c:=s.next+2) (by omega) hf2
  have e22:=k2.trans e2
  have e02:=((u2.loc (c:=s.next) (by omega) hf0).2).trans e0
  have e12:=((u2.loc (c:=s.next+1) (by omega) hf1).2).trans e1
  have kf2:=(u2.keep qf (by omega) (hlow qf hqf)).trans kf
  have ka2:=(u2.keep ab (by omega) (hlow ab hab)).trans ka
  have kj2:=(u2.keep j (by omega) (hlow j hjl)).trans kj
  simp -implicitDefEqProofs only[↓Zd,(Zp),Zr,simprocAttr,qP,Value.cells,cut,qC,cld2,(HEx),(TAx),(BBx),(TBx),vA,e02,e12,e22,kf2,ka2,c0a,c0b,c1a,c1b,l02,l12,kj2,han,d0,Nat.mul_one,Nat.zero_add,Nat.add_zero,co19,ord89]
  exact finU _ _ _ _ (by omega) h2 u2 f2 _
 ·skip
  obtain⟨y1,y2,y3,rfl⟩:=l3of (by have:effP 17 a3=3:=rfl;omega)
  obtain⟨c0a,c0b,c0i⟩:=arg 0 y1 rfl
  obtain⟨k0,m0,x0⟩:=y1
  obtain⟨c1a,c1b,c1i⟩:=arg 1 y2 rfl
  obtain⟨k1,m1,x1⟩:=y2
  obtain⟨c2a,c2b,c2i⟩:=arg 2 y3 rfl
  obtain⟨k2,m2,x2⟩:=y3
  simp only[Nat.add_zero,Nat.add_mul,Nat.one_mul,Nat.reduceMul,List.length_cons,List.length_nil,Nat.zero_add]at c0a c0b c1a c1b c2a c2b
  simp -implicitDefEqProofs only[↓Zd,(Zp),Zr,simprocAttr,qP,Value.cells,cut,qC,cld2,(HEx),(TAx),(BBx),(TBx),vA,e0,e1,e2,kf,ka,c0a,c0b,c1a,c1b,c2a,c2b,l03,l13,l23,Nat.zero_add,Nat.add_zero,co20,ord89]
  refine ssetix_spec h1 (by omega) hN c0i fun s2 O2 tv2 h2 u2=>?_
  have n2:=u2.next
  obtain⟨f2,k2⟩:=u2.loc (c:=s.next+2) (by omega) hf2
  have e22:=k2.trans e2
  have e02:=((u2.loc (c:=s.next) (by omega) hf0).2).trans e0
  have e12:=((u2.loc (c:=s.next+1) (by omega) hf1).2).trans e1
  have kf2:=(u2.keep qf (by omega) (hlow qf hqf)).trans kf
  have ka2:=(u2.keep ab (by omega) (hlow ab hab)).trans ka
  simp -implicitDefEqProofs only[↓Zd,(Zp),Zr,simprocAttr,qP,Value.cells,cut,qC,cld2,(HEx),(TAx),(BBx),(TBx),vA,e02,e12,e22,kf2,ka2,c0a,c0b,c1a,c1b,c2a,c2b,l03,l13,l23,Nat.zero_add,Nat.add_zero,co20,ord89]
  exact finU _ _ _ _ (by omega) h2 u2 f2 _
 ·skip
  obtain⟨y1,rfl⟩:=l1of (by have:effP 18 a3=1:=rfl;omega)
  obtain⟨c0a,c0b,c0i⟩:=arg 0 y1 rfl
  obtain⟨k0,m0,x0⟩:=y1
  simp only[Nat.add_zero,Nat.add_mul,Nat.one_mul,Nat.reduceMul,List.length_cons,List.length_nil,Nat.zero_add]at c0a c0b
  obtain⟨an,j,us',x,rfl,rfl,hjl,kj,d0,han⟩:=str _ (by omega) rfl
  simp -implicitDefEqProofs only[↓Zd,(Zp),Zr,simprocAttr,qP,Value.cells,cut,qC,cld2,(HEx),(TAx),(BBx),(TBx),vA,e0,e1,e2,kf,ka,c0a,c0b,l01,kj,han,d0,Nat.mul_one,Nat.zero_add,Nat.add_zero,co21,ord89]
  refine sdel_spec h1 (by omega) hN c0i fun s2 O2 tv2 h2 u2=>?_
  have n2:=u2.next
  obtain⟨f2,k2⟩:=u2.loc (c:=s.next+2) (by omega) hf2
  have e22:=k2.trans e2
  have e02:=((u2.loc (c:=s.next) (by omega) hf0).2).trans e0
  have e12:=((u2.loc (c:=s.next+1) (by omega) hf1).2).trans e1
  have kf2:=(u2.keep qf (by omega) (hlow qf hqf)).trans kf
  have ka2:=(u2.keep ab (by omega) (hlow ab hab)).trans ka
  have kj2:=(u2.keep j (by omega) (hlow j hjl)).trans kj
  simp -implicitDefEqProofs only[↓Zd,(Zp),Zr,simprocAttr,qP,Value.cells,cut,qC,cld2,(HEx),(TAx),(BBx),(TBx),vA,e02,e12,e22,kf2,ka2,c0a,c0b,l01,kj2,han,d0,Nat.mul_one,Nat.zero_add,Nat.add_zero,co21,ord89]
  exact finU _ _ _ _ (by omega) h2 u2 f2 _
 ·skip
  obtain⟨y1,y2,rfl⟩:=l2of (by have:effP 19 a3=2:=rfl;omega)
  obtain⟨c0a,c0b,c0i⟩:=arg 0 y1 rfl
  obtain⟨k0,m0,x0⟩:=y1
  obtain⟨c1a,c1b,c1i⟩:=arg 1 y2 rfl
  obtain⟨k1,m1,x1⟩:=y2
  simp only[Nat.add_zero,Nat.add_mul,Nat.one_mul,Nat.reduceMul,List.length_cons,List.length_nil,Nat.zero_add]at c0a c0b c1a c1b
  simp -implicitDefEqProofs only[↓Zd,(Zp),Zr,simprocAttr,qP,Value.cells,cut,qC,cld2,(HEx),(TAx),(BBx),(TBx),vA,e0,e1,e2,kf,ka,c0a,c0b,c1a,c1b,l02,l12,Nat.zero_add,Nat.add_zero,co49,ord89]
  refine sdelix_spec h1 (by omega) hN c0i fun s2 O2 tv2 h2 u2=>?_
  have n2:=u2.next
  obtain⟨f2,k2⟩:=u2.loc (c:=s.next+2) (by omega) hf2
  have e22:=k2.trans e2
  have e02:=((u2.loc (c:=s.next) (by omega) hf0).2).trans e0
  have e12:=((u2.loc (c:=s.next+1) (by omega) hf1).2).trans e1
  have kf2:=(u2.keep qf (by omega) (hlow qf hqf)).trans kf
  have ka2:=(u2.keep ab (by omega) (hlow ab hab)).trans ka
  simp -implicitDefEqProofs only[↓Zd,(Zp),Zr,simprocAttr,qP,Value.cells,cut,qC,cld2,(HEx),(TAx),(BBx),(TBx),vA,e02,e12,e22,kf2,ka2,c0a,c0b,c1a,c1b,l02,l12,Nat.zero_add,Nat.add_zero,co49,ord89]
  exact finU _ _ _ _ (by omega) h2 u2 f2 _
 ·skip
  obtain⟨y1,rfl⟩:=l1of (by have:effP 30 a3=1:=rfl;omega)
  obtain⟨c0a,c0b,c0i⟩:=arg 0 y1 rfl
  obtain⟨k0,m0,x0⟩:=y1
  simp only[Nat.add_zero,Nat.add_mul,Nat.one_mul,Nat.reduceMul,List.length_cons,List.length_nil,Nat.zero_add]at c0a c0b
  simp -implicitDefEqProofs only[↓Zd,(Zp),Zr,simprocAttr,qP,Value.cells,cut,qC,cld2,(HEx),(TAx),(BBx),(TBx),vA,e0,e1,e2,kf,ka,c0a,c0b,l01,Nat.zero_add,Nat.add_zero,co22,ord89]
  refine sprint_spec h1 hN c0i fun s2 ov2 h2 u2=>?_
  have n2:=u2.next
  obtain⟨f2,k2⟩:=u2.loc (c:=s.next+2) (by omega) hf2
  have e22:=k2.trans e2
  have e02:=((u2.loc (c:=s.next) (by omega) hf0).2).trans e0
  have e12:=((u2.loc (c:=s.next+1) (by omega) hf1).2).trans e1
  have kf2:=(u2.keep qf (by omega) (hlow qf hqf)).trans kf
  have ka2:=(u2.keep ab (by omega) (hlow ab hab)).trans ka
  have hgs:goesB (printS D (k0,m0,x0))=true:=by unfold printS;rw[hg,if_pos rfl];exact hg
  rw[hg]
  simp -implicitDefEqProofs only[↓Zd,(Zp),Zr,simprocAttr,qP,Value.cells,cut,qC,cld2,(HEx),(TAx),(BBx),(TBx),vA,e02,e12,e22,kf2,ka2,c0a,c0b,l01,Nat.zero_add,Nat.add_zero,co22,ord89]
  have:=finU 0 0 ⟨#[]⟩ false (by omega) h2 u2 f2
  rw[hgs]at this
  exact this _
 ·skip
  simp -implicitDefEqProofs only[↓Zd,(Zp),Zr,simprocAttr,qP,Value.cells,cut,qC,cld2,(HEx),(TAx),(BBx),(TBx),vA,e2,ord89]
  have:=finU (s2:=s1) (D2:=D) 0 0 ⟨#[]⟩ false (by omega) h1 .refl hf2
  rw[hg]at this
  exact this _
 ·skip
  obtain⟨y1,rfl⟩:=l1of (by have:effP 14 a3=1:=rfl;omega)
  obtain⟨c0a,c0b,c0i⟩:=arg 0 y1 rfl
  obtain⟨k0,m0,x0⟩:=y1
  simp only[Nat.add_zero,Nat.add_mul,Nat.one_mul,Nat.reduceMul,List.length_cons,List.length_nil,Nat.zero_add]at c0a c0b
  obtain⟨an,j,us',x,rfl,rfl,hjl,kj,d0,han⟩:=str _ (by omega) rfl
  simp -implicitDefEqProofs only[↓Zd,(Zp),Zr,simprocAttr,qP,Value.cells,cut,qC,cld2,(HEx),(TAx),(BBx),(TBx),vA,e0,e1,e2,kf,ka,c0a,c0b,l01,kj,han,d0,Nat.mul_one,Nat.zero_add,Nat.add_zero,co14,ord89]
  refine stget_spec h1 c0i fun s2 ra rb rx h2 u2=>?_
  have n2:=u2.next
  obtain⟨f2,k2⟩:=u2.loc (c:=s.next+2) (by omega) hf2
  have e22:=k2.trans e2
  have e02:=((u2.loc (c:=s.next) (by omega) hf0).2).trans e0
  have e12:=((u2.loc (c:=s.next+1) (by omega) hf1).2).trans e1
  have kf2:=(u2.keep qf (by omega) (hlow qf hqf)).trans kf
  have ka2:=(u2.keep ab (by omega) (hlow ab hab)).trans ka
  have kj2:=(u2.keep j (by omega) (hlow j hjl)).trans kj
  unfold vA
  simp -implicitDefEqProofs only[↓Zd,(Zp),Zr,simprocAttr,qP,Value.cells,cut,qC,cld2,(HEx),(TAx),(BBx),(TBx),vA,e02,e12,e22,kf2,ka2,c0a,c0b,l01,kj2,han,d0,Nat.mul_one,Nat.zero_add,Nat.add_zero,co14,ord89]
  exact finW _ _ _ _ (by omega) h2 u2 f2 _ _
 ·skip
  obtain⟨y1,rfl⟩:=l1of (by have:effP 27 a3=1:=rfl;omega)
  obtain⟨c0a,c0b,c0i⟩:=arg 0 y1 rfl
  obtain⟨k0,m0,x0⟩:=y1
  simp only[Nat.add_zero,Nat.add_mul,Nat.one_mul,Nat.reduceMul,List.length_cons,List.length_nil,Nat.zero_add]at c0a c0b
  obtain⟨an,j,us',x,rfl,rfl,hjl,kj,d0,han⟩:=str _ (by omega) rfl
  simp -implicitDefEqProofs only[↓Zd,(Zp),Zr,simprocAttr,qP,Value.cells,cut,qC,cld2,(HEx),(TAx),(BBx),(TBx),vA,e0,e1,e2,kf,ka,c0a,c0b,l01,kj,han,d0,Nat.mul_one,Nat.zero_add,Nat.add_zero,co14,ord89]
  refine stget_spec h1 c0i fun s2 ra rb rx h2 u2=>?_
  have n2:=u2.next
  obtain⟨f2,k2⟩:=u2.loc (c:=s.next+2) (by omega) hf2
  have e22:=k2.trans e2
  have e02:=((u2.loc (c:=s.next) (by omega) hf0).2).trans e0
  have e12:=((u2.loc (c:=s.next+1) (by omega) hf1).2).trans e1
  have kf2:=(u2.keep qf (by omega) (hlow qf hqf)).trans kf
  have ka2:=(u2.keep ab (by omega) (hlow ab hab)).trans ka
  have kj2:=(u2.keep j (by omega) (hlow j hjl)).trans kj
  unfold vA
  simp -implicitDefEqProofs only[↓Zd,(Zp),Zr,simprocAttr,qP,Value.cells,cut,qC,cld2,(HEx),(TAx),(BBx),(TBx),vA,e02,e12,e22,kf2,ka2,c0a,c0b,l01,kj2,han,d0,Nat.mul_one,Nat.zero_add,Nat.add_zero,co14,ord89]
  exact finW _ _ _ _ (by omega) h2 u2 f2 _ _
 ·skip
  obtain⟨y1,y2,rfl⟩:=l2of (by have:effP 16 a3=2:=rfl;omega)
  obtain⟨c0a,c0b,c0i⟩:=arg 0 y1 rfl
  obtain⟨k0,m0,x0⟩:=y1
  obtain⟨c1a,c1b,c1i⟩:=arg 1 y2 rfl
  obtain⟨k1,m1,x1⟩:=y2
  simp only[Nat.add_zero,Nat.add_mul,Nat.one_mul,Nat.reduceMul,List.length_cons,List.length_nil,Nat.zero_add]at c0a c0b c1a c1b
  simp -implicitDefEqProofs only[↓Zd,(Zp),Zr,simprocAttr,qP,Value.cells,cut,qC,cld2,(HEx),(TAx),(BBx),(TBx),vA,e0,e1,e2,kf,ka,c0a,c0b,c1a,c1b,l02,l12,Nat.zero_add,Nat.add_zero,co45,ord89]
  refine sgetix_spec h1 c0i fun s2 ra rb rx h2 u2=>?_
  have n2:=u2.next
  obtain⟨f2,k2⟩:=u2.loc (c:=s.next+2) (by omega) hf2
  have e22:=k2.trans e2
  have e02:=((u2.loc (c:=s.next) (by omega) hf0).2).trans e0
  have e12:=((u2.loc (c:=s.next+1) (by omega) hf1).2).trans e1
  have kf2:=(u2.keep qf (by omega) (hlow qf hqf)).trans kf
  have ka2:=(u2.keep ab (by omega) (hlow ab hab)).trans ka
  unfold vA
  simp -implicitDefEqProofs only[↓Zd,(Zp),Zr,simprocAttr,qP,Value.cells,cut,qC,cld2,(HEx),(TAx),(BBx),(TBx),vA,e02,e12,e22,kf2,ka2,c0a,c0b,c1a,c1b,l02,l12,Nat.zero_add,Nat.add_zero,co45,ord89]
  exact finW _ _ _ _ (by omega) h2 u2 f2 _ _
 ·skip
  obtain⟨y1,rfl⟩:=l1of (by have:effP 20 a3=1:=rfl;omega)
  obtain⟨c0a,c0b,c0i⟩:=arg 0 y1 rfl
  obtain⟨k0,m0,x0⟩:=y1
  simp only[Nat.add_zero,Nat.add_mul,Nat.one_mul,Nat.reduceMul,List.length_cons,List.length_nil,Nat.zero_add]at c0a c0b
  simp -implicitDefEqProofs only[↓Zd,(Zp),Zr,simprocAttr,qP,Value.cells,cut,qC,cld2,(HEx),(TAx),(BBx),(TBx),vA,e0,e1,e2,kf,ka,c0a,c0b,l01,Nat.zero_add,Nat.add_zero,co111,ord89]
  refine sun_spec h1 fun s2 ra rb rx h2 u2=>?_
  have n2:=u2.next
  obtain⟨f2,k2⟩:=u2.loc (c:=s.next+2) (by omega) hf2
  have e22:=k2.trans e2
  have e02:=((u2.loc (c:=s.next) (by omega) hf0).2).trans e0
  have e12:=((u2.loc (c:=s.next+1) (by omega) hf1).2).trans e1
  have kf2:=(u2.keep qf (by omega) (hlow qf hqf)).trans kf
  have ka2:=(u2.keep ab (by omega) (hlow ab hab)).trans ka
  unfold vA
  simp -implicitDefEqProofs only[↓Zd,(Zp),Zr,simprocAttr,qP,Value.cells,cut,qC,cld2,(HEx),(TAx),(BBx),(TBx),vA,e02,e12,e22,kf2,ka2,c0a,c0b,l01,Nat.zero_add,Nat.add_zero,co111,ord89]
  exact finW _ _ _ _ (by omega) h2 u2 f2 _ _
 ·skip
  obtain⟨y1,y2,rfl⟩:=l2of (by have:effP 21 a3=2:=rfl;omega)
  obtain⟨c0a,c0b,c0i⟩:=arg 0 y1 rfl
  obtain⟨k0,m0,x0⟩:=y1
  obtain⟨c1a,c1b,c1i⟩:=arg 1 y2 rfl
  obtain⟨k1,m1,x1⟩:=y2
  simp only[Nat.add_zero,Nat.add_mul,Nat.one_mul,Nat.reduceMul,List.length_cons,List.length_nil,Nat.zero_add]at c0a c0b c1a c1b
  simp -implicitDefEqProofs only[↓Zd,(Zp),Zr,simprocAttr,qP,Value.cells,cut,qC,cld2,(HEx),(TAx),(BBx),(TBx),vA,e0,e1,e2,kf,ka,c0a,c0b,c1a,c1b,l02,l12,Nat.zero_add,Nat.add_zero,co15,ord89]
  refine sbin_spec h1 c0i fun s2 ra rb rx h2 u2=>?_
  have n2:=u2.next
  obtain⟨f2,k2⟩:=u2.loc (c:=s.next+2) (by omega) hf2
  have e22:=k2.trans e2
  have e02:=((u2.loc (c:=s.next) (by omega) hf0).2).trans e0
  have e12:=((u2.loc (c:=s.next+1) (by omega) hf1).2).trans e1
  have kf2:=(u2.keep qf (by omega) (hlow qf hqf)).trans kf
  have ka2:=(u2.keep ab (by omega) (hlow ab hab)).trans ka
  unfold vA
  simp -implicitDefEqProofs only[↓Zd,(Zp),Zr,simprocAttr,qP,Value.cells,cut,qC,cld2,(HEx),(TAx),(BBx),(TBx),vA,e02,e12,e22,kf2,ka2,c0a,c0b,c1a,c1b,l02,l12,Nat.zero_add,Nat.add_zero,co15,ord89]
  exact finW _ _ _ _ (by omega) h2 u2 f2 _ _
 ·skip
  have hbl:(l.length:Int)=builtN a3:=hl
  have hbl2:builtN a3≤2:=by unfold builtN;(repeat' split)<;>omega
  simp -implicitDefEqProofs only[↓Zd,(Zp),Zr,simprocAttr,qP,Value.cells,cut,qC,cld2,(HEx),(TAx),(BBx),(TBx),vA,e0,e1,e2,kf,ka,Nat.zero_add,Nat.add_zero,co16,ord89]
  refine sbuilt_spec (us:=us) (own:=own) h1 (by omega) hN (.inr trivial) hI (by omega) (by omega) (hlow ab hab) ka hu fun s2 O2 tv2 ra rb rx h2 u2=>?_
  have n2:=u2.next
  obtain⟨f2,k2⟩:=u2.loc (c:=s.next+2) (by omega) hf2
  have e22:=k2.trans e2
  have e02:=((u2.loc (c:=s.next) (by omega) hf0).2).trans e0
  have e12:=((u2.loc (c:=s.next+1) (by omega) hf1).2).trans e1
  have kf2:=(u2.keep qf (by omega) (hlow qf hqf)).trans kf
  have ka2:=(u2.keep ab (by omega) (hlow ab hab)).trans ka
  unfold vA
  simp -implicitDefEqProofs only[↓Zd,(Zp),Zr,simprocAttr,qP,Value.cells,cut,qC,cld2,(HEx),(TAx),(BBx),(TBx),vA,e02,e12,e22,kf2,ka2,Nat.zero_add,Nat.add_zero,co16,ord89]
  exact finW _ _ _ _ (by omega) h2 u2 f2 _ _
 ·skip
  have hnl:l=[]:=by
   have:effP op a3=0:=by rcases hpush with rfl|rfl|rfl|rfl|rfl|rfl|rfl|rfl|rfl<;>rfl
   exact List.eq_nil_of_length_eq_zero (by omega)
  have hpl1:QRow 9 strC s1 pl pool:=hpl.le l1
  have p1:¬ op=1:=by omega
  have p9:¬ op=9:=by omega
  have p11:¬ op=11:=by omega
  have p13:¬ op=13:=by omega
  have p15:¬ op=15:=by omega
  have p17:¬ op=17:=by omega
  have p18:¬ op=18:=by omega
  have p19:¬ op=19:=by omega
  have p30:¬ op=30:=by omega
  have p31:¬ op=31:=by omega
  have p14:¬ op=14:=by omega
  have p27:¬ op=27:=by omega
  have p16:¬ op=16:=by omega
  have p20:¬ op=20:=by omega
  have p21:¬ op=21:=by omega
  have p29:¬ op=29:=by omega
  simp -implicitDefEqProofs only[↓Zd,(Zp),Zr,simprocAttr,qP,Value.cells,cut,qC,cld2,(HEx),(TAx),(BBx),(TBx),vA,e0,e1,e2,p1,p9,p11,p13,p15,p17,p18,p19,p30,p31,p14,p27,p16,p20,p21,p29,co177,ord89]
  refine push_spec h1 (by omega) hN kf (by omega) kv (by omega) hpl1 hA (fun e=>hloc (.inl e)) hpush (fun s2 D2 O2 ra rb rx h2 u2 _=>?_) hg
  have n2:=u2.next
  obtain⟨f2,k2⟩:=u2.loc (c:=s.next+2) (by omega) hf2
  have e22:=k2.trans e2
  have e02:=((u2.loc (c:=s.next) (by omega) hf0).2).trans e0
  have e12:=((u2.loc (c:=s.next+1) (by omega) hf1).2).trans e1
  have kf2:=(u2.keep qf (by omega) (hlow qf hqf)).trans kf
  have ka2:=(u2.keep ab (by omega) (hlow ab hab)).trans ka
  unfold vA
  simp -implicitDefEqProofs only[↓Zd,(Zp),Zr,simprocAttr,qP,Value.cells,cut,qC,cld2,(HEx),(TAx),(BBx),(TBx),vA,e22,co177,ord89]
  exact finW _ _ _ _ (by omega) h2 u2 f2 _ _
end
def evA(kd k n:Int)(x:ByteArray)(k2 n2:Int)(x2:ByteArray)(a:Option Addr)(m c:Nat):Value := .agg #[.int .i64 kd,.int .i64 k,.int .i64 n,.string x,.int .i64 k2,.int .i64 n2,.string x2,.slice a m c]
theorem bEv0:cbuild prog 66 #[]=some (evA 0 0 0 ⟨#[]⟩ 0 0 ⟨#[]⟩ none 0 0):=by kernel_rfl
theorem bEv3:cbuild prog 66 #[(0,.int .i64 3)]=some (evA 3 0 0 ⟨#[]⟩ 0 0 ⟨#[]⟩ none 0 0):=by kernel_rfl
theorem bEv1(k n:Int)(x:ByteArray)(a:Option Addr)(m c:Nat):cbuild prog 66 #[(0,.int .i64 1),(1,.agg #[.int .i64 k,.int .i64 n,.string x]),(3,.slice a m c)]=some (evA 1 k n x 0 0 ⟨#[]⟩ a m c):=by kernel_rfl
theorem bEv2(k n:Int)(x:ByteArray)(k2 n2:Int)(x2:ByteArray)(a:Option Addr)(m c:Nat):cbuild prog 66 #[(0,.int .i64 1),(1,.agg #[.int .i64 k,.int .i64 n,.string x]),(2,.agg #[.int .i64 k2,.int .i64 n2,.string x2]),(3,.slice a m c)]=some (evA 1 k n x k2 n2 x2 a m c):=by kernel_rfl
theorem bEvR(k n:Int)(x:ByteArray):cbuild prog 66 #[(0,.int .i64 2),(1,.agg #[.int .i64 k,.int .i64 n,.string x])]=some (evA 2 k n x 0 0 ⟨#[]⟩ none 0 0):=by kernel_rfl
theorem sl_args{b n c e:Nat}(hc:c=UNK∨(c=0∧n=0))(he:e≤n)(hn:n≤1000):∃ ao,cslice prog 48 (.slice (some ⟨b,0,none⟩) n c) (some (.int .i64 (e:Int))) (some (.int .i64 (n:Int))) (some (.int .i64 (n:Int)))=some (.slice (some ⟨b,ao*3,none⟩) (n - e) (n - e))∧(n - e=0∨ao=e)∧ao≤n:=by
 obtain⟨ie,hie,h1,_⟩:=infoV
 have hnU:n<UNK:=by unfold UNK;omega
 have hb:(0:Int)≤(n:Int)∧(n:Int)≤((n:Nat):Int):=by omega
 have hb2:(0:Int)≤(e:Int)∧(e:Int)≤((n:Nat):Int):=by omega
 have hcb:(if c=UNK then n else c)=n:=by
  rcases hc with rfl|⟨rfl,rfl⟩
  ·rw[if_pos rfl]
  ·rw[if_neg (by unfold UNK;omega)]
 by_cases hne:n=e
 ·subst hne
  refine⟨0,?_,.inl (by omega),by omega⟩
  unfold cslice
  simp only[underlying48,hie,hcb,cbound,Option.isSome_some,Option.isNone_some,Bool.and_false,Bool.false_and,Bool.false_eq_true,if_false,if_true,hb,and_self,Int.toNat_natCast,hnU,h1,Nat.zero_mul]
 ·refine⟨e,?_,.inr rfl,he⟩
  unfold cslice
  simp only[underlying48,hie,hcb,cbound,Option.isSome_some,Option.isNone_some,Bool.and_false,Bool.false_and,Bool.false_eq_true,if_false,if_true,hb,hb2,and_self,Int.toNat_natCast,hnU,h1,hne]
  rw[show Addr.add ⟨b,0,none⟩ (e*3)=⟨b,e*3,none⟩ by
   simp only[Addr.add,Nat.zero_add]
   split
   ·rename_i h0;rw[h0]
   ·rfl]
theorem sl_none2{b o n c:Nat}(h:c<UNK)(i:Nat)(hi:i≤n)(hn:n≤c):∃ o',cslice prog 48 (.slice (some ⟨b,o*3,none⟩) n c) (some (.int .i64 (i:Int))) none none=some (.slice (some ⟨b,o'*3,none⟩) (n - i) (c - i))∧(n - i=0∨o'=o+i)∧o'≤o+i:=by
 obtain⟨ie,hie,h1,_⟩:=infoV
 have hne:¬ c=UNK:=by omega
 have e2:(c == UNK)=false:=by simpa using hne
 have hb:(0:Int)≤(i:Int)∧(i:Int)≤((n:Nat):Int):=by omega
 by_cases hci:c=i
 ·subst hci
  refine⟨o,?_,.inl (by omega),by omega⟩
  unfold cslice
  simp only[underlying48,hie,cbound,hne,e2,if_false,if_true,Option.isSome_none,Option.isNone_none,Bool.and_false,Bool.true_and,Bool.false_and,Bool.false_eq_true,hb,and_self,Int.toNat_natCast,h,h1]
 ·refine⟨o+i,?_,.inr rfl,Nat.le_refl _⟩
  unfold cslice
  simp only[underlying48,hie,cbound,hne,e2,if_false,if_true,Option.isSome_none,Option.isNone_none,Bool.and_false,Bool.true_and,Bool.false_and,Bool.false_eq_true,hb,and_self,Int.toNat_natCast,h,h1,hci]
  rw[show Addr.add ⟨b,o*3,none⟩ (i*3)=⟨b,(o+i)*3,none⟩ by
   simp only[Addr.add,Nat.add_mul]
   split
   ·rename_i h0;rw[h0,Nat.add_zero]
   ·rfl]
theorem sl_cut{b n c e:Nat}(hc:c=UNK∨(c=0∧n=0))(he:e≤n)(hn:n≤1000):∃ c',cslice prog 48 (.slice (some ⟨b,0,none⟩) n c) none (some (.int .i64 (e:Int))) none=some (.slice (some ⟨b,0,none⟩) e c')∧(c'=UNK∨(c'=e∧e≤1000)):=by
 obtain⟨ie,hie,h1,_⟩:=infoV
 have hb:(0:Int)≤(e:Int)∧(e:Int)≤((n:Nat):Int):=by omega
 rcases hc with rfl|⟨rfl,rfl⟩
 ·refine⟨UNK,?_,.inl rfl⟩
  unfold cslice
  simp only[underlying48,hie,cbound,Option.isSome_none,Option.isNone_none,Bool.and_true,Bool.true_and,Bool.false_and,Bool.false_eq_true,beq_self_eq_true,if_false,if_true,hb,and_self,Int.toNat_natCast]
 ·have e0:e=0:=by omega
  subst e0
  refine⟨0,?_,.inr ⟨rfl,by omega⟩⟩
  kernel_rfl
section
variable {lo q N p gb:Nat}{D:StD}{O:Nat→Prop}{ov tv:Value}
theorem do_spec{qf vb vc sb sc cpp ccp:Nat}{f pc tk tn g:Int}{tx:ByteArray}{V S:List (Int×Int×ByteArray)}{ownS':Bool}{pl cl:Option Addr}{pool:List ByteArray}{C:List CodeV}(h:StIn lo s q D N O p gb ov tv)(hlo:lo≤s.next)(hN:N+4≤1000000)
  (hP:PAt s pl pool cl C)(hC:∀ c∈C,CodeGood g pool.length c)(hC2:C.length≤1000)(hpj:∀ j,pl=some ⟨j,0,none⟩→j<lo)(hgl:(D.g.length:Int)=g)
  (hf:s.at' qf=some (.cells [.int .i64 f,.int .i64 pc,.slice (some ⟨vb,0,none⟩) V.length vc,.slice (some ⟨sb,0,none⟩) S.length sc,.int .i64 tk,.int .i64 tn,.string tx] 62 true))(hqf:qf<lo)
  (hv:s.at' vb=some (.cells (V.flatMap val3) 31 true))(hvb:vb<lo)(hs:s.at' sb=some (.cells (S.flatMap val3) 31 ownS'))(hsb:sb<lo)(hVn:V.length≤1000)(hSn:S.length≤1000)(hsc:sc=UNK∨(sc=0∧S.length=0))(hI:∀ v∈S,I64 v.2.1)
  (hvq:vb≠qf)(hvs:vb≠sb)(hsq:sb≠qf)
  (hR0:∀ s',s.le s'→(goesB D=false∨∀ (fi pi:Nat) c x,f=(fi:Int)→pc=(pi:Int)→C[fi]?=some c→c.ins[pi]?=some x→readyB x.a0 x.a1 V.length S.length=false)→R (evA 3 0 0 ⟨#[]⟩ 0 0 ⟨#[]⟩ none 0 0) s')
  (hR1:goesB D=true→∀ (fi pi:Nat) c x,f=(fi:Int)→pc=(pi:Int)→C[fi]?=some c→c.ins[pi]?=some x→readyB x.a0 x.a1 V.length S.length=true→∀ s' D' O' ov' tv' kd k n y k2 n2 y2 a m cc pc' va' sa',StIn lo s' q D' (N+4) O' p gb ov' tv'→(kd=3↔goesB D'=false)→(kd=3→pc'=pc)→s'.at' qf=some (.cells [.int .i64 f,.int .i64 pc',va',sa',.int .i64 tk,.int .i64 tn,.string tx] 62 true)→s.next≤s'.next→(∀ c,c<s.next→¬ ownS q gb ov tv O c→c≠vb→c≠qf→s'.at' c=s.at' c)→R (evA kd k n y k2 n2 y2 a m cc) s') :
  QC prog w0 30 #[.pointer (some ⟨q,0,none⟩),.agg #[.int .i64 g,.slice pl pool.length cpp,.slice cl C.length ccp],.pointer (some ⟨qf,0,none⟩)] s R:=by
 refine wfun2 hmix ok30 func30 rfl ntmps30 results30 (by simp) ?_
 have hzE:czero prog 66=some (evA 0 0 0 ⟨#[]⟩ 0 0 ⟨#[]⟩ none 0 0):=by kernel_rfl
 have hzI:=ze74
 have hlow:∀ c,c<lo→¬ ownS q gb ov tv O c:=fun c hc ho=>by have:=(h.own c ho).1;omega
 obtain⟨s1,hs1⟩:∃ s1,s1=((s.new (.cells [.int .i64 g,.slice pl pool.length cpp,.slice cl C.length ccp] 60 true)).new (.cells [.int .i64 0,.int .i64 0,.int .i64 0,.string ⟨#[]⟩,.int .i64 0,.int .i64 0,.string ⟨#[]⟩,.slice none 0 0] 66 true)):=⟨_,rfl⟩
 have l1:s.le s1:=by rw[hs1];exact (by repeat (first|exact lR _|assumption|refine lN ?_|refine lP ?_ (by first|omega|(simp only[(Sn)];omega))|refine lT ?_ (by assumption)))
 have n1:s1.next=s.next+2:=by rw[hs1];rfl
 have e0:s1.at' s.next=some (.cells [.int .i64 g,.slice pl pool.length cpp,.slice cl C.length ccp] 60 true):=by rw[hs1,St.at_new,if_neg (by simp only[St.next_new];omega),St.at_new,if_pos rfl]
 have e1:s1.at' (s.next+1)=some (.cells [.int .i64 0,.int .i64 0,.int .i64 0,.string ⟨#[]⟩,.int .i64 0,.int .i64 0,.string ⟨#[]⟩,.slice none 0 0] 66 true):=by rw[hs1,St.at_new,if_pos (by simp only[St.next_new])]
 unfold evA at hzE hR0 hR1
 simp -implicitDefEqProofs only[↓Zd,(Zp),Zr,simprocAttr,qP,Value.cells,cut,qC,cld2,(HEx),(TAx),(BBx),(TBx),vA,hzE,co85]
 rw[← hs1]
 clear hs1
 refine ready_spec (hP.le l1) hC hC2 ((l1.2 qf (by omega)).trans hf) (by omega) hVn hSn (fun hno s2 l2=>?_) (fun fi pi c x hfi hpi hc hx hgood hA s2 l2=>?_)
 ·have l12:=lT l1 l2
  have n2:=l2.1
  have e12:=(l2.2 (s.next+1) (by omega)).trans e1
  have x1:¬ s.next+1=s2.next:=by omega
  have hB3:=bEv3
  unfold evA at hB3
  simp -implicitDefEqProofs only[↓Zd,(Zp),Zr,simprocAttr,qP,Value.cells,cut,qC,cld2,(HEx),(TAx),(BBx),(TBx),vA,e12,x1,hzI,hB3,co85]
  exact hR0 _ (by repeat (first|exact lR _|assumption|refine lN ?_|refine lP ?_ (by first|omega|(simp only[(Sn)];omega))|refine lT ?_ (by assumption))) (.inr fun fi pi c x h1 h2 h3 h4=>(hno fi pi c x h1 h2 h3 h4).elim)
 ·have l12:=lT l1 l2
  have n2:=l2.1
  have e02:=(l2.2 s.next (by omega)).trans e0
  have e12:=(l2.2 (s.next+1) (by omega)).trans e1
  have x0:¬ s.next=s2.next:=by omega
  have x1:¬ s.next+1=s2.next:=by omega
  have hB3:=bEv3
  unfold evA at hB3
  cases hr:readyB x.a0 x.a1 V.length S.length with
  |false =>
   simp -implicitDefEqProofs only[↓Zd,(Zp),Zr,simprocAttr,qP,Value.cells,cut,qC,cld2,(HEx),(TAx),(BBx),(TBx),vA,e12,x1,hzI,hB3,co85]
   refine hR0 _ (by repeat (first|exact lR _|assumption|refine lN ?_|refine lP ?_ (by first|omega|(simp only[(Sn)];omega))|refine lT ?_ (by assumption))) (.inr fun fi' pi' c' x' h1 h2 h3 h4=>?_)
   obtain rfl:fi=fi':=by omega
   obtain rfl:pi=pi':=by omega
   rw[hc]at h3;cases h3
   rw[hx]at h4;cases h4
   exact hr
  |true =>
   simp -implicitDefEqProofs only[↓Zd,(Zp),Zr,simprocAttr,qP,Value.cells,cut,qC,cld2,(HEx),(TAx),(BBx),(TBx),vA,e12,x1,hzI,co85,co26]
   obtain⟨S3,hS3⟩:∃ S3,S3=((s2.new (.cells [.int .i64 0,.int .i64 0,.int .i64 0] 74 true)).put s2.next (.cells [.int .i64 x.a0,.int .i64 x.a1,.int .i64 x.a2] 74 true)):=⟨_,rfl⟩
   have l3:s2.le S3:=by rw[hS3];exact (by repeat (first|exact lR _|assumption|refine lN ?_|refine lP ?_ (by first|omega|(simp only[(Sn)];omega))|refine lT ?_ (by assumption)))
   have n3:S3.next=s2.next+1:=by rw[hS3];rfl
   have ei:S3.at' s2.next=some (.cells [.int .i64 x.a0,.int .i64 x.a1,.int .i64 x.a2] 74 true):=by rw[hS3,St.at_put,if_pos rfl]
   rw[← hS3]
   clear hS3
   have l13:=lT l12 l3
   have e03:=(l3.2 s.next (by omega)).trans e02
   have e13:=(l3.2 (s.next+1) (by omega)).trans e12
   refine sover_spec (h.le l13) ?_
   cases hg:goesB D with
   |false =>
    simp -implicitDefEqProofs only[↓Zd,(Zp),Zr,simprocAttr,qP,Value.cells,cut,qC,cld2,(HEx),(TAx),(BBx),(TBx),vA,e13,x1,hB3,co85,co26]
    exact hR0 _ (lP l13 (by omega)) (.inl hg)
   |true =>
    have hR1:=hR1 hg fi pi c x hfi hpi hc hx hr
    have hready:¬ ((x.a0=8∨x.a0=9)∧(V.length:Int)≤x.a1)∧effP x.a0 x.a1≤(S.length:Int):=by
     unfold readyB at hr
     exact of_decide_eq_true hr
    have hI3:I64 x.a1:=by
     rcases hP.ins c (List.mem_of_getElem? hc) with h0|h0
     ·rw[h0]at hx;simp at hx
     ·exact ((hP.ok c (List.mem_of_getElem? hc)).ins x (List.mem_of_getElem? hx)).2.1
    have hpcl:pi≤4000:=by have:=(List.getElem?_eq_some_iff.1 hx).1;have:=hgood.2.1;omega
    obtain⟨o,a3,b3⟩:=x
    simp only at ei hA hready hI3 hR1
    simp -implicitDefEqProofs only[↓Zd,(Zp),Zr,simprocAttr,qP,Value.cells,cut,qC,cld2,(HEx),(TAx),(BBx),(TBx),vA,ei,co85,co26,co86]
    refine ceffect_spec fun s4 y l4=>?_
    have l14:=lT l13 l4
    have n4:=l4.1
    have e04:=(l4.2 s.next (by omega)).trans e03
    have e14:=(l4.2 (s.next+1) (by omega)).trans e13
    have ei4:=(l4.2 s2.next (by omega)).trans ei
    have kf4:=(l14.2 qf (by omega)).trans hf
    have kv4:=(l14.2 vb (by omega)).trans hv
    have ks4:=(l14.2 sb (by omega)).trans hs
    have hP0:0≤effP o a3∧effP o a3≤8:=by
     unfold effP builtN
     (repeat' split)<;>omega
    obtain⟨at0,hat⟩:∃ at0:Nat,(S.length:Int) - effP o a3=(at0:Int):=⟨((S.length:Int) - effP o a3).toNat,by omega⟩
    have w1:IntKind.i64.wrap ((S.length:Int) - effP o a3)=(at0:Int):=by rw[hat];exact wrap_i64 (by omega)
    have hatn:at0≤S.length:=by omega
    obtain⟨ao,hslA,hao,haoL⟩:=sl_args (b:=sb) hsc hatn hSn
    obtain⟨sc',hslB,hsc'⟩:=sl_cut (b:=sb) hsc hatn hSn
    have hpops:((S.length - at0:Nat):Int)=effP o a3:=by omega
    have q4:¬ qf=s2.next:=by omega
    simp -implicitDefEqProofs only[↓Zd,(Zp),Zr,simprocAttr,qP,Value.cells,cut,qC,cld2,(HEx),(TAx),(BBx),(TBx),vA,kf4,ei4,w1,hslA,hslB,q4,Nat.zero_add,Nat.add_zero,co85,co26,co86,ord30]
    refine pr_l' ?_
    obtain⟨S5,hS5⟩:∃ S5,S5=s4.put qf (.cells [.int .i64 f,.int .i64 pc,.slice (some ⟨vb,0,none⟩) V.length vc,.slice (some ⟨sb,0,none⟩) at0 sc',.int .i64 tk,.int .i64 tn,.string tx] 62 true):=⟨_,rfl⟩
    have q5:¬ s2.next=qf:=by omega
    have n5:S5.next=s4.next:=by rw[hS5];rfl
    have kf5:S5.at' qf=some (.cells [.int .i64 f,.int .i64 pc,.slice (some ⟨vb,0,none⟩) V.length vc,.slice (some ⟨sb,0,none⟩) at0 sc',.int .i64 tk,.int .i64 tn,.string tx] 62 true):=by rw[hS5,St.at_put,if_pos rfl]
    have k5:∀ c,c≠qf→S5.at' c=s4.at' c:=fun c hc=>by rw[hS5,St.at_put,if_neg hc]
    have ei5:=(k5 s2.next (by omega)).trans ei4
    have e05:=(k5 s.next (by omega)).trans e04
    have e15:=(k5 (s.next+1) (by omega)).trans e14
    have kv5:=(k5 vb hvq).trans kv4
    have ks5:=(k5 sb hsq).trans ks4
    have h5:StIn lo S5 q D N O p gb ov tv:=(h.le l14).same (by omega) fun b hb=>k5 b fun e=>hlow qf hqf (e▸hb)
    have hP5:QRow 9 strC S5 pl pool:=by
     rcases hP.strs with h0|⟨j,us,h0,hj,hjb,hus⟩
     ·exact .inl h0
     ·by_cases hjq:j=qf
      ·rw[hjq]at hjb;rw[hf]at hjb;simp at hjb
      ·exact .inr ⟨j,us,h0,by omega,((k5 j hjq).trans (l14.2 j hj)).trans hjb,hus⟩
    have hcs:at0*3≤(S.flatMap val3).length:=by rw[val3_len];omega
    have n14:=l14.1
    have keep5:∀ c,c<s.next→c≠qf→S5.at' c=s.at' c:=fun c hc hcq=>(k5 c hcq).trans (l14.2 c hc)
    have wpc:IntKind.i64.wrap (pc+1)=pc+1:=wrap_i64 (by omega)
    have fin:∀ {s':St M}{D':StD}{O':Nat→Prop}{ov' tv':Value}{N':Nat}{kd k n:Int}{y:ByteArray}{k2 n2:Int}{y2:ByteArray}{a:Option Addr}{m cc:Nat}(pc':Int) (va' sa':Value),N'≤N+4→StIn lo s' q D' N' O' p gb ov' tv'→(kd=3↔goesB D'=false)→(kd=3→pc'=pc)→s'.at' qf=some (.cells [.int .i64 f,.int .i64 pc',va',sa',.int .i64 tk,.int .i64 tn,.string tx] 62 true)→s.next≤s'.next→(∀ c,c<s.next→¬ ownS q gb ov tv O c→c≠vb→c≠qf→s'.at' c=s.at' c)→¬ ownS q gb ov' tv' O' (s.next+1)→∀ B,R (.agg #[.int .i64 kd,.int .i64 k,.int .i64 n,.string y,.int .i64 k2,.int .i64 n2,.string y2,.slice a m cc]) (s'.put (s.next+1) B):=fun {s' D' O' ov' tv' N' kd k n y k2 n2 y2 a m cc} pc' va' sa' hN' g1 g2 g3 g4 g5 g6 g7 B=>by
     refine hR1 _ D' O' ov' tv' kd k n y k2 n2 y2 a m cc pc' va' sa' ((g1.mono hN').same (Nat.le_refl _) fun b hb=>by rw[St.at_put,if_neg (fun e:b=s.next+1=>g7 (e▸hb))]) g2 g3 ?_ g5 (fun c hc ho hcv hcq=>?_)
     ·rw[St.at_put,if_neg (by omega)];exact g4
     ·rw[St.at_put,if_neg (by omega)];exact g6 c hc ho hcv hcq
    have hf1:=h.fresh (c:=s.next+1) (by omega)
    have hB0:=bEv0
    have hB1:=bEv1
    have hB2:=bEv2
    have hBR:=bEvR
    unfold evA at hB0 hB1 hB2 hBR
    have finP:∀ {kd k n:Int}{y:ByteArray}{k2 n2:Int}{y2:ByteArray}{a:Option Addr}{m cc:Nat}{s':St M},(kd=1∨kd=2)→(S5.put qf (.cells [.int .i64 f,.int .i64 (pc+1),.slice (some ⟨vb,0,none⟩) V.length vc,.slice (some ⟨sb,0,none⟩) at0 sc',.int .i64 tk,.int .i64 tn,.string tx] 62 true)).le s'→∀ B,R (.agg #[.int .i64 kd,.int .i64 k,.int .i64 n,.string y,.int .i64 k2,.int .i64 n2,.string y2,.slice a m cc]) (s'.put (s.next+1) B):=fun {kd k n y k2 n2 y2 a m cc s'} hkd hle B=>by
     have h6:StIn lo (S5.put qf (.cells [.int .i64 f,.int .i64 (pc+1),.slice (some ⟨vb,0,none⟩) V.length vc,.slice (some ⟨sb,0,none⟩) at0 sc',.int .i64 tk,.int .i64 tn,.string tx] 62 true)) q D N O p gb ov tv:=h5.same (Nat.le_refl _) fun b hb=>by rw[St.at_put,if_neg (fun e:b=qf=>hlow qf hqf (e▸hb))]
     have n6:=hle.1
     rw[St.next_put]at n6
     refine fin (pc+1) _ _ (by omega) (h6.le hle) (by rw[hg];exact⟨fun e=>by omega,fun e=>by cases e⟩) (fun e=>by omega) ((hle.2 qf (by rw[St.next_put];omega)).trans (by rw[St.at_put,if_pos rfl])) (by omega) (fun c hc ho hcv hcq=>?_) hf1 B
     rw[hle.2 c (by rw[St.next_put];omega),St.at_put,if_neg hcq]
     exact keep5 c hc hcq
    have arg:∀ i,i<S.length - at0→S[ao+i]?=(S.drop at0)[i]?:=fun i hi=>by
     rw[List.getElem?_drop]
     rcases hao with h0|h0
     ·omega
     ·rw[h0]
    rcases (show (22≤o∧o≤25)∨o=26∨o=28∨o=32∨(¬ (22≤o∧o≤26)∧o≠28∧o≠32) by omega) with hj|rfl|rfl|rfl|hpl
    ·have hnj:o≠22→S.length - at0=1∧∃ v,S[ao]?=some v:=fun ho=>by
      have h1:effP o a3=1:=by
       rcases (show o=23∨o=24∨o=25 by omega) with rfl|rfl|rfl<;>rfl
      have h2:S.length - at0=1:=by omega
      refine⟨h2,?_⟩
      have:=arg 0 (by omega)
      rw[Nat.add_zero]at this
      rw[this,List.getElem?_drop,Nat.add_zero]
      exact⟨_,List.getElem?_eq_getElem (by omega)⟩
     have hjA:∀ K:Value→St M→Prop,(∀ s' pc' sa',s'.at' qf=some (.cells [.int .i64 f,.int .i64 pc',.slice (some ⟨vb,0,none⟩) V.length vc,sa',.int .i64 tk,.int .i64 tn,.string tx] 62 true)→S5.next≤s'.next→(∀ c,c<S5.next→c≠qf→s'.at' c=S5.at' c)→K (.tuple #[]) s')→QC prog w0 87 #[.pointer (some ⟨qf,0,none⟩),.agg #[.int .i64 o,.int .i64 a3,.int .i64 b3],.slice (some ⟨sb,ao*3,none⟩) (S.length - at0) (S.length - at0)] S5 K:=fun K hK =>
      jump_spec kf5 (by omega) (by omega) ks5 hcs (by omega) hsc' hj (by omega) (Ne.symm hsq) (by omega) hsq ks5 hnj hK
     have fj:∀ {s':St M}{pc':Int}{sa':Value},s'.at' qf=some (.cells [.int .i64 f,.int .i64 pc',.slice (some ⟨vb,0,none⟩) V.length vc,sa',.int .i64 tk,.int .i64 tn,.string tx] 62 true)→S5.next≤s'.next→(∀ c,c<S5.next→c≠qf→s'.at' c=S5.at' c)→∀ B,R (.agg #[.int .i64 0,.int .i64 0,.int .i64 0,.string ⟨#[]⟩,.int .i64 0,.int .i64 0,.string ⟨#[]⟩,.slice none 0 0]) (s'.put (s.next+1) B):=fun {s' pc' sa'} g1 g2 g3=>fin pc' _ sa' (by omega) (h5.same g2 fun b hb=>g3 b (h5.own b hb).2 fun e=>hlow qf hqf (e▸hb)) (by rw[hg];exact⟨fun e=>absurd e (by decide),fun e=>by cases e⟩) (fun e=>absurd e (by decide)) g1 (by omega) (fun c hc ho hcv hcq=>(g3 c (by omega) hcq).trans (keep5 c hc hcq)) hf1
     rcases (show o=22∨o=23∨o=24∨o=25 by omega) with rfl|rfl|rfl|rfl
     all_goals
      simp -implicitDefEqProofs only[↓Zd,(Zp),Zr,simprocAttr,qP,Value.cells,cut,qC,cld2,(HEx),(TAx),(BBx),(TBx),vA,kf4,ei4,ei5,w1,q4,q5,Nat.zero_add,Nat.add_zero,co85,co26,co86,ord30,co87]
      rw[← hS5]
      refine hjA _ fun s6 pc' sa' g1 g2 g3=>?_
      have e16:=(g3 (s.next+1) (by omega) (by omega)).trans e15
      simp -implicitDefEqProofs only[↓Zd,(Zp),Zr,simprocAttr,qP,Value.cells,cut,qC,cld2,(HEx),(TAx),(BBx),(TBx),vA,e16,hB0,Nat.zero_add,Nat.add_zero,co85,co26,co86,ord30,co87]
      exact fj g1 g2 g3 _
    ·have ha06:=hA.2.2.2.2.2.1 (.inl rfl)
     have hef:effP 26 a3=a3+1:=by simp only[effP];simp;omega
     have hnp:S.length - at0=(a3+1).toNat:=by omega
     have hx0:S[ao]?=some (S[ao]'(by rcases hao with h0|h0<;>omega)):=List.getElem?_eq_getElem _
     obtain⟨c1,c2⟩:=val3_cut hx0
     have l0:(0:Int)<((S.length - at0:Nat):Int):=by omega
     obtain⟨o',hsl,ho',ho2⟩:=sl_none2 (b:=sb) (o:=ao) (n:=S.length - at0) (c:=S.length - at0) (by unfold UNK;omega) 1 (by omega) (Nat.le_refl _)
     have hsl:cslice prog 48 (.slice (some ⟨sb,ao*3,none⟩) (S.length - at0) (S.length - at0)) (some (.int .i64 1)) none none=some (.slice (some ⟨sb,o'*3,none⟩) (S.length - at0 - 1) (S.length - at0 - 1)):=hsl
     have q1:¬ s.next+1=qf:=by omega
     have q2:¬ sb=qf:=hsq
     simp -implicitDefEqProofs only[↓Zd,(Zp),Zr,simprocAttr,qP,Value.cells,cut,qC,cld2,(HEx),(TAx),(BBx),(TBx),vA,kf4,ei4,ei5,ks4,c1,c2,l0,hsl,w1,wpc,q2,q4,q5,Nat.zero_add,Nat.add_zero,co85,co26,co86,ord30,co88]
     rw[← hS5]
     refine .inl (clone_spec (cs:=S.flatMap val3) (own:=ownS') (by rw[St.at_put,if_neg hsq];exact ks5) (by simp only[St.next_put];omega) (by rw[val3_len];rcases ho' with h0|h0<;>rcases hao with h1|h1<;>omega) (by omega) (val3_ok _) fun s7 a7 m7 c7 l7=>?_)
     have e17:s7.at' (s.next+1)=some (.cells [.int .i64 0,.int .i64 0,.int .i64 0,.string ⟨#[]⟩,.int .i64 0,.int .i64 0,.string ⟨#[]⟩,.slice none 0 0] 66 true):=by rw[l7.2 (s.next+1) (by simp only[St.next_put];omega),St.at_put,if_neg q1];exact e15
     have ks7:s7.at' sb=some (.cells (S.flatMap val3) 31 ownS'):=by rw[l7.2 sb (by simp only[St.next_put];omega),St.at_put,if_neg hsq];exact ks5
     simp -implicitDefEqProofs only[↓Zd,(Zp),Zr,simprocAttr,qP,Value.cells,cut,qC,cld2,(HEx),(TAx),(BBx),(TBx),vA,e17,ks7,c1,c2,l0,hsl,hB1,Nat.zero_add,Nat.add_zero,co85,co26,co86,ord30,co88]
     exact finP (.inl rfl) l7 _
    ·have ha06:=hA.2.2.2.2.2.1 (.inr rfl)
     have hef:effP 28 a3=a3+2:=by simp only[effP];simp;omega
     have hnp:S.length - at0=(a3+2).toNat:=by omega
     have hx0:S[ao]?=some (S[ao]'(by rcases hao with h0|h0<;>omega)):=List.getElem?_eq_getElem _
     have hx1:S[ao+1]?=some (S[ao+1]'(by rcases hao with h0|h0<;>omega)):=List.getElem?_eq_getElem _
     obtain⟨c1,c2⟩:=val3_cut hx0
     obtain⟨c3,c4⟩:=val3_cut hx1
     rw[show (ao+1)*3=ao*3+3 by omega]at c3 c4
     have l0:(0:Int)<((S.length - at0:Nat):Int):=by omega
     have l1':(1:Int)<((S.length - at0:Nat):Int):=by omega
     obtain⟨o',hsl,ho',ho2⟩:=sl_none2 (b:=sb) (o:=ao) (n:=S.length - at0) (c:=S.length - at0) (by unfold UNK;omega) 2 (by omega) (Nat.le_refl _)
     have hsl:cslice prog 48 (.slice (some ⟨sb,ao*3,none⟩) (S.length - at0) (S.length - at0)) (some (.int .i64 2)) none none=some (.slice (some ⟨sb,o'*3,none⟩) (S.length - at0 - 2) (S.length - at0 - 2)):=hsl
     have q1:¬ s.next+1=qf:=by omega
     have q2:¬ sb=qf:=hsq
     simp -implicitDefEqProofs only[↓Zd,(Zp),Zr,simprocAttr,qP,Value.cells,cut,qC,cld2,(HEx),(TAx),(BBx),(TBx),vA,kf4,ei4,ei5,ks4,c1,c2,c3,c4,l0,l1',hsl,w1,wpc,q2,q4,q5,Nat.zero_add,Nat.add_zero,co85,co26,co86,ord30,co88]
     rw[← hS5]
     refine .inl (clone_spec (cs:=S.flatMap val3) (own:=ownS') (by rw[St.at_put,if_neg hsq];exact ks5) (by simp only[St.next_put];omega) (by rw[val3_len];rcases ho' with h0|h0<;>rcases hao with h1|h1<;>omega) (by omega) (val3_ok _) fun s7 a7 m7 c7 l7=>?_)
     have e17:s7.at' (s.next+1)=some (.cells [.int .i64 0,.int .i64 0,.int .i64 0,.string ⟨#[]⟩,.int .i64 0,.int .i64 0,.string ⟨#[]⟩,.slice none 0 0] 66 true):=by rw[l7.2 (s.next+1) (by simp only[St.next_put];omega),St.at_put,if_neg q1];exact e15
     have ks7:s7.at' sb=some (.cells (S.flatMap val3) 31 ownS'):=by rw[l7.2 sb (by simp only[St.next_put];omega),St.at_put,if_neg hsq];exact ks5
     simp -implicitDefEqProofs only[↓Zd,(Zp),Zr,simprocAttr,qP,Value.cells,cut,qC,cld2,(HEx),(TAx),(BBx),(TBx),vA,e17,ks7,c1,c2,c3,c4,l0,l1',hsl,hB2,Nat.zero_add,Nat.add_zero,co85,co26,co86,ord30,co88]
     exact finP (.inl rfl) l7 _
    ·have hef:effP 32 a3=1:=rfl
     have hnp:S.length - at0=1:=by omega
     have hx0:S[ao]?=some (S[ao]'(by rcases hao with h0|h0<;>omega)):=List.getElem?_eq_getElem _
     obtain⟨c1,c2⟩:=val3_cut hx0
     have l0:(0:Int)<((S.length - at0:Nat):Int):=by omega
     have q1:¬ s.next+1=qf:=by omega
     have q2:¬ sb=qf:=hsq
     simp -implicitDefEqProofs only[↓Zd,(Zp),Zr,simprocAttr,qP,Value.cells,cut,qC,cld2,(HEx),(TAx),(BBx),(TBx),vA,kf4,ei4,ei5,ks4,e14,c1,c2,l0,w1,wpc,q1,q2,q4,q5,hBR,Nat.zero_add,Nat.add_zero,co85,co26,co86,ord30]
     rw[← hS5]
     exact finP (.inr rfl) (lR _) _
    ·have p22:¬ o=22:=by omega
     have p23:¬ o=23:=by omega
     have p24:¬ o=24:=by omega
     have p25:¬ o=25:=by omega
     have p26:¬ o=26:=by omega
     have p28:¬ o=28:=hpl.2.1
     have p32:¬ o=32:=hpl.2.2
     have q1:¬ s.next+1=qf:=by omega
     have q0:¬ s.next=qf:=by omega
     simp -implicitDefEqProofs only[↓Zd,(Zp),Zr,simprocAttr,qP,Value.cells,cut,qC,cld2,(HEx),(TAx),(BBx),(TBx),vA,kf4,ei4,ei5,e04,e05,w1,q0,q4,q5,p22,p23,p24,p25,p26,p28,p32,Nat.zero_add,Nat.add_zero,co85,co26,co86,ord30,co89]
     rw[← hS5]
     have hpl2:∀ K:Value→St M→Prop,(∀ s' D' O' ov' tv' k m x lays,StIn lo s' q D' (N+4) O' p gb ov' tv'→S5.next≤s'.next→(∀ c,c<S5.next→¬ ownS q gb ov tv O c→c≠vb→s'.at' c=S5.at' c)→(∀ c,ownS q gb ov' tv' O' c→ownS q gb ov tv O c∨S5.next≤c)→K (.tuple #[vA k m x,.bool lays,.bool (goesB D')]) s')→QC prog w0 89 #[.pointer (some ⟨q,0,none⟩),.agg #[.int .i64 g,.slice pl pool.length cpp,.slice cl C.length ccp],.pointer (some ⟨qf,0,none⟩),.agg #[.int .i64 o,.int .i64 a3,.int .i64 b3],.slice (some ⟨sb,ao*3,none⟩) (S.drop at0).length (S.length - at0)] S5 K:=fun K hK =>
      bplain2_spec (l:=S.drop at0) (us:=S) (own:=ownS') h5 (by omega) hN hg kf5 hqf kv5 hvb hP5 hpj hA (fun ho=>by have:=hready.1;omega) hI3 hgl ks5 hsb (by rw[List.length_drop];exact hpops) (fun i hi=>arg i (by rw[List.length_drop]at hi;exact hi)) (fun v hv=>hI v (List.mem_of_mem_drop hv)) hvq hvs hpl hK
     rw[List.length_drop]at hpl2
     refine hpl2 _ fun s6 D6 O6 ov6 tv6 kr mr xr lays g1 g2 g3 g4=>?_
     have kf6:=(g3 qf (by omega) (hlow qf hqf) (Ne.symm hvq)).trans kf5
     have ks6:=(g3 sb (by omega) (hlow sb hsb) (Ne.symm hvs)).trans ks5
     have e16:=(g3 (s.next+1) (by omega) hf1 (by omega)).trans e15
     have ei6:=(g3 s2.next (by omega) (h.fresh (by omega)) (by omega)).trans ei5
     have hf16:¬ ownS q gb ov6 tv6 O6 (s.next+1):=fun ho=>by
      rcases g4 _ ho with h0|h0
      ·exact hf1 h0
      ·omega
     have hfq6:¬ ownS q gb ov6 tv6 O6 qf:=fun ho=>by
      rcases g4 _ ho with h0|h0
      ·exact hlow qf hqf h0
      ·omega
     have x6:¬ qf=s6.next:=by omega
     have x61:¬ s.next+1=s6.next:=by omega
     have x62:¬ s2.next=s6.next:=by omega
     unfold vA
     obtain⟨S7,hS7⟩:∃ S7,S7=((s6.new (.cells [.int .i64 0,.int .i64 0,.string ⟨#[]⟩] 31 true)).put s6.next (.cells [.int .i64 kr,.int .i64 mr,.string xr] 31 true)):=⟨_,rfl⟩
     have l67:s6.le S7:=by rw[hS7];exact (by repeat (first|exact lR _|assumption|refine lN ?_|refine lP ?_ (by first|omega|(simp only[(Sn)];omega))|refine lT ?_ (by assumption)))
     have n7:S7.next=s6.next+1:=by rw[hS7];rfl
     have e7:S7.at' s6.next=some (.cells [.int .i64 kr,.int .i64 mr,.string xr] 31 true):=by rw[hS7,St.at_put,if_pos rfl]
     have h7:=g1.le l67
     have kf7:=(l67.2 qf (by omega)).trans kf6
     have ks7:=(l67.2 sb (by omega)).trans ks6
     have e17:=(l67.2 (s.next+1) (by omega)).trans e16
     have ei7:=(l67.2 s2.next (by omega)).trans ei6
     have kp7:∀ c,c<s.next→¬ ownS q gb ov tv O c→c≠vb→c≠qf→S7.at' c=s.at' c:=fun c hc ho hcv hcq=>((l67.2 c (by omega)).trans (g3 c (by omega) ho hcv)).trans (keep5 c hc hcq)
     cases hg6:goesB D6 with
     |false =>
      simp -implicitDefEqProofs only[↓Zd,(Zp),Zr,simprocAttr,qP,Value.cells,cut,qC,cld2,(HEx),(TAx),(BBx),(TBx),vA,kf6,e16,x6,x61,q1,hB3,Nat.zero_add,Nat.add_zero,co85,co26,co86,ord30,co89]
      rw[← hS7]
      refine fin (s':=S7.put qf (.cells [.int .i64 f,.int .i64 pc,.slice (some ⟨vb,0,none⟩) V.length vc,.slice (some ⟨sb,0,none⟩) S.length sc,.int .i64 tk,.int .i64 tn,.string tx] 62 true)) (kd:=3) pc (.slice (some ⟨vb,0,none⟩) V.length vc) (.slice (some ⟨sb,0,none⟩) S.length sc) (Nat.le_refl _) (h7.same (Nat.le_refl _) fun b hb=>by rw[St.at_put,if_neg (fun e:b=qf=>hfq6 (e▸hb))]) ⟨fun _=>hg6,fun _=>rfl⟩ (fun _=>rfl) (by rw[St.at_put,if_pos rfl]) (by simp only[St.next_put];omega) (fun c hc ho hcv hcq=>by rw[St.at_put,if_neg hcq];exact kp7 c hc ho hcv hcq) hf16 _
     |true =>
      have finG:∀ {T:St M}{sa':Value},StIn lo T q D6 (N+4) O6 p gb ov6 tv6→T.at' qf=some (.cells [.int .i64 f,.int .i64 pc,.slice (some ⟨vb,0,none⟩) V.length vc,sa',.int .i64 tk,.int .i64 tn,.string tx] 62 true)→S7.next≤T.next→(∀ c,c<S7.next→c≠qf→T.at' c=S7.at' c)→∀ B,R (.agg #[.int .i64 0,.int .i64 0,.int .i64 0,.string ⟨#[]⟩,.int .i64 0,.int .i64 0,.string ⟨#[]⟩,.slice none 0 0]) ((T.put qf (.cells [.int .i64 f,.int .i64 (pc+1),.slice (some ⟨vb,0,none⟩) V.length vc,sa',.int .i64 tk,.int .i64 tn,.string tx] 62 true)).put (s.next+1) B):=fun {T sa'} t1 t2 t3 t4 B=>by
       refine fin (s':=T.put qf (.cells [.int .i64 f,.int .i64 (pc+1),.slice (some ⟨vb,0,none⟩) V.length vc,sa',.int .i64 tk,.int .i64 tn,.string tx] 62 true)) (kd:=0) (pc+1) (.slice (some ⟨vb,0,none⟩) V.length vc) sa' (Nat.le_refl _) (t1.same (Nat.le_refl _) fun b hb=>by rw[St.at_put,if_neg (fun e:b=qf=>hfq6 (e▸hb))]) (by rw[hg6];exact⟨fun e=>absurd e (by decide),fun e=>by cases e⟩) (fun e=>absurd e (by decide)) (by rw[St.at_put,if_pos rfl]) (by simp only[St.next_put];omega) (fun c hc ho hcv hcq=>by rw[St.at_put,if_neg hcq,t4 c (by omega) hcq];exact kp7 c hc ho hcv hcq) hf16 _
      have lays7:∀ {T:St M}{nb n c:Nat}{cs:List Value}{own:Bool}{a d:Int}{y:ByteArray}{K:Value→St M→Prop},StIn lo T q D6 (N+4) O6 p gb ov6 tv6→T.at' qf=some (.cells [.int .i64 f,.int .i64 pc,.slice (some ⟨vb,0,none⟩) V.length vc,.slice (some ⟨nb,0,none⟩) n c,.int .i64 tk,.int .i64 tn,.string tx] 62 true)→S7.next≤T.next→(∀ c,c<S7.next→c≠qf→T.at' c=S7.at' c)→nb<T.next→T.at' nb=some (.cells cs 31 own)→n*3≤cs.length→n≤1000→(c=UNK∨(c=n∧n≤1000)) →
        (∀ T' b cs',StIn lo T' q D6 (N+4) O6 p gb ov6 tv6→T'.at' qf=some (.cells [.int .i64 f,.int .i64 pc,.slice (some ⟨vb,0,none⟩) V.length vc,.slice (some ⟨b,0,none⟩) (n+1) UNK,.int .i64 tk,.int .i64 tn,.string tx] 62 true)→S7.next≤T'.next→(∀ c,c<S7.next→c≠qf→T'.at' c=S7.at' c)→b<T'.next→T'.at' b=some (.cells cs' 31 true)→(n+1)*3≤cs'.length→K (.tuple #[]) T') →
        QC prog w0 90 #[.pointer (some ⟨qf,0,none⟩),vA a d y] T K:=fun {T nb n c cs own a d y K} t1 t2 t3 t4 t5 t6 t7 t8 t9 hK =>
       lay_spec t2 (by omega) t5 t6 t7 t8 t9 fun T' b cs' r1 r2 r3 r4 r5 r6 r7=>hK T' b cs' (t1.same r2 fun b hb=>r3 b (t1.own b hb).2 fun e=>hfq6 (e▸hb)) r1 (by omega) (fun c hc hcq=>(r3 c (by omega) hcq).trans (t4 c hc hcq)) r5 r6 r7
      have x7:¬ s6.next=qf:=by omega
      have at9:at0+1≤1001:=by omega
      by_cases h27:o=27
      ·subst h27
       have hnp:S.length - at0=1:=by have:effP 27 a3=1:=rfl;omega
       have hx0:S[ao]?=some (S[ao]'(by rcases hao with h0|h0<;>omega)):=List.getElem?_eq_getElem _
       obtain⟨c1,c2⟩:=val3_cut hx0
       have l0:(0:Int)<((S.length - at0:Nat):Int):=by omega
       have z6:¬ sb=s6.next:=by omega
       simp -implicitDefEqProofs only[↓Zd,(Zp),Zr,simprocAttr,qP,Value.cells,cut,qC,cld2,(HEx),(TAx),(BBx),(TBx),vA,kf6,ks6,e16,ei6,c1,c2,l0,x6,x61,x62,z6,q1,q5,Nat.zero_add,Nat.add_zero,co85,co26,co86,ord30,co89,co90]
       rw[← hS7]
       refine lays7 h7 kf7 (Nat.le_refl _) (fun c _ _=>rfl) (by omega) ks7 hcs (by omega) hsc' fun T b1 cs1 t1 t2 t3 t4 t5 t6 t7=>?_
       have e1T:=(t4 (s.next+1) (by omega) q1).trans e17
       have e7T:=(t4 s6.next (by omega) x7).trans e7
       cases lays with
       |false =>
        simp -implicitDefEqProofs only[↓Zd,(Zp),Zr,simprocAttr,qP,Value.cells,cut,qC,cld2,(HEx),(TAx),(BBx),(TBx),vA,t2,e1T,e7T,wpc,q1,hB0,Nat.zero_add,Nat.add_zero,co85,co26,co86,ord30,co89,co90]
        exact finG t1 t2 t3 t4 _
       |true =>
        simp -implicitDefEqProofs only[↓Zd,(Zp),Zr,simprocAttr,qP,Value.cells,cut,qC,cld2,(HEx),(TAx),(BBx),(TBx),vA,t2,e1T,e7T,wpc,q1,hB0,Nat.zero_add,Nat.add_zero,co85,co26,co86,ord30,co89,co90]
        refine lays7 t1 t2 t3 t4 t5 t6 t7 (by omega) (.inl rfl) fun T2 b2 cs2 r1 r2 r3 r4 r5 r6 r7=>?_
        have e1U:=(r4 (s.next+1) (by omega) q1).trans e17
        simp -implicitDefEqProofs only[↓Zd,(Zp),Zr,simprocAttr,qP,Value.cells,cut,qC,cld2,(HEx),(TAx),(BBx),(TBx),vA,r2,e1U,wpc,q1,hB0,Nat.zero_add,Nat.add_zero,co85,co26,co86,ord30,co89,co90]
        exact finG r1 r2 r3 r4 _
      ·cases lays with
       |false =>
        simp -implicitDefEqProofs only[↓Zd,(Zp),Zr,simprocAttr,qP,Value.cells,cut,qC,cld2,(HEx),(TAx),(BBx),(TBx),vA,kf6,e16,ei6,h27,x6,x61,x62,q1,q5,wpc,hB0,Nat.zero_add,Nat.add_zero,co85,co26,co86,ord30,co89,co90]
        rw[← hS7]
        exact finG h7 kf7 (Nat.le_refl _) (fun c _ _=>rfl) _
       |true =>
        simp -implicitDefEqProofs only[↓Zd,(Zp),Zr,simprocAttr,qP,Value.cells,cut,qC,cld2,(HEx),(TAx),(BBx),(TBx),vA,kf6,e16,ei6,h27,x6,x61,x62,q1,q5,wpc,hB0,Nat.zero_add,Nat.add_zero,co85,co26,co86,ord30,co89,co90]
        rw[← hS7]
        refine lays7 h7 kf7 (Nat.le_refl _) (fun c _ _=>rfl) (by omega) ks7 hcs (by omega) hsc' fun T b1 cs1 t1 t2 t3 t4 t5 t6 t7=>?_
        have e1T:=(t4 (s.next+1) (by omega) q1).trans e17
        simp -implicitDefEqProofs only[↓Zd,(Zp),Zr,simprocAttr,qP,Value.cells,cut,qC,cld2,(HEx),(TAx),(BBx),(TBx),vA,t2,e1T,wpc,q1,hB0,Nat.zero_add,Nat.add_zero,co85,co26,co86,ord30,co89,co90]
        exact finG t1 t2 t3 t4 _
end
theorem bFrameO(f pc k n:Int)(x:ByteArray)(a a2:Option Addr)(m c m2 c2:Nat):cbuild prog 62 #[(0,.int .i64 f),(1,.int .i64 pc),(2,.slice a m c),(3,.slice a2 m2 c2),(4,.agg #[.int .i64 k,.int .i64 n,.string x])]=some (.agg #[.int .i64 f,.int .i64 pc,.slice a m c,.slice a2 m2 c2,.int .i64 k,.int .i64 n,.string x]):=by kernel_rfl
theorem take_row{us V:List (Int×Int×ByteArray)}(h:∀ k,k<V.length→us[k]?=V[k]?):us.take V.length=V:=by
 apply List.ext_getElem?
 intro k
 rw[List.getElem?_take]
 split
 ·rename_i hk;exact h k hk
 ·rename_i hk;rw[List.getElem?_eq_none (by omega)]
section
def RAt(s:St M)(a:Option Addr)(A:List (Int×Int×ByteArray)):Prop:=
 A=[]∨∃ (b:Nat) (us:List (Int×Int×ByteArray)) (own:Bool),a=some ⟨b,0,none⟩∧b<s.next∧s.at' b=some (.cells (us.flatMap val3) 31 own)∧∀ k,k<A.length→us[k]?=A[k]?
theorem RAt.le{s':St M}{a:Option Addr}{A:List (Int×Int×ByteArray)}(h:RAt s a A)(hs:s.le s'):RAt s' a A:=by
 rcases h with h|⟨b,us,own,h1,h2,h3,h4⟩
 ·exact .inl h
 ·exact .inr ⟨b,us,own,h1,by have:=hs.1;omega,(hs.2 b h2).trans h3,h4⟩
theorem AAt.rat{a:Option Addr}{A:List (Int×Int×ByteArray)}{c:Nat}(h:AAt s a A c):RAt s a A:=by
 rcases h with ⟨_,h,_⟩|⟨j,us,h1,h2,h3,h4⟩
 ·exact .inl h
 ·exact .inr ⟨j,us,false,h1,h2,h3,h4⟩
theorem samelist_spec{a a2:Option Addr}{c c2:Nat}{A:List (Int×Int×ByteArray)}(h1:RAt s a A)(h2:RAt s a2 A)(hn:A.length≤1000)(hR:∀ s',s.le s'→R (.bool true) s') :
  QC prog w0 31 #[.slice a A.length c,.slice a2 A.length c2] s R:=by
 refine wfun2 hmix ok31 func31 rfl ntmps31 results31 (by simp) ?_
 simp -implicitDefEqProofs only[↓Zd,(Zp),Zr,simprocAttr,qP,Value.cells,cut,qC,cld2,(HEx),(TAx),(BBx),(TBx),vA,decide_false,Nat.zero_add,Nat.add_zero]
 refine wloop_inv hmix (fun fuel env s'=>env 0 = .slice a A.length c∧env 1 = .slice a2 A.length c2∧∃ i:Nat,env 5 = .int .i64 (i:Int)∧i≤A.length∧fuel=A.length - i∧s.le s') (A.length - 0) ⟨rfl,rfl,0,rfl,Nat.zero_le _,rfl,lR _⟩ ?_
 rintro fuel env s3 ⟨e0,e1,i,e5,hi,rfl,l3⟩
 by_cases hi1:i<A.length
 case neg =>
  have hi':¬ (i:Int)<(A.length:Int):=by omega
  simp -implicitDefEqProofs only[↓Zd,(Zp),Zr,simprocAttr,qP,Value.cells,cut,qC,cld2,(HEx),(TAx),(BBx),(TBx),vA,e0,e1,e5,hi']
  exact hR _ l3
 have hi':(i:Int)<(A.length:Int):=by omega
 have hii:(0:Int)≤(i:Int)∧(i:Int)<(A.length:Int):=by omega
 have wi:IntKind.i64.wrap ((i:Int)+1)=((i+1:Nat):Int):=by rw[wrap_i64 (by omega)];omega
 have hx:A[i]?=some A[i]:=List.getElem?_eq_getElem hi1
 generalize A[i]=x at hx
 obtain⟨k,n,y⟩:=x
 rcases h1 with h0|⟨b,us,own,rfl,hb,hbb,hus⟩
 ·rw[h0]at hi1;cases hi1
 rcases h2 with h0|⟨b2,us2,own2,rfl,hb2,hbb2,hus2⟩
 ·rw[h0]at hi1;cases hi1
 obtain⟨c1,c2'⟩:=val3_cut ((hus i hi1).trans hx)
 obtain⟨c3,c4⟩:=val3_cut ((hus2 i hi1).trans hx)
 simp only at c2' c4
 have k1:=(l3.2 b hb).trans hbb
 have k2:=(l3.2 b2 hb2).trans hbb2
 simp -implicitDefEqProofs only[↓Zd,(Zp),Zr,simprocAttr,qP,Value.cells,cut,qC,cld2,(HEx),(TAx),(BBx),(TBx),vA,e0,e1,e5,hi',hii,k1,k2,c1,c2',c3,c4,Nat.zero_add,Nat.add_zero,co91,ord31]
 refine rsame_le fun s4 l4=>?_
 have hs:sameV k n y k n y=true:=by unfold sameV;simp
 rw[hs]
 have k14:=(l4.2 b (by have:=l3.1;omega)).trans k1
 have k24:=(l4.2 b2 (by have:=l3.1;omega)).trans k2
 simp -implicitDefEqProofs only[↓Zd,(Zp),Zr,simprocAttr,qP,Value.cells,cut,qC,cld2,(HEx),(TAx),(BBx),(TBx),vA,e0,e1,e5,hi',hii,k14,k24,c1,c2',c3,c4,wi,Nat.zero_add,Nat.add_zero,co91,ord31]
 exact⟨A.length - (i+1),by omega,i+1,rfl,by omega,rfl,lT l3 l4⟩
theorem own_app{a:Option Addr}{c b0:Nat}{A:List (Int×Int×ByteArray)}(h:AAt s a A c)(hn:A.length≤1000)(h0:s.at' b0=some (.cells [] 31 true))(hb0:b0<s.next) :
  ∃ s' b' c',capp prog #[48,48] #[.slice (some ⟨b0,0,none⟩) 0 0,.slice a A.length c] s=some (.slice (some ⟨b',0,none⟩) A.length c',s')∧s.le s'∧s'.next≤s.next+1∧b' < s'.next∧(b'=b0∨b'=s.next)∧s'.at' b'=some (.cells (A.flatMap val3) 31 true)∧(c'=UNK∨(c'=0∧A.length=0)):=by
 have hm:cmore 3 (.slice a A.length c) s=some (A.length,A.flatMap val3):=by
  rcases h with ⟨rfl,rfl,rfl⟩|⟨j,us,rfl,hj,hjb,hus⟩
  ·rfl
  ·have hcut:cut (us.flatMap val3) 0 (A.length*3)=some (A.flatMap val3):=by
    have hl:A.length≤us.length:=by
     apply Decidable.byContradiction;intro hc
     have:=hus us.length (by omega)
     rw[List.getElem?_eq_none (Nat.le_refl _),List.getElem?_eq_getElem (by omega)]at this
     cases this
    unfold cut
    rw[if_pos (by rw[val3_len];omega),List.drop_zero,val3_take,take_row hus]
   simp only[more_at,hjb,more2,hcut,Option.map_some]
 by_cases hA:A.length=0
 ·have hA':A=[]:=List.eq_nil_of_length_eq_zero hA
  subst hA'
  obtain⟨ie,hie,h1,h2⟩:=infoV
  simp only[List.length_nil,List.flatMap_nil]at hm
  refine⟨s,b0,0,?_,lR _,by omega,hb0,.inl rfl,h0,.inr ⟨rfl,rfl⟩⟩
  have hU:¬ 0=UNK:=by unfold UNK;omega
  unfold capp
  simp only[List.getElem?_toArray,List.getElem?_cons_zero,List.getElem?_cons_succ,Option.bind_some,underlying48,hie,h1,hm,List.length_nil,List.flatMap_nil,List.all_nil,Bool.true_eq_false,if_false,if_true,hU,Nat.add_zero,Nat.le_refl]
 ·have happ:=app_cap (b:=b0) (n:=0) (o:=0) (k:=A.length) (cs:=[]) (own:=true) (v := .slice a A.length c) (new:=A.flatMap val3) h0 (by simp) (by omega) hA hm (val3_ok _)
  refine⟨_,s.next,UNK,by rw[Nat.zero_add]at happ;exact happ,lN (lR _),Nat.le_refl _,by simp only[St.next_new];omega,.inr rfl,?_,.inl rfl⟩
  rw[St.at_new,if_pos rfl]
  simp
end
theorem newD_gl{g:Int}(h:0≤g∧g≤24)(f a b c d n:Int):((newD g f a b c d n).g.length:Int)=g:=by
 show ((List.replicate (cl g 24).toNat zV).length:Int)=g
 rw[List.length_replicate];unfold cl;omega
section
variable {g:Int}{pl cl:Option Addr}{cpp ccp:Nat}{pool:List ByteArray}{C:List CodeV}
theorem AAt.le{s':St M}{aad:Option Addr}{A:List (Int×Int×ByteArray)}{acp:Nat}(h:AAt s aad A acp)(hs:s.le s'):AAt s' aad A acp:=by
 rcases h with h|⟨j,us,h1,h2,h3,h4⟩
 ·exact .inl h
 ·exact .inr ⟨j,us,h1,by have:=hs.1;omega,(hs.2 j h2).trans h3,h4⟩
theorem check_big_spec(hP:PAt s pl pool cl C)(hb:32<(C.length:Int))(hR:∀ s',s.le s'→R (.int .i64 16) s') :
  QC prog w0 28 #[.agg #[.int .i64 g,.slice pl pool.length cpp,.slice cl C.length ccp]] s R:=by
 refine wfun2 hmix ok28 func28 rfl ntmps28 results28 (by simp) ?_
 have l1:s.le (s.new (.cells [.int .i64 g,.slice pl pool.length cpp,.slice cl C.length ccp] 60 true)):=lN (lR _)
 by_cases r1:g<0
 ·simp -implicitDefEqProofs only[↓Zd,(Zp),Zr,simprocAttr,qP,Value.cells,cut,qC,cld2,(BBx),vA,r1,Nat.zero_add,Nat.add_zero,decide_true]
  exact hR _ l1
 by_cases r2:24<g
 ·simp -implicitDefEqProofs only[↓Zd,(Zp),Zr,simprocAttr,qP,Value.cells,cut,qC,cld2,(BBx),vA,r1,r2,Nat.zero_add,Nat.add_zero,decide_true,decide_false]
  exact hR _ l1
 have r3:¬ (C.length:Int)<1:=by omega
 simp -implicitDefEqProofs only[↓Zd,(Zp),Zr,simprocAttr,qP,Value.cells,cut,qC,cld2,(BBx),vA,r1,r2,r3,hb,Nat.zero_add,Nat.add_zero,decide_true,decide_false]
 exact hR _ l1
theorem baseStops_spec(hP:PAt s pl pool cl C)(hpj:∀ j,pl=some ⟨j,0,none⟩→j<s.next){f pc k n:Int}{x:ByteArray}{V S:List (Int×Int×ByteArray)}{vad sad:Option Addr}{vcp scp:Nat}(hV:AAt s vad V vcp)(hS:AAt s sad S scp)(hI:∀ v∈S,I64 v.2.1)(hfI:I64 f)(hpI:I64 pc)(hR:∀ s',R (.bool true) s') :
  QC prog w0 4 #[.agg #[.int .i64 g,.slice pl pool.length cpp,.slice cl C.length ccp],.agg #[.int .i64 f,.int .i64 pc,.slice vad V.length vcp,.slice sad S.length scp,.int .i64 k,.int .i64 n,.string x]] s R:=by
 refine wfun2 hmix ok4 func4 rfl ntmps4 results4 (by simp) ?_
 have hwork:∀ {s':St M}{K:Value→St M→Prop},K (.bool true) s'→QC prog w0 29 #[] s' K:=fun h=>works19_spec h
 obtain⟨s1,hs1⟩:∃ s1,s1=((s.new (.cells [.int .i64 g,.slice pl pool.length cpp,.slice cl C.length ccp] 60 true)).new (.cells [.int .i64 f,.int .i64 pc,.slice vad V.length vcp,.slice sad S.length scp,.int .i64 k,.int .i64 n,.string x] 62 true)):=⟨_,rfl⟩
 have l1:s.le s1:=by rw[hs1];exact (by repeat (first|exact lR _|assumption|refine lN ?_|refine lP ?_ (by first|omega|(simp only[(Sn)];omega))|refine lT ?_ (by assumption)))
 have n1:s1.next=s.next+2:=by rw[hs1];rfl
 have e0:s1.at' s.next=some (.cells [.int .i64 g,.slice pl pool.length cpp,.slice cl C.length ccp] 60 true):=by rw[hs1,St.at_new,if_neg (by simp only[St.next_new];omega),St.at_new,if_pos rfl]
 have e1:s1.at' (s.next+1)=some (.cells [.int .i64 f,.int .i64 pc,.slice vad V.length vcp,.slice sad S.length scp,.int .i64 k,.int .i64 n,.string x] 62 true):=by rw[hs1,St.at_new,if_pos (by simp only[St.next_new])]
 simp -implicitDefEqProofs only[↓Zd,(Zp),Zr,simprocAttr,qP,Value.cells,cut,qC,cld2,(HEx),(TAx),(BBx),(TBx),vA,Nat.zero_add,Nat.add_zero,co27]
 rw[← hs1]
 clear hs1
 refine few_spec (hP.le l1) fun s2 b l2=>?_
 have n2:=l2.1
 have e02:=(l2.2 s.next (by omega)).trans e0
 have e12:=(l2.2 (s.next+1) (by omega)).trans e1
 have l12:=lT l1 l2
 cases b with
 |false =>
  simp -implicitDefEqProofs only[↓Zd,(Zp),Zr,simprocAttr,qP,Value.cells,cut,qC,cld2,(HEx),(TAx),(BBx),(TBx),vA,e02,e12,co29]
  refine works19_spec ?_
  simp -implicitDefEqProofs only[↓Zd,(Zp),Zr,simprocAttr,qP,Value.cells,cut,qC,cld2,(HEx),(TAx),(BBx),(TBx),vA]
  exact hR _
 |true =>
 by_cases r1:12<(V.length:Int)
 ·simp -implicitDefEqProofs only[↓Zd,(Zp),Zr,simprocAttr,qP,Value.cells,cut,qC,cld2,(HEx),(TAx),(BBx),(TBx),vA,e02,e12,r1,decide_true,Nat.zero_add,Nat.add_zero,co29]
  refine works19_spec ?_
  simp -implicitDefEqProofs only[↓Zd,(Zp),Zr,simprocAttr,qP,Value.cells,cut,qC,cld2,(HEx),(TAx),(BBx),(TBx),vA]
  exact hR _
 by_cases r1':12<(S.length:Int)
 ·simp -implicitDefEqProofs only[↓Zd,(Zp),Zr,simprocAttr,qP,Value.cells,cut,qC,cld2,(HEx),(TAx),(BBx),(TBx),vA,e02,e12,r1,r1',decide_true,decide_false,Nat.zero_add,Nat.add_zero,co29]
  refine works19_spec ?_
  simp -implicitDefEqProofs only[↓Zd,(Zp),Zr,simprocAttr,qP,Value.cells,cut,qC,cld2,(HEx),(TAx),(BBx),(TBx),vA]
  exact hR _
 simp -implicitDefEqProofs only[↓Zd,(Zp),Zr,simprocAttr,qP,Value.cells,cut,qC,cld2,(HEx),(TAx),(BBx),(TBx),vA,e02,e12,r1,r1',decide_false,Nat.zero_add,Nat.add_zero,co28]
 by_cases hC32:32<(C.length:Int)
 ·refine check_big_spec (hP.le l12) hC32 fun s3 l3=>?_
  simp -implicitDefEqProofs only[↓Zd,(Zp),Zr,simprocAttr,qP,Value.cells,cut,qC,cld2,(HEx),(TAx),(BBx),(TBx),vA,decide_true,decide_false,co29]
  refine works19_spec ?_
  simp -implicitDefEqProofs only[↓Zd,(Zp),Zr,simprocAttr,qP,Value.cells,cut,qC,cld2,(HEx),(TAx),(BBx),(TBx),vA]
  exact hR _
 refine check_spec (hP.le l12) fun s3 e l3 hok=>?_
 have n3:=l3.1
 have l13:=lT l12 l3
 have e03:=(l3.2 s.next (by omega)).trans e02
 have e13:=(l3.2 (s.next+1) (by omega)).trans e12
 by_cases r2:e=0
 case neg =>
  simp -implicitDefEqProofs only[↓Zd,(Zp),Zr,simprocAttr,qP,Value.cells,cut,qC,cld2,(HEx),(TAx),(BBx),(TBx),vA,r2,e03,e13,decide_true,decide_false,co29]
  refine works19_spec ?_
  simp -implicitDefEqProofs only[↓Zd,(Zp),Zr,simprocAttr,qP,Value.cells,cut,qC,cld2,(HEx),(TAx),(BBx),(TBx),vA]
  exact hR _
 obtain⟨hg24,hC1,hgood⟩:=hok r2
 obtain⟨s4,vb,vc,happ1,l4,n4,hvb,hvb',hvat,hvc⟩:=own_app (s:=((s3.new (.cells [] 31 true)).new (.cells [] 31 true)).new (.cells [.int .i64 0,.int .i64 0,.slice none 0 0,.slice none 0 0,.int .i64 0,.int .i64 0,.string ⟨#[]⟩] 62 true)) (b0:=s3.next) (hV.le (lT l13 (by repeat (first|exact lR _|assumption|refine lN ?_|refine lP ?_ (by first|omega|(simp only[(Sn)];omega))|refine lT ?_ (by assumption))))) (by omega) (by simp only[St.at_new,St.next_new];(repeat rw[if_neg (by omega)]);rw[if_pos trivial]) (by simp only[St.next_new];omega)
 have hzF:czero prog 62=some (.agg #[.int .i64 0,.int .i64 0,.slice none 0 0,.slice none 0 0,.int .i64 0,.int .i64 0,.string ⟨#[]⟩]):=by kernel_rfl
 have z0:¬ s.next=s3.next:=by omega
 have z1:¬ s.next+1=s3.next:=by omega
 have z2:¬ s.next=s3.next+1:=by omega
 have z3:¬ s.next+1=s3.next+1:=by omega
 have z4:¬ s.next=s3.next+2:=by omega
 have z5:¬ s.next+1=s3.next+2:=by omega
 have r2:=eq_true r2
 have lTT:s3.le (((s3.new (.cells [] 31 true)).new (.cells [] 31 true)).new (.cells [.int .i64 0,.int .i64 0,.slice none 0 0,.slice none 0 0,.int .i64 0,.int .i64 0,.string ⟨#[]⟩] 62 true)):=(by repeat (first|exact lR _|assumption|refine lN ?_|refine lP ?_ (by first|omega|(simp only[(Sn)];omega))|refine lT ?_ (by assumption)))
 have nT:(((s3.new (.cells [] 31 true)).new (.cells [] 31 true)).new (.cells [.int .i64 0,.int .i64 0,.slice none 0 0,.slice none 0 0,.int .i64 0,.int .i64 0,.string ⟨#[]⟩] 62 true)).next=s3.next+3:=rfl
 have hqz:(((s3.new (.cells [] 31 true)).new (.cells [] 31 true)).new (.cells [.int .i64 0,.int .i64 0,.slice none 0 0,.slice none 0 0,.int .i64 0,.int .i64 0,.string ⟨#[]⟩] 62 true)).at' (s3.next+2)=some (.cells [.int .i64 0,.int .i64 0,.slice none 0 0,.slice none 0 0,.int .i64 0,.int .i64 0,.string ⟨#[]⟩] 62 true):=by rw[St.at_new,if_pos (by simp only[St.next_new])]
 have hbz:(((s3.new (.cells [] 31 true)).new (.cells [] 31 true)).new (.cells [.int .i64 0,.int .i64 0,.slice none 0 0,.slice none 0 0,.int .i64 0,.int .i64 0,.string ⟨#[]⟩] 62 true)).at' (s3.next+1)=some (.cells [] 31 true):=by rw[St.at_new,if_neg (by simp only[St.next_new];omega),St.at_new,if_pos (by simp only[St.next_new])]
 generalize hTT:((s3.new (.cells [] 31 true)).new (.cells [] 31 true)).new (.cells [.int .i64 0,.int .i64 0,.slice none 0 0,.slice none 0 0,.int .i64 0,.int .i64 0,.string ⟨#[]⟩] 62 true)=T at happ1 l4 n4 hvb hvb' lTT nT hqz hbz
 have nn4:=l4.1
 have l34:=lT lTT l4
 have l14:=lT l13 l34
 obtain⟨s5,sb,sc,happ2,l5,n5,hsb,hsb',hsat,hsc⟩:=own_app (s:=s4) (b0:=s3.next+1) (hS.le l14) (by omega) ((l4.2 (s3.next+1) (by omega)).trans hbz) (by omega)
 have nn5:=l5.1
 have l35:=lT l34 l5
 have l15:=lT l13 l35
 have e04:=(l34.2 s.next (by omega)).trans e03
 have e14:=(l34.2 (s.next+1) (by omega)).trans e13
 have e05:=(l5.2 s.next (by omega)).trans e04
 have e15:=(l5.2 (s.next+1) (by omega)).trans e14
 have hq5:s5.at' (s3.next+2)=some (.cells [.int .i64 0,.int .i64 0,.slice none 0 0,.slice none 0 0,.int .i64 0,.int .i64 0,.string ⟨#[]⟩] 62 true):=(l5.2 _ (by omega)).trans ((l4.2 _ (by omega)).trans hqz)
 have hv5:=(l5.2 vb hvb).trans hvat
 rw[← hTT]at happ1
 simp -implicitDefEqProofs only[↓Zd,(Zp),Zr,simprocAttr,qP,Value.cells,cut,qC,cld2,(HEx),(TAx),(BBx),(TBx),vA,r2,e03,e13,e04,e14,e05,e15,hq5,z0,z1,z2,z3,z4,z5,hzF,rowV0,happ1,happ2,bFrameO,bLim,decide_true,decide_false,Nat.zero_add,Nat.add_zero,co5,ord4]
 obtain⟨s6,hs6⟩:∃ s6,s6=s5.put (s3.next+2) (.cells [.int .i64 f,.int .i64 pc,.slice (some ⟨vb,0,none⟩) V.length vc,.slice (some ⟨sb,0,none⟩) S.length sc,.int .i64 k,.int .i64 n,.string x] 62 true):=⟨_,rfl⟩
 have n6:s6.next=s5.next:=by rw[hs6];rfl
 have k6:∀ c,c≠s3.next+2→s6.at' c=s5.at' c:=fun c hc=>by rw[hs6,St.at_put,if_neg hc]
 have kf6:s6.at' (s3.next+2)=some (.cells [.int .i64 f,.int .i64 pc,.slice (some ⟨vb,0,none⟩) V.length vc,.slice (some ⟨sb,0,none⟩) S.length sc,.int .i64 k,.int .i64 n,.string x] 62 true):=by rw[hs6,St.at_put,if_pos rfl]
 have e06:=(k6 s.next (by omega)).trans e05
 have e16:=(k6 (s.next+1) (by omega)).trans e15
 have hvq:vb≠s3.next+2:=by omega
 have hsq:sb≠s3.next+2:=by omega
 have hvs:vb≠sb:=by omega
 have kv6:=(k6 vb hvq).trans hv5
 have ks6:=(k6 sb hsq).trans hsat
 have l6:s3.le s6∨True := .inr trivial
 have l36:s.le s6:=⟨by have:=l15.1;omega,fun c hc=>(k6 c (by omega)).trans (l15.2 c hc)⟩
 rw[← hs6]
 clear hs6
 refine snew_spec fun lo s7 q p gb O hlo1 hlo2 hst l67=>?_
 have n67:=l67.1
 refine shape_abs [2,3,4,5] fun env he=>?_
 have t2:env 2 = .pointer (some ⟨s.next,0,none⟩):=he 2 (by simp)
 have t3:env 3 = .pointer (some ⟨s.next+1,0,none⟩):=he 3 (by simp)
 have t4:env 4 = .bool false:=he 4 (by simp)
 have t5:env 5 = .pointer (some ⟨s3.next+2,0,none⟩):=he 5 (by simp)
 clear he
 simp -implicitDefEqProofs only[↓Zd,(Zp),Zr,simprocAttr,qP,Value.cells,cut,qC,cld2,(HEx),(TAx),(BBx),(TBx),vA,t2,t3,t4,t5,bVal0,co5,co10]
 refine sfin_spec hst fun s8 h8 u8=>?_
 have n78:=u8.next
 have k8:∀ c,c<s6.next→s8.at' c=s6.at' c:=fun c hc=>(u8.keep c (by omega) fun ho=>by have:=(hst.own c ho).1;omega).trans (l67.2 c hc)
 have l8:s.le s8:=⟨by have:=l36.1;omega,fun c hc=>(k8 c (by have:=l36.1;omega)).trans (l36.2 c hc)⟩
 have nl:=l36.1
 have e08:=(k8 s.next (by omega)).trans e06
 have e18:=(k8 (s.next+1) (by omega)).trans e16
 have kf8:=(k8 (s3.next+2) (by omega)).trans kf6
 have kv8:=(k8 vb (by omega)).trans kv6
 have ks8:=(k8 sb (by omega)).trans ks6
 have hgl8:((endS (newD g 9 9 5 6 40 9) 2 0 (0,0,⟨#[]⟩)).g.length:Int)=g:=by
  rw[(endS_same _ _ _ _).2.1]
  exact newD_gl hg24 _ _ _ _ _ _
 have hg8:goesB (endS (newD g 9 9 5 6 40 9) 2 0 (0,0,⟨#[]⟩))=false:=goes_end (by decide)
 have hVn:V.length≤1000:=by omega
 have hSn:S.length≤1000:=by omega
 simp -implicitDefEqProofs only[↓Zd,(Zp),Zr,simprocAttr,qP,Value.cells,cut,qC,cld2,(HEx),(TAx),(BBx),(TBx),vA,t2,t3,t4,t5,e08,e18,kf8,co5,co10,co30]
 refine do_spec h8 (by omega) (by omega) (hP.le l8) hgood (by omega) (fun j hj=>by have:=hpj j hj;omega) hgl8 kf8 (by omega) kv8 (by omega) ks8 (by omega) hVn hSn hsc hI hvq hvs hsq (fun s9 l9 _=>?_) (fun hg0=>by rw[hg8]at hg0;cases hg0)
 have hzE:czero prog 66=some (evA 0 0 0 ⟨#[]⟩ 0 0 ⟨#[]⟩ none 0 0):=by kernel_rfl
 have n89:=l9.1
 have k9:∀ c,c<s6.next→s9.at' c=s6.at' c:=fun c hc=>(l9.2 c (by omega)).trans (k8 c hc)
 have e09:=(k9 s.next (by omega)).trans e06
 have e19:=(k9 (s.next+1) (by omega)).trans e16
 have kf9:=(k9 (s3.next+2) (by omega)).trans kf6
 have y0:¬ s.next=s9.next:=by omega
 have y1:¬ s.next+1=s9.next:=by omega
 have y2:¬ s3.next+2=s9.next:=by omega
 unfold evA at hzE ⊢
 refine shape_abs [2,3,4,5] fun env2 he=>?_
 have t2:env2 2 = .pointer (some ⟨s.next,0,none⟩):=(he 2 (by simp)).trans t2
 have t3:env2 3 = .pointer (some ⟨s.next+1,0,none⟩):=(he 3 (by simp)).trans t3
 have t4:env2 4 = .bool false:=(he 4 (by simp)).trans t4
 have t5:env2 5 = .pointer (some ⟨s3.next+2,0,none⟩):=(he 5 (by simp)).trans t5
 clear he
 simp -implicitDefEqProofs only[↓Zd,(Zp),Zr,simprocAttr,qP,Value.cells,cut,qC,cld2,(HEx),(TAx),(BBx),(TBx),vA,t2,t3,t4,t5,e09,e19,kf9,y0,y1,y2,hzE,Nat.zero_add,Nat.add_zero,co30,co31]
 obtain⟨sA,hsA⟩:∃ sA,sA=(s9.new (.cells [.int .i64 0,.int .i64 0,.int .i64 0,.string ⟨#[]⟩,.int .i64 0,.int .i64 0,.string ⟨#[]⟩,.slice none 0 0] 66 true)).put s9.next (.cells [.int .i64 3,.int .i64 0,.int .i64 0,.string ⟨#[]⟩,.int .i64 0,.int .i64 0,.string ⟨#[]⟩,.slice none 0 0] 66 true):=⟨_,rfl⟩
 have l9A:s9.le sA:=by rw[hsA];exact (by repeat (first|exact lR _|assumption|refine lN ?_|refine lP ?_ (by first|omega|(simp only[(Sn)];omega))|refine lT ?_ (by assumption)))
 have nA:sA.next=s9.next+1:=by rw[hsA];rfl
 rw[← hsA]
 clear hsA
 have k10:∀ c,c<s6.next→sA.at' c=s6.at' c:=fun c hc=>(l9A.2 c (by omega)).trans (k9 c hc)
 have leA:∀ {s':St M},sA.le s'→s.le s':=fun {s'} hl=>⟨by have:=hl.1;omega,fun c hc=>(hl.2 c (by omega)).trans ((k10 c (by omega)).trans (l36.2 c hc))⟩
 have rV:∀ {s':St M},sA.le s'→RAt s' (some ⟨vb,0,none⟩) V:=fun {s'} hl => .inr ⟨vb,V,true,rfl,by have:=hl.1;omega,(hl.2 vb (by omega)).trans ((k10 vb (by omega)).trans kv6),fun _ _=>rfl⟩
 have rS:∀ {s':St M},sA.le s'→RAt s' (some ⟨sb,0,none⟩) S:=fun {s'} hl => .inr ⟨sb,S,true,rfl,by have:=hl.1;omega,(hl.2 sb (by omega)).trans ((k10 sb (by omega)).trans ks6),fun _ _=>rfl⟩
 refine samelist_spec (rV (lR _)) ((hV.le (leA (lR _))).rat) hVn fun sB lB=>?_
 have e0B:=(lB.2 s.next (by omega)).trans ((k10 s.next (by omega)).trans e06)
 have e1B:=(lB.2 (s.next+1) (by omega)).trans ((k10 (s.next+1) (by omega)).trans e16)
 have kfB:=(lB.2 (s3.next+2) (by omega)).trans ((k10 (s3.next+2) (by omega)).trans kf6)
 simp -implicitDefEqProofs only[↓Zd,(Zp),Zr,simprocAttr,qP,Value.cells,cut,qC,cld2,(HEx),(TAx),(BBx),(TBx),vA,t2,t3,t4,t5,e0B,e1B,kfB,Nat.zero_add,Nat.add_zero,co31]
 refine samelist_spec (rS lB) ((hS.le (leA lB)).rat) hSn fun sC lC'=>?_
 have lC:=lT lB lC'
 have e0C:=(lC.2 s.next (by omega)).trans ((k10 s.next (by omega)).trans e06)
 have e1C:=(lC.2 (s.next+1) (by omega)).trans ((k10 (s.next+1) (by omega)).trans e16)
 have kfC:=(lC.2 (s3.next+2) (by omega)).trans ((k10 (s3.next+2) (by omega)).trans kf6)
 have nC:=lC.1
 simp -implicitDefEqProofs only[↓Zd,(Zp),Zr,simprocAttr,qP,Value.cells,cut,qC,cld2,(HEx),(TAx),(BBx),(TBx),vA,t2,t3,t4,t5,e0C,e1C,kfC,bLim,Nat.zero_add,Nat.add_zero,co31,co5]
 refine snew_spec fun lo2 sD q2 p2 gb2 O2 hlo3 hlo4 h2 lD=>?_
 have nD:=lD.1
 have kD:∀ c,c<s6.next→sD.at' c=s6.at' c:=fun c hc=>(lD.2 c (by omega)).trans ((lC.2 c (by omega)).trans (k10 c hc))
 have e0D:=(kD s.next (by omega)).trans e06
 have e1D:=(kD (s.next+1) (by omega)).trans e16
 have kfD:=(kD (s3.next+2) (by omega)).trans kf6
 have kvD:=(kD vb (by omega)).trans kv6
 have ksD:=(kD sb (by omega)).trans ks6
 have leD:s.le sD:=leA (lT lC lD)
 have hgl2:=newD_gl hg24 9 9 5 6 40 9
 have hg2:goesB (newD g 9 9 5 6 40 9)=true:=rfl
 have hpjD:∀ {sE:St M},sD.le sE→sE.at' s.next=some (.cells [.int .i64 g,.slice pl pool.length cpp,.slice cl C.length ccp] 60 true)∧sE.at' (s.next+1)=some (.cells [.int .i64 f,.int .i64 pc,.slice vad V.length vcp,.slice sad S.length scp,.int .i64 k,.int .i64 n,.string x] 62 true)∧sE.at' (s3.next+2)=some (.cells [.int .i64 f,.int .i64 pc,.slice (some ⟨vb,0,none⟩) V.length vc,.slice (some ⟨sb,0,none⟩) S.length sc,.int .i64 k,.int .i64 n,.string x] 62 true)∧¬ s.next=sE.next∧¬ s.next+1=sE.next∧¬ s3.next+2=sE.next:=fun {sE} lE=>⟨(lE.2 _ (by omega)).trans e0D,(lE.2 _ (by omega)).trans e1D,(lE.2 _ (by omega)).trans kfD,by have:=lE.1;omega,by have:=lE.1;omega,by have:=lE.1;omega⟩
 refine shape_abs [2,3,4,5] fun env4 he=>?_
 have t2:env4 2 = .pointer (some ⟨s.next,0,none⟩):=(he 2 (by simp)).trans t2
 have t3:env4 3 = .pointer (some ⟨s.next+1,0,none⟩):=(he 3 (by simp)).trans t3
 have t4:env4 4 = .bool false:=(he 4 (by simp)).trans t4
 have t5:env4 5 = .pointer (some ⟨s3.next+2,0,none⟩):=(he 5 (by simp)).trans t5
 clear he
 by_cases f1:f<0
 ·have f1':¬ 0≤f:=by omega
  have hno:∀ (fi pi:Nat) (c:CodeV) (x:AID),f=(fi:Int)→pc=(pi:Int)→C[fi]?=some c→c.ins[pi]?=some x→False:=fun fi pi c x e1 _ _ _=>by omega
  simp -implicitDefEqProofs only[↓Zd,(Zp),Zr,simprocAttr,qP,Value.cells,cut,qC,cld2,(HEx),(TAx),(BBx),(TBx),vA,t2,t3,t4,t5,e0D,e1D,kfD,f1',Nat.zero_add,Nat.add_zero,decide_true,decide_false,co30,co5,ord4]
  refine do_spec h2 (by omega) (by omega) (hP.le leD) hgood (by omega) (fun j hj=>by have:=hpj j hj;omega) hgl2 kfD (by omega) kvD (by omega) ksD (by omega) hVn hSn hsc hI hvq hvs hsq (fun sE lE _=>?_) (fun _ fi' pi' c' x' h1 h2' h3 h4 _=>(hno fi' pi' c' x' h1 h2' h3 h4).elim)
  obtain⟨e0E,e1E,kfE,y0E,y1E,y2E⟩:=hpjD lE
  unfold evA
  refine shape_abs [2,3,4,5,8,9] fun env9 he=>?_
  have t2:env9 2 = .pointer (some ⟨s.next,0,none⟩):=(he 2 (by simp)).trans t2
  have t3:env9 3 = .pointer (some ⟨s.next+1,0,none⟩):=(he 3 (by simp)).trans t3
  have t4:env9 4 = .bool false:=(he 4 (by simp)).trans t4
  have t5:env9 5 = .pointer (some ⟨s3.next+2,0,none⟩):=(he 5 (by simp)).trans t5
  have t8:env9 8 = .pointer (some ⟨q2,0,none⟩):=he 8 (by simp)
  have t9:env9 9 = .bool false:=he 9 (by simp)
  clear he
  simp -implicitDefEqProofs only[↓Zd,(Zp),Zr,simprocAttr,qP,Value.cells,cut,qC,cld2,(HEx),(TAx),(BBx),(TBx),vA,t2,t3,t4,t5,t8,t9,e0E,e1E,kfE,y0E,y1E,y2E,hzE,Nat.zero_add,Nat.add_zero,decide_true,decide_false,co30,co26,ord4]
  refine sover_spec (h2.le (lT lE (by repeat (first|exact lR _|assumption|refine lN ?_|refine lP ?_ (by first|omega|(simp only[(Sn)];omega))|refine lT ?_ (by assumption))))) ?_
  rw[hg2]
  simp -implicitDefEqProofs only[↓Zd,(Zp),Zr,simprocAttr,qP,Value.cells,cut,qC,cld2,(HEx),(TAx),(BBx),(TBx),vA,t2,t3,t4,t5,t8,t9,e0E,e1E,kfE,y0E,y1E,y2E,hzE,Nat.zero_add,Nat.add_zero,decide_true,decide_false,co26,co29,ord4]
  refine works19_spec ?_
  simp -implicitDefEqProofs only[↓Zd,(Zp),Zr,simprocAttr,qP,Value.cells,cut,qC,cld2,(HEx),(TAx),(BBx),(TBx),vA,ord4]
  exact hR _
 have f1':0≤f:=by omega
 by_cases f2:f<(C.length:Int)
 case neg =>
  have hno:∀ (fi pi:Nat) (c:CodeV) (x:AID),f=(fi:Int)→pc=(pi:Int)→C[fi]?=some c→c.ins[pi]?=some x→False:=fun fi pi c x e1 _ e3 _=>by
   have:=(List.getElem?_eq_some_iff.1 e3).1;omega
  simp -implicitDefEqProofs only[↓Zd,(Zp),Zr,simprocAttr,qP,Value.cells,cut,qC,cld2,(HEx),(TAx),(BBx),(TBx),vA,t2,t3,t4,t5,e0D,e1D,kfD,f1',f2,Nat.zero_add,Nat.add_zero,decide_true,decide_false,co30,co5,ord4]
  refine do_spec h2 (by omega) (by omega) (hP.le leD) hgood (by omega) (fun j hj=>by have:=hpj j hj;omega) hgl2 kfD (by omega) kvD (by omega) ksD (by omega) hVn hSn hsc hI hvq hvs hsq (fun sE lE _=>?_) (fun _ fi' pi' c' x' h1 h2' h3 h4 _=>(hno fi' pi' c' x' h1 h2' h3 h4).elim)
  obtain⟨e0E,e1E,kfE,y0E,y1E,y2E⟩:=hpjD lE
  unfold evA
  refine shape_abs [2,3,4,5,8,9] fun env9 he=>?_
  have t2:env9 2 = .pointer (some ⟨s.next,0,none⟩):=(he 2 (by simp)).trans t2
  have t3:env9 3 = .pointer (some ⟨s.next+1,0,none⟩):=(he 3 (by simp)).trans t3
  have t4:env9 4 = .bool false:=(he 4 (by simp)).trans t4
  have t5:env9 5 = .pointer (some ⟨s3.next+2,0,none⟩):=(he 5 (by simp)).trans t5
  have t8:env9 8 = .pointer (some ⟨q2,0,none⟩):=he 8 (by simp)
  have t9:env9 9 = .bool false:=he 9 (by simp)
  clear he
  simp -implicitDefEqProofs only[↓Zd,(Zp),Zr,simprocAttr,qP,Value.cells,cut,qC,cld2,(HEx),(TAx),(BBx),(TBx),vA,t2,t3,t4,t5,t8,t9,e0E,e1E,kfE,y0E,y1E,y2E,hzE,Nat.zero_add,Nat.add_zero,decide_true,decide_false,co30,co26,ord4]
  refine sover_spec (h2.le (lT lE (by repeat (first|exact lR _|assumption|refine lN ?_|refine lP ?_ (by first|omega|(simp only[(Sn)];omega))|refine lT ?_ (by assumption))))) ?_
  rw[hg2]
  simp -implicitDefEqProofs only[↓Zd,(Zp),Zr,simprocAttr,qP,Value.cells,cut,qC,cld2,(HEx),(TAx),(BBx),(TBx),vA,t2,t3,t4,t5,t8,t9,e0E,e1E,kfE,y0E,y1E,y2E,hzE,Nat.zero_add,Nat.add_zero,decide_true,decide_false,co26,co29,ord4]
  refine works19_spec ?_
  simp -implicitDefEqProofs only[↓Zd,(Zp),Zr,simprocAttr,qP,Value.cells,cut,qC,cld2,(HEx),(TAx),(BBx),(TBx),vA,ord4]
  exact hR _
 by_cases f3:pc<0
 ·have f3':¬ 0≤pc:=by omega
  have hno:∀ (fi pi:Nat) (c:CodeV) (x:AID),f=(fi:Int)→pc=(pi:Int)→C[fi]?=some c→c.ins[pi]?=some x→False:=fun fi pi c x _ e1 _ _=>by omega
  simp -implicitDefEqProofs only[↓Zd,(Zp),Zr,simprocAttr,qP,Value.cells,cut,qC,cld2,(HEx),(TAx),(BBx),(TBx),vA,t2,t3,t4,t5,e0D,e1D,kfD,f1',f2,f3',Nat.zero_add,Nat.add_zero,decide_true,decide_false,co30,co5,ord4]
  refine do_spec h2 (by omega) (by omega) (hP.le leD) hgood (by omega) (fun j hj=>by have:=hpj j hj;omega) hgl2 kfD (by omega) kvD (by omega) ksD (by omega) hVn hSn hsc hI hvq hvs hsq (fun sE lE _=>?_) (fun _ fi' pi' c' x' h1 h2' h3 h4 _=>(hno fi' pi' c' x' h1 h2' h3 h4).elim)
  obtain⟨e0E,e1E,kfE,y0E,y1E,y2E⟩:=hpjD lE
  unfold evA
  refine shape_abs [2,3,4,5,8,9] fun env9 he=>?_
  have t2:env9 2 = .pointer (some ⟨s.next,0,none⟩):=(he 2 (by simp)).trans t2
  have t3:env9 3 = .pointer (some ⟨s.next+1,0,none⟩):=(he 3 (by simp)).trans t3
  have t4:env9 4 = .bool false:=(he 4 (by simp)).trans t4
  have t5:env9 5 = .pointer (some ⟨s3.next+2,0,none⟩):=(he 5 (by simp)).trans t5
  have t8:env9 8 = .pointer (some ⟨q2,0,none⟩):=he 8 (by simp)
  have t9:env9 9 = .bool false:=he 9 (by simp)
  clear he
  simp -implicitDefEqProofs only[↓Zd,(Zp),Zr,simprocAttr,qP,Value.cells,cut,qC,cld2,(HEx),(TAx),(BBx),(TBx),vA,t2,t3,t4,t5,t8,t9,e0E,e1E,kfE,y0E,y1E,y2E,hzE,Nat.zero_add,Nat.add_zero,decide_true,decide_false,co30,co26,ord4]
  refine sover_spec (h2.le (lT lE (by repeat (first|exact lR _|assumption|refine lN ?_|refine lP ?_ (by first|omega|(simp only[(Sn)];omega))|refine lT ?_ (by assumption))))) ?_
  rw[hg2]
  simp -implicitDefEqProofs only[↓Zd,(Zp),Zr,simprocAttr,qP,Value.cells,cut,qC,cld2,(HEx),(TAx),(BBx),(TBx),vA,t2,t3,t4,t5,t8,t9,e0E,e1E,kfE,y0E,y1E,y2E,hzE,Nat.zero_add,Nat.add_zero,decide_true,decide_false,co26,co29,ord4]
  refine works19_spec ?_
  simp -implicitDefEqProofs only[↓Zd,(Zp),Zr,simprocAttr,qP,Value.cells,cut,qC,cld2,(HEx),(TAx),(BBx),(TBx),vA,ord4]
  exact hR _
 have f3':0≤pc:=by omega
 obtain⟨fi,rfl⟩:∃ fi:Nat,f=(fi:Int):=⟨f.toNat,by omega⟩
 have hc:C[fi]?=some (C[fi]'(by omega)):=List.getElem?_eq_getElem _
 generalize C[fi]'(by omega)=c at hc
 have hcm:=List.mem_of_getElem? hc
 have hPD:=hP.le leD
 rcases hPD.codes with h0|⟨jc,nn,cc,hclj,hjc,hcb,hcl,hCn,hcc⟩
 ·rw[h0]at hc;simp at hc
 have d4:(rowsN cc nn)[fi*5+4]?=some (.slice c.ad c.ins.length c.cp):=by
  rw[rowsN_get hcl (by omega) (by omega),hcc fi c hc];rfl
 have hjs:jc<s.next:=by
  rcases hP.codes with h0|⟨j',_,_,h1,h2',_⟩
  ·rw[h0]at hc;simp at hc
  ·rw[hclj]at h1;cases h1;exact h2'
 have hff:(0:Int)≤(fi:Int)∧(fi:Int)<(C.length:Int):=⟨f1',f2⟩
 have wl:IntKind.i64.wrap ((C.length:Int) - 1)=(C.length:Int) - 1:=wrap_i64 (by omega)
 have hmx:(if (0:Int)>(fi:Int) then (0:Int) else (fi:Int))=(fi:Int):=by rw[if_neg (by omega)]
 have hmn:(if (C.length:Int) - 1<(fi:Int) then (C.length:Int) - 1 else (fi:Int))=(fi:Int):=by rw[if_neg (by omega)]
 by_cases f4:pc<(c.ins.length:Int)
 case neg =>
  have hno:∀ (fi' pi:Nat) (c':CodeV) (x:AID),(fi:Int)=(fi':Int)→pc=(pi:Int)→C[fi']?=some c'→c'.ins[pi]?=some x→False:=fun fi' pi c' x e1 e2 e3 e4=>by
   obtain rfl:fi=fi':=by omega
   rw[hc]at e3;cases e3
   have:=(List.getElem?_eq_some_iff.1 e4).1;omega
  subst hclj
  simp -implicitDefEqProofs only[↓Zd,(Zp),Zr,simprocAttr,qP,Value.cells,cut,qC,cld2,(HEx),(TAx),(BBx),(TBx),vA,t2,t3,t4,t5,e0D,e1D,kfD,f1',f2,f3',f4,hcb,d4,hff,wl,hmx,hmn,↓p_min,↓p_max,q_min,q_max,Nat.zero_add,Nat.add_zero,decide_true,decide_false,co30,co5,ord4]
  refine do_spec h2 (by omega) (by omega) (hP.le leD) hgood (by omega) (fun j hj=>by have:=hpj j hj;omega) hgl2 kfD (by omega) kvD (by omega) ksD (by omega) hVn hSn hsc hI hvq hvs hsq (fun sE lE _=>?_) (fun _ fi' pi' c' x' h1 h2' h3 h4 _=>(hno fi' pi' c' x' h1 h2' h3 h4).elim)
  obtain⟨e0E,e1E,kfE,y0E,y1E,y2E⟩:=hpjD lE
  unfold evA
  refine shape_abs [2,3,4,5,8,9] fun env9 he=>?_
  have t2:env9 2 = .pointer (some ⟨s.next,0,none⟩):=(he 2 (by simp)).trans t2
  have t3:env9 3 = .pointer (some ⟨s.next+1,0,none⟩):=(he 3 (by simp)).trans t3
  have t4:env9 4 = .bool false:=(he 4 (by simp)).trans t4
  have t5:env9 5 = .pointer (some ⟨s3.next+2,0,none⟩):=(he 5 (by simp)).trans t5
  have t8:env9 8 = .pointer (some ⟨q2,0,none⟩):=he 8 (by simp)
  have t9:env9 9 = .bool false:=he 9 (by simp)
  clear he
  simp -implicitDefEqProofs only[↓Zd,(Zp),Zr,simprocAttr,qP,Value.cells,cut,qC,cld2,(HEx),(TAx),(BBx),(TBx),vA,t2,t3,t4,t5,t8,t9,e0E,e1E,kfE,y0E,y1E,y2E,hzE,Nat.zero_add,Nat.add_zero,decide_true,decide_false,co30,co26,ord4]
  refine sover_spec (h2.le (lT lE (by repeat (first|exact lR _|assumption|refine lN ?_|refine lP ?_ (by first|omega|(simp only[(Sn)];omega))|refine lT ?_ (by assumption))))) ?_
  rw[hg2]
  simp -implicitDefEqProofs only[↓Zd,(Zp),Zr,simprocAttr,qP,Value.cells,cut,qC,cld2,(HEx),(TAx),(BBx),(TBx),vA,t2,t3,t4,t5,t8,t9,e0E,e1E,kfE,y0E,y1E,y2E,hzE,Nat.zero_add,Nat.add_zero,decide_true,decide_false,co26,co29,ord4]
  refine works19_spec ?_
  simp -implicitDefEqProofs only[↓Zd,(Zp),Zr,simprocAttr,qP,Value.cells,cut,qC,cld2,(HEx),(TAx),(BBx),(TBx),vA,ord4]
  exact hR _
 obtain⟨pi,rfl⟩:∃ pi:Nat,pc=(pi:Int):=⟨pc.toNat,by omega⟩
 have hx:c.ins[pi]?=some (c.ins[pi]'(by omega)):=List.getElem?_eq_getElem _
 generalize c.ins[pi]'(by omega)=xi at hx
 have hpp:(0:Int)≤(pi:Int)∧(pi:Int)<(c.ins.length:Int):=⟨f3',f4⟩
 rcases hPD.ins c hcm with h0|⟨j,us,had,hj,hjb,hus⟩
 ·rw[h0]at hx;simp at hx
 have hux:us[pi]?=some xi:=by rw[hus pi (by omega)];exact hx
 obtain⟨c1,c2⟩:=actsI_cut us pi xi hux
 have hjs2:j<s.next:=by
  rcases hP.ins c hcm with h0|⟨j',us',h1,h2',_⟩
  ·rw[h0]at hx;simp at hx
  ·rw[had]at h1;cases h1;exact h2'
 have hAk:=(hgood c hcm).2.2 pi xi hx
 obtain⟨o,a3,b3⟩:=xi
 have c2:List.take 3 (List.drop (pi*3) (us.flatMap actIC))=[.int .i64 o,.int .i64 a3,.int .i64 b3]:=c2
 have hAk:ArgOk g pool.length c o a3:=hAk
 have hzI:=ze74
 subst hclj
 rw[had]at d4
 simp -implicitDefEqProofs only[↓Zd,(Zp),Zr,simprocAttr,qP,Value.cells,cut,qC,cld2,(HEx),(TAx),(BBx),(TBx),vA,t2,t3,t4,t5,e0D,e1D,kfD,f1',f2,f3',f4,hcb,d4,hff,wl,hmx,hmn,↓p_min,↓p_max,q_min,q_max,Nat.zero_add,Nat.add_zero,decide_true,decide_false,co30,co5,ord4]
 cases hr:readyB o a3 V.length S.length with
 |false =>
  refine do_spec h2 (by omega) (by omega) (hP.le leD) hgood (by omega) (fun j hj=>by have:=hpj j hj;omega) hgl2 kfD (by omega) kvD (by omega) ksD (by omega) hVn hSn hsc hI hvq hvs hsq (fun sE lE _=>?_) (fun _ fi' pi' c' x' h1 h2' h3 h4 h5=>?_)
  case refine_2 =>
   exfalso
   obtain rfl:fi=fi':=by omega
   obtain rfl:pi=pi':=by omega
   rw[hc]at h3;cases h3
   rw[hx]at h4;cases h4
   rw[hr]at h5;cases h5
  obtain⟨e0E,e1E,kfE,y0E,y1E,y2E⟩:=hpjD lE
  have nE:=lE.1
  have jE:¬ jc=sE.next:=by omega
  have jE2:¬ j=sE.next:=by omega
  have kcE:=(lE.2 jc hjc).trans hcb
  have kiE:=(lE.2 j hj).trans hjb
  have jF:¬ jc=sE.next+1:=by omega
  have jF2:¬ j=sE.next+1:=by omega
  have yF0:¬ s.next=sE.next+1:=by omega
  have yF1:¬ s.next+1=sE.next+1:=by omega
  have yF2:¬ s3.next+2=sE.next+1:=by omega
  have yF3:¬ sE.next=sE.next+1:=by omega
  unfold evA
  refine shape_abs [2,3,4,5,8,9] fun env9 he=>?_
  have t2:env9 2 = .pointer (some ⟨s.next,0,none⟩):=(he 2 (by simp)).trans t2
  have t3:env9 3 = .pointer (some ⟨s.next+1,0,none⟩):=(he 3 (by simp)).trans t3
  have t4:env9 4 = .bool false:=(he 4 (by simp)).trans t4
  have t5:env9 5 = .pointer (some ⟨s3.next+2,0,none⟩):=(he 5 (by simp)).trans t5
  have t8:env9 8 = .pointer (some ⟨q2,0,none⟩):=he 8 (by simp)
  have t9:env9 9 = .bool true:=he 9 (by simp)
  clear he
  simp -implicitDefEqProofs only[↓Zd,(Zp),Zr,simprocAttr,qP,Value.cells,cut,qC,cld2,(HEx),(TAx),(BBx),(TBx),vA,t2,t3,t4,t5,t8,t9,e0E,e1E,kfE,y0E,y1E,y2E,yF0,yF1,yF2,yF3,hzE,hzI,kcE,kiE,jE,jE2,jF,jF2,f1',f2,f3',f4,c1,c2,d4,hff,hpp,Nat.zero_add,Nat.add_zero,decide_true,decide_false,co30,co32,ord4]
  obtain⟨sF,hsF⟩:∃ sF,sF=((((sE.new (.cells [.int .i64 0,.int .i64 0,.int .i64 0,.string ⟨#[]⟩,.int .i64 0,.int .i64 0,.string ⟨#[]⟩,.slice none 0 0] 66 true)).put sE.next (.cells [.int .i64 3,.int .i64 0,.int .i64 0,.string ⟨#[]⟩,.int .i64 0,.int .i64 0,.string ⟨#[]⟩,.slice none 0 0] 66 true)).new (.cells [.int .i64 0,.int .i64 0,.int .i64 0] 74 true)).put (sE.next+1) (.cells [.int .i64 o,.int .i64 a3,.int .i64 b3] 74 true)):=⟨_,rfl⟩
  have lF:sE.le sF:=by rw[hsF];exact (by repeat (first|exact lR _|assumption|refine lN ?_|refine lP ?_ (by first|omega|(simp only[(Sn)];omega))|refine lT ?_ (by assumption)))
  have nF:sF.next=sE.next+2:=by rw[hsF];rfl
  have vF:sF.at' sE.next=some (.cells [.int .i64 3,.int .i64 0,.int .i64 0,.string ⟨#[]⟩,.int .i64 0,.int .i64 0,.string ⟨#[]⟩,.slice none 0 0] 66 true):=by rw[hsF,St.at_put,if_neg (by omega),St.at_new,if_neg (by simp only[(Sn)];omega),St.at_put,if_pos rfl]
  have iF:sF.at' (sE.next+1)=some (.cells [.int .i64 o,.int .i64 a3,.int .i64 b3] 74 true):=by rw[hsF,St.at_put,if_pos rfl]
  rw[← hsF]
  clear hsF
  refine reffect_spec fun sG yy lG=>?_
  refine shape_abs [2,3,4,5,8,10,11] fun env7 he=>?_
  have t2:env7 2 = .pointer (some ⟨s.next,0,none⟩):=(he 2 (by simp)).trans t2
  have t3:env7 3 = .pointer (some ⟨s.next+1,0,none⟩):=(he 3 (by simp)).trans t3
  have t4:env7 4 = .bool false:=(he 4 (by simp)).trans t4
  have t5:env7 5 = .pointer (some ⟨s3.next+2,0,none⟩):=(he 5 (by simp)).trans t5
  have t8:env7 8 = .pointer (some ⟨q2,0,none⟩):=(he 8 (by simp)).trans t8
  have t10:env7 10 = .pointer (some ⟨sE.next,0,none⟩):=he 10 (by simp)
  have t11:env7 11 = .pointer (some ⟨sE.next+1,0,none⟩):=he 11 (by simp)
  clear he
  have vG:=(lG.2 sE.next (by omega)).trans vF
  have iG:=(lG.2 (sE.next+1) (by omega)).trans iF
  have lEG:=lT lF lG
  have e0G:=(lEG.2 s.next (by omega)).trans e0E
  have e1G:=(lEG.2 (s.next+1) (by omega)).trans e1E
  have kfG:=(lEG.2 (s3.next+2) (by omega)).trans kfE
  have hcase:(S.length:Int)<effP o a3∨(¬ (S.length:Int)<effP o a3∧(o=8∨o=9)∧(V.length:Int)≤a3):=by
   unfold readyB at hr
   have hr:=of_decide_eq_false hr
   by_cases hp:(S.length:Int)<effP o a3
   ·exact .inl hp
   ·right
    refine⟨hp,?_⟩
    apply Decidable.byContradiction
    intro hno
    exact hr ⟨hno,by omega⟩
  have rSG:=rS (lT (lT lC lD) (lT lE lEG))
  have rSA:=(hS.le (leA (lT (lT lC lD) (lT lE lEG)))).rat
  have hSG:=h2.le (lT lE lEG)
  rcases hcase with hp|⟨hp,ho,hva⟩
  ·skip
   simp -implicitDefEqProofs only[↓Zd,(Zp),Zr,simprocAttr,qP,Value.cells,cut,qC,cld2,(HEx),(TAx),(BBx),(TBx),vA,t2,t3,t4,t5,t8,t10,t11,e0G,e1G,kfG,vG,iG,hp,Nat.zero_add,Nat.add_zero,decide_true,decide_false,co30,co32,co26,ord4]
   refine sover_spec hSG ?_
   rw[hg2]
   simp -implicitDefEqProofs only[↓Zd,(Zp),Zr,simprocAttr,qP,Value.cells,cut,qC,cld2,(HEx),(TAx),(BBx),(TBx),vA,t2,t3,t4,t5,t8,t10,t11,e0G,e1G,kfG,vG,iG,Nat.zero_add,Nat.add_zero,decide_true,decide_false,co26,co31,ord4]
   refine samelist_spec rSG rSA hSn fun sH lH=>?_
   simp -implicitDefEqProofs only[↓Zd,(Zp),Zr,simprocAttr,qP,Value.cells,cut,qC,cld2,(HEx),(TAx),(BBx),(TBx),vA,t2,t3,t4,t5,t8,t10,t11,Nat.zero_add,Nat.add_zero,decide_true,decide_false,co31,co29,ord4]
   refine works19_spec ?_
   simp -implicitDefEqProofs only[↓Zd,(Zp),Zr,simprocAttr,qP,Value.cells,cut,qC,cld2,(HEx),(TAx),(BBx),(TBx),vA,t2,t3,t4,t5,t8,t10,t11,ord4]
   exact hR _
  ·rcases ho with rfl|rfl
   ·skip
    simp -implicitDefEqProofs only[↓Zd,(Zp),Zr,simprocAttr,qP,Value.cells,cut,qC,cld2,(HEx),(TAx),(BBx),(TBx),vA,t2,t3,t4,t5,t8,t10,t11,e0G,e1G,kfG,vG,iG,hp,hva,Nat.zero_add,Nat.add_zero,decide_true,decide_false,co30,co32,co26,ord4]
    refine sover_spec hSG ?_
    rw[hg2]
    simp -implicitDefEqProofs only[↓Zd,(Zp),Zr,simprocAttr,qP,Value.cells,cut,qC,cld2,(HEx),(TAx),(BBx),(TBx),vA,t2,t3,t4,t5,t8,t10,t11,e0G,e1G,kfG,vG,iG,Nat.zero_add,Nat.add_zero,decide_true,decide_false,co26,co31,ord4]
    refine samelist_spec rSG rSA hSn fun sH lH=>?_
    simp -implicitDefEqProofs only[↓Zd,(Zp),Zr,simprocAttr,qP,Value.cells,cut,qC,cld2,(HEx),(TAx),(BBx),(TBx),vA,t2,t3,t4,t5,t8,t10,t11,Nat.zero_add,Nat.add_zero,decide_true,decide_false,co31,co29,ord4]
    refine works19_spec ?_
    simp -implicitDefEqProofs only[↓Zd,(Zp),Zr,simprocAttr,qP,Value.cells,cut,qC,cld2,(HEx),(TAx),(BBx),(TBx),vA,t2,t3,t4,t5,t8,t10,t11,ord4]
    exact hR _
   ·skip
    simp -implicitDefEqProofs only[↓Zd,(Zp),Zr,simprocAttr,qP,Value.cells,cut,qC,cld2,(HEx),(TAx),(BBx),(TBx),vA,t2,t3,t4,t5,t8,t10,t11,e0G,e1G,kfG,vG,iG,hp,hva,Nat.zero_add,Nat.add_zero,decide_true,decide_false,co30,co32,co26,ord4]
    refine sover_spec hSG ?_
    rw[hg2]
    simp -implicitDefEqProofs only[↓Zd,(Zp),Zr,simprocAttr,qP,Value.cells,cut,qC,cld2,(HEx),(TAx),(BBx),(TBx),vA,t2,t3,t4,t5,t8,t10,t11,e0G,e1G,kfG,vG,iG,Nat.zero_add,Nat.add_zero,decide_true,decide_false,co26,co31,ord4]
    refine samelist_spec rSG rSA hSn fun sH lH=>?_
    simp -implicitDefEqProofs only[↓Zd,(Zp),Zr,simprocAttr,qP,Value.cells,cut,qC,cld2,(HEx),(TAx),(BBx),(TBx),vA,t2,t3,t4,t5,t8,t10,t11,Nat.zero_add,Nat.add_zero,decide_true,decide_false,co31,co29,ord4]
    refine works19_spec ?_
    simp -implicitDefEqProofs only[↓Zd,(Zp),Zr,simprocAttr,qP,Value.cells,cut,qC,cld2,(HEx),(TAx),(BBx),(TBx),vA,t2,t3,t4,t5,t8,t10,t11,ord4]
    exact hR _
 |true =>
  have hready:¬ ((o=8∨o=9)∧(V.length:Int)≤a3)∧effP o a3≤(S.length:Int):=by
   unfold readyB at hr
   exact of_decide_eq_true hr
  refine do_spec h2 (by omega) (by omega) (hP.le leD) hgood (by omega) (fun j hj=>by have:=hpj j hj;omega) hgl2 kfD (by omega) kvD (by omega) ksD (by omega) hVn hSn hsc hI hvq hvs hsq (fun sE lE h0=>?_) (fun _ fi' pi' c' x' _ _ _ _ _ sE D' O' ov' tv' kd k1 m1 u1 k2 m2 u2 ea em ec pc' va' sa' g1 g2 g3 g4 g5 g6=>?_)
  case refine_1 =>
   exfalso
   rcases h0 with h0|h0
   ·rw[hg2]at h0;cases h0
   ·have:=h0 fi pi c _ rfl rfl hc hx
    simp only at this
    rw[hr]at this;cases this
  have hlow2:∀ c,c<lo2→¬ ownS q2 gb2 (.slice none 0 0) (.slice none 0 0) O2 c:=fun c hc ho=>by have:=(h2.own c ho).1;omega
  have e0E:=(g6 s.next (by omega) (hlow2 _ (by omega)) (by omega) (by omega)).trans e0D
  have e1E:=(g6 (s.next+1) (by omega) (hlow2 _ (by omega)) (by omega) (by omega)).trans e1D
  have kfE:=g4
  have kcE:=(g6 jc (by omega) (hlow2 _ (by omega)) (by omega) (by omega)).trans hcb
  have kiE:=(g6 j (by omega) (hlow2 _ (by omega)) (by omega) (by omega)).trans hjb
  have y0E:¬ s.next=sE.next:=by omega
  have y1E:¬ s.next+1=sE.next:=by omega
  have y2E:¬ s3.next+2=sE.next:=by omega
  have jE:¬ jc=sE.next:=by omega
  have jE2:¬ j=sE.next:=by omega
  have jF:¬ jc=sE.next+1:=by omega
  have jF2:¬ j=sE.next+1:=by omega
  have yF0:¬ s.next=sE.next+1:=by omega
  have yF1:¬ s.next+1=sE.next+1:=by omega
  have yF2:¬ s3.next+2=sE.next+1:=by omega
  have yF3:¬ sE.next=sE.next+1:=by omega
  unfold evA
  refine shape_abs [2,3,4,5,8,9] fun env9 he=>?_
  have t2:env9 2 = .pointer (some ⟨s.next,0,none⟩):=(he 2 (by simp)).trans t2
  have t3:env9 3 = .pointer (some ⟨s.next+1,0,none⟩):=(he 3 (by simp)).trans t3
  have t4:env9 4 = .bool false:=(he 4 (by simp)).trans t4
  have t5:env9 5 = .pointer (some ⟨s3.next+2,0,none⟩):=(he 5 (by simp)).trans t5
  have t8:env9 8 = .pointer (some ⟨q2,0,none⟩):=he 8 (by simp)
  have t9:env9 9 = .bool true:=he 9 (by simp)
  clear he
  simp -implicitDefEqProofs only[↓Zd,(Zp),Zr,simprocAttr,qP,Value.cells,cut,qC,cld2,(HEx),(TAx),(BBx),(TBx),vA,t2,t3,t4,t5,t8,t9,e0E,e1E,kfE,y0E,y1E,y2E,yF0,yF1,yF2,yF3,hzE,hzI,kcE,kiE,jE,jE2,jF,jF2,f1',f2,f3',f4,c1,c2,d4,hff,hpp,Nat.zero_add,Nat.add_zero,decide_true,decide_false,co30,co32,ord4]
  obtain⟨sF,hsF⟩:∃ sF,sF=((((sE.new (.cells [.int .i64 0,.int .i64 0,.int .i64 0,.string ⟨#[]⟩,.int .i64 0,.int .i64 0,.string ⟨#[]⟩,.slice none 0 0] 66 true)).put sE.next (.cells [.int .i64 kd,.int .i64 k1,.int .i64 m1,.string u1,.int .i64 k2,.int .i64 m2,.string u2,.slice ea em ec] 66 true)).new (.cells [.int .i64 0,.int .i64 0,.int .i64 0] 74 true)).put (sE.next+1) (.cells [.int .i64 o,.int .i64 a3,.int .i64 b3] 74 true)):=⟨_,rfl⟩
  have lF:sE.le sF:=by rw[hsF];exact (by repeat (first|exact lR _|assumption|refine lN ?_|refine lP ?_ (by first|omega|(simp only[(Sn)];omega))|refine lT ?_ (by assumption)))
  have nF:sF.next=sE.next+2:=by rw[hsF];rfl
  have vF:sF.at' sE.next=some (.cells [.int .i64 kd,.int .i64 k1,.int .i64 m1,.string u1,.int .i64 k2,.int .i64 m2,.string u2,.slice ea em ec] 66 true):=by rw[hsF,St.at_put,if_neg (by omega),St.at_new,if_neg (by simp only[(Sn)];omega),St.at_put,if_pos rfl]
  have iF:sF.at' (sE.next+1)=some (.cells [.int .i64 o,.int .i64 a3,.int .i64 b3] 74 true):=by rw[hsF,St.at_put,if_pos rfl]
  rw[← hsF]
  clear hsF
  refine reffect_spec fun sG yy lG=>?_
  refine shape_abs [2,3,4,5,8,10,11] fun env7 he=>?_
  have t2:env7 2 = .pointer (some ⟨s.next,0,none⟩):=(he 2 (by simp)).trans t2
  have t3:env7 3 = .pointer (some ⟨s.next+1,0,none⟩):=(he 3 (by simp)).trans t3
  have t4:env7 4 = .bool false:=(he 4 (by simp)).trans t4
  have t5:env7 5 = .pointer (some ⟨s3.next+2,0,none⟩):=(he 5 (by simp)).trans t5
  have t8:env7 8 = .pointer (some ⟨q2,0,none⟩):=(he 8 (by simp)).trans t8
  have t10:env7 10 = .pointer (some ⟨sE.next,0,none⟩):=he 10 (by simp)
  have t11:env7 11 = .pointer (some ⟨sE.next+1,0,none⟩):=he 11 (by simp)
  clear he
  have vG:=(lG.2 sE.next (by omega)).trans vF
  have iG:=(lG.2 (sE.next+1) (by omega)).trans iF
  have lEG:=lT lF lG
  have e0G:=(lEG.2 s.next (by omega)).trans e0E
  have e1G:=(lEG.2 (s.next+1) (by omega)).trans e1E
  have kfG:=(lEG.2 (s3.next+2) (by omega)).trans kfE
  have hp:¬ (S.length:Int)<effP o a3:=by omega
  have hSG:=g1.le lEG
  have bTT:(true == true)=true:=rfl
  have bFF:(false == false)=true:=rfl
  have hkd:(goesB D'=false∧kd=3∧pc'=(pi:Int))∨(goesB D'=true∧¬ kd=3):=by
   cases hgD:goesB D' with
   |false=>exact .inl ⟨rfl,g2.2 hgD,g3 (g2.2 hgD)⟩
   |true=>exact .inr ⟨rfl,fun e=>by rw[g2.1 e]at hgD;cases hgD⟩
  have hopc:(o=8∧¬ (V.length:Int)≤a3)∨(o=9∧¬ (V.length:Int)≤a3)∨(¬ o=8∧¬ o=9):=by
   have:=hready.1;omega
  rcases hopc with ⟨rfl,hva⟩|⟨rfl,hva⟩|⟨hva,ho9⟩
  ·skip
   simp -implicitDefEqProofs only[↓Zd,(Zp),Zr,simprocAttr,qP,Value.cells,cut,qC,cld2,(HEx),(TAx),(BBx),(TBx),vA,t2,t3,t4,t5,t8,t10,t11,e0G,e1G,kfG,vG,iG,hp,hva,Nat.zero_add,Nat.add_zero,decide_true,decide_false,co30,co32,co26,ord4]
   refine sover_spec hSG ?_
   rcases hkd with ⟨hgD,rfl,rfl⟩|⟨hgD,hk3⟩
   ·rw[hgD]
    simp -implicitDefEqProofs only[↓Zd,(Zp),Zr,simprocAttr,qP,Value.cells,cut,qC,cld2,(HEx),(TAx),(BBx),(TBx),vA,t2,t3,t4,t5,t8,t10,t11,e0G,e1G,kfG,vG,iG,bTT,bFF,Nat.zero_add,Nat.add_zero,decide_true,decide_false,co26,co29,ord4]
    refine works19_spec ?_
    simp -implicitDefEqProofs only[↓Zd,(Zp),Zr,simprocAttr,qP,Value.cells,cut,qC,cld2,(HEx),(TAx),(BBx),(TBx),vA,t2,t3,t4,t5,t8,t10,t11,e0G,e1G,kfG,vG,iG,bTT,bFF,Nat.zero_add,Nat.add_zero,decide_true,decide_false,ord4]
    exact hR _
   ·rw[hgD]
    simp -implicitDefEqProofs only[↓Zd,(Zp),Zr,simprocAttr,qP,Value.cells,cut,qC,cld2,(HEx),(TAx),(BBx),(TBx),vA,t2,t3,t4,t5,t8,t10,t11,e0G,e1G,kfG,vG,iG,hk3,bTT,bFF,Nat.zero_add,Nat.add_zero,decide_true,decide_false,co26,co29,ord4]
    refine works19_spec ?_
    simp -implicitDefEqProofs only[↓Zd,(Zp),Zr,simprocAttr,qP,Value.cells,cut,qC,cld2,(HEx),(TAx),(BBx),(TBx),vA,t2,t3,t4,t5,t8,t10,t11,e0G,e1G,kfG,vG,iG,hk3,bTT,bFF,Nat.zero_add,Nat.add_zero,decide_true,decide_false,ord4]
    exact hR _
  ·skip
   simp -implicitDefEqProofs only[↓Zd,(Zp),Zr,simprocAttr,qP,Value.cells,cut,qC,cld2,(HEx),(TAx),(BBx),(TBx),vA,t2,t3,t4,t5,t8,t10,t11,e0G,e1G,kfG,vG,iG,hp,hva,Nat.zero_add,Nat.add_zero,decide_true,decide_false,co30,co32,co26,ord4]
   refine sover_spec hSG ?_
   rcases hkd with ⟨hgD,rfl,rfl⟩|⟨hgD,hk3⟩
   ·rw[hgD]
    simp -implicitDefEqProofs only[↓Zd,(Zp),Zr,simprocAttr,qP,Value.cells,cut,qC,cld2,(HEx),(TAx),(BBx),(TBx),vA,t2,t3,t4,t5,t8,t10,t11,e0G,e1G,kfG,vG,iG,bTT,bFF,Nat.zero_add,Nat.add_zero,decide_true,decide_false,co26,co29,ord4]
    refine works19_spec ?_
    simp -implicitDefEqProofs only[↓Zd,(Zp),Zr,simprocAttr,qP,Value.cells,cut,qC,cld2,(HEx),(TAx),(BBx),(TBx),vA,t2,t3,t4,t5,t8,t10,t11,e0G,e1G,kfG,vG,iG,bTT,bFF,Nat.zero_add,Nat.add_zero,decide_true,decide_false,ord4]
    exact hR _
   ·rw[hgD]
    simp -implicitDefEqProofs only[↓Zd,(Zp),Zr,simprocAttr,qP,Value.cells,cut,qC,cld2,(HEx),(TAx),(BBx),(TBx),vA,t2,t3,t4,t5,t8,t10,t11,e0G,e1G,kfG,vG,iG,hk3,bTT,bFF,Nat.zero_add,Nat.add_zero,decide_true,decide_false,co26,co29,ord4]
    refine works19_spec ?_
    simp -implicitDefEqProofs only[↓Zd,(Zp),Zr,simprocAttr,qP,Value.cells,cut,qC,cld2,(HEx),(TAx),(BBx),(TBx),vA,t2,t3,t4,t5,t8,t10,t11,e0G,e1G,kfG,vG,iG,hk3,bTT,bFF,Nat.zero_add,Nat.add_zero,decide_true,decide_false,ord4]
    exact hR _
  ·skip
   simp -implicitDefEqProofs only[↓Zd,(Zp),Zr,simprocAttr,qP,Value.cells,cut,qC,cld2,(HEx),(TAx),(BBx),(TBx),vA,t2,t3,t4,t5,t8,t10,t11,e0G,e1G,kfG,vG,iG,hp,hva,ho9,Nat.zero_add,Nat.add_zero,decide_true,decide_false,co30,co32,co26,ord4]
   refine sover_spec hSG ?_
   rcases hkd with ⟨hgD,rfl,rfl⟩|⟨hgD,hk3⟩
   ·rw[hgD]
    simp -implicitDefEqProofs only[↓Zd,(Zp),Zr,simprocAttr,qP,Value.cells,cut,qC,cld2,(HEx),(TAx),(BBx),(TBx),vA,t2,t3,t4,t5,t8,t10,t11,e0G,e1G,kfG,vG,iG,bTT,bFF,Nat.zero_add,Nat.add_zero,decide_true,decide_false,co26,co29,ord4]
    refine works19_spec ?_
    simp -implicitDefEqProofs only[↓Zd,(Zp),Zr,simprocAttr,qP,Value.cells,cut,qC,cld2,(HEx),(TAx),(BBx),(TBx),vA,t2,t3,t4,t5,t8,t10,t11,e0G,e1G,kfG,vG,iG,bTT,bFF,Nat.zero_add,Nat.add_zero,decide_true,decide_false,ord4]
    exact hR _
   ·rw[hgD]
    simp -implicitDefEqProofs only[↓Zd,(Zp),Zr,simprocAttr,qP,Value.cells,cut,qC,cld2,(HEx),(TAx),(BBx),(TBx),vA,t2,t3,t4,t5,t8,t10,t11,e0G,e1G,kfG,vG,iG,hk3,bTT,bFF,Nat.zero_add,Nat.add_zero,decide_true,decide_false,co26,co29,ord4]
    refine works19_spec ?_
    simp -implicitDefEqProofs only[↓Zd,(Zp),Zr,simprocAttr,qP,Value.cells,cut,qC,cld2,(HEx),(TAx),(BBx),(TBx),vA,t2,t3,t4,t5,t8,t10,t11,e0G,e1G,kfG,vG,iG,hk3,bTT,bFF,Nat.zero_add,Nat.add_zero,decide_true,decide_false,ord4]
    exact hR _
end
end Go.Proofs.Tryz
section
set_option maxRecDepth 100000
namespace Go.Proofs.Tryz
open Go.Cs Go.ChangeShapes Go.WideShapes Go.ChangeAt Go.RowKit Go.ChangeMaps
theorem open_prog2{H:Type}{enc:TypeId×Value→H}{W:World}{r:Reach}{b0:Nat}{v:Value}{d:DataW H}{ps:List MemPlace}(hval:Value.okWide prog W r b0 60 v)(hd:DataW.Trod enc prog W 0 (fun _=>true) true 60 v d ps) :
  ∃ (g:Int) (v1 v2:Value),v = .agg #[.int .i64 g,v1,v2]∧I64 g ∧
  (∃ (A us:List ByteArray) (cp:Nat) (oi:Option BI) (ad:Nat→Option Addr),(∀ ρ,QIn ρ W oi (us.flatMap strC))∧(∀ (ρ:Ren) j,ρ j=oi→VRel ρ (.slice (ad j) A.length cp) v1)∧(∀ a∈A,True)∧(A=[]∨(ad=fun j=>some ⟨j,0,none⟩)∧∀ k,k<A.length→us[k]?=A[k]?)∧A.length≤9223372036854775807∧(ad=(fun _=>none)∧A=[]∧cp=0∨ad=fun j=>some ⟨j,0,none⟩)∧A.length≤cp∧cp<UNK) ∧
  ∃ (len cp:Nat) (us:List CodeD) (oi:Option BI) (ad:Nat→Option Addr),(∀ (ρ:Ren) (cl:Nat→List Value),(∀ i,(cl i).length=5)→(∀ i u,us[i]?=some u→∀ cs,cs.length=5→CodeRel W u cs→∀ k,k<5→VRel ρ ((cl i).getD k Go.undef) (cs.getD k Go.undef))→QIn ρ W oi (rowsN cl us.length))∧(∀ (ρ:Ren) j,ρ j=oi→VRel ρ (.slice (ad j) len cp) v2)∧(len=0∨ad=fun j=>some ⟨j,0,none⟩)∧len≤us.length∧len≤9223372036854775807∧∀ u∈us,∃ cs,cs.length=5∧CodeRel W u cs:=by
 have hval0:=hval
 simp only[Value.okWide,underlying60]at hval
 obtain⟨cs,rfl,hcs,ts,hts,_,hrow⟩:=hval
 rw[cellsP]at hts
 cases hts
 rw[ce60]at hcs
 obtain⟨fuel,hf⟩:=hd
 obtain⟨xs,m,_,hx,hl,hlen,hp⟩:=DataW.trod_struct underlying60 hf
 have h0:DataW.trod enc prog W 0 (fun _=>true) true m 3 (List.take (prog.cellsOf 3) (List.drop 0 cs.toList))=xs[0]?:=hp 0 _ rfl
 have h1:DataW.trod enc prog W 0 (fun _=>true) true m 39 (List.take (prog.cellsOf 39) (List.drop 1 cs.toList))=xs[1]?:=hp 1 _ rfl
 have h2:DataW.trod enc prog W 0 (fun _=>true) true m 58 (List.take (prog.cellsOf 58) (List.drop 2 cs.toList))=xs[2]?:=hp 2 _ rfl
 rw[ce3]at h0
 rw[ce39]at h1
 rw[ce58]at h2
 have hlen:xs.length=3:=hlen
 obtain⟨l⟩:=cs
 match l,hcs,xs,hlen with
 | [c0,c1,c2],_,[y0,y1,y2],_ =>
  simp only[List.drop_zero,List.drop_succ_cons,List.take_succ_cons,List.take_zero,List.getElem?_cons_zero,List.getElem?_cons_succ]at h0 h1 h2
  obtain⟨g,e0,rfl,w0⟩:=DataW.trod_int underlying3 h0
  simp only[List.cons.injEq,and_true]at e0
  subst e0
  have hv1:Value.okWide prog W r b0 39 c1:=by
   obtain⟨u,hu,hk⟩:=hrow 1 c1 rfl
   cases hu
   simp only[Value.okWide,underlying39]
   exact hk
  have hv2:Value.okWide prog W r b0 58 c2:=by
   obtain⟨u,hu,hk⟩:=hrow 2 c2 rfl
   cases hu
   simp only[Value.okWide,underlying58]
   exact hk
  obtain⟨d1,p1⟩:=y1
  obtain⟨d2,p2⟩:=y2
  have e1:∀ (v:Value),(∃ l n c,v=Value.slice l n c)→v.cells.toList=[v]:=by rintro _ ⟨_,_,_,rfl⟩;rfl
  obtain⟨l1,n1,k1,f1⟩:=okWide_slice underlying39 hv1
  obtain⟨l2,n2,k2,f2⟩:=okWide_slice underlying58 hv2
  have t1:DataW.Trod enc prog W 0 (fun _=>true) true 39 c1 d1 p1:=⟨m,by rw[e1 c1 ⟨_,_,_,f1⟩];exact h1⟩
  have t2:DataW.Trod enc prog W 0 (fun _=>true) true 58 c2 d2 p2:=⟨m,by rw[e1 c2 ⟨_,_,_,f2⟩];exact h2⟩
  refine⟨g,c1,c2,rfl,Go.Cs.fits_i64 w0,?_,?_⟩
  ·exact open_in2 (c:=1) strC (fun _=>True) underlying39 ce9 (fun _=>rfl) (fun a x hx=>by
    simp only[strC,List.mem_cons,List.not_mem_nil,or_false]at hx
    subst hx;rfl) (by omega) el_str h1
  ·exact open_rowsN (c:=5) (CodeRel W) underlying58 ce72 (by omega) el_Code hv2 t2
def cd0:CodeD:=⟨0,0,0,0,[],[],0,none,fun _=>none⟩
def codeAt(us:List CodeD)(i:Nat):CodeV:=codeV (4+i) (us.getD i cd0)
theorem baseStops_walk{H:Type}{enc:TypeId×Value→H}{W:World}{r:Reach}{b0:Nat}{v0 v1:Value}{d0 d1:DataW H}{p0 p1:List MemPlace}(hval0:Value.okWide prog W r b0 60 v0)(h0:DataW.Trod enc prog W 0 (fun _=>true) true 60 v0 d0 p0)(hval1:Value.okWide prog W r b0 62 v1)(h1:DataW.Trod enc prog W 0 (fun _=>true) true 62 v1 d1 p1) :
  Calls prog 4 #[v0,v1] W fun e w'=>e = .returned (.bool true)∧Below W.heap.size W w':=by
 obtain⟨g,u1,u2,rfl,hg,⟨Pl,Pus,Pcp,Poi,Pad,pq,pv,_,pt,pl,pn,_,_⟩,len,Ccp,us,Coi,Cad,cq,cv,ct,cl1,cl2,crel⟩:=open_prog2 hval0 h0
 obtain⟨f,pc,v2,v3,k,n,x,rfl,hfI,hpI,_,_,⟨A,Aus,Acp,Aoi,Aad,aq,av,aok,at1,al,an,ac,au⟩,⟨B',Bus,Bcp,Boi,Bad,bq,bv,bok,bt1,bl,bn,bc,bu⟩⟩:=open_frame hval1 h1
 have hget:∀ i u,us[i]?=some u→us.getD i cd0=u:=fun i u h=>by rw[List.getD_eq_getElem?_getD,h];rfl
 have hrow:∀ i u,us[i]?=some u→∃ cs,cs.length=5∧CodeRel W u cs:=fun i u h=>crel u (List.mem_of_getElem? h)
 let C:List CodeV:=(List.range len).map (codeAt us)
 have hCl:C.length=len:=by simp[C]
 have hCg:∀ i c,C[i]?=some c→i<len∧c=codeAt us i:=fun i c h=>by
  simp only[C,List.getElem?_map]at h
  obtain⟨q,h1,h2⟩:=Option.map_eq_some_iff.1 h
  have h3:=List.getElem?_range (n:=len) (i:=i)
  have hi:i<len:=by
   have:=(List.getElem?_eq_some_iff.1 h1).1
   simpa using this
  rw[List.getElem?_range hi]at h1
  cases h1
  exact⟨hi,h2.symm⟩
 let L:List (TypeId×List Value):=(9,Pus.flatMap strC)::(31,Aus.flatMap val3)::(31,Bus.flatMap val3)::(72,rowsN (fun i=>codeC (codeAt us i)) us.length)::us.map fun u=>(74,u.us.flatMap actIC)
 let B:List (Option BI):=Poi::Aoi::Boi::Coi::us.map (·.oi)
 have hB3:∀ i u,us[i]?=some u→qRen B (4+i)=u.oi:=fun i u h=>by
  show (B[4+i]?).join=u.oi
  have:B[4+i]?=some u.oi:=by
   show (Poi::Aoi::Boi::Coi::us.map (·.oi))[4+i]?=_
   rw[show 4+i=i+1+1+1+1 by omega,List.getElem?_cons_succ,List.getElem?_cons_succ,List.getElem?_cons_succ,List.getElem?_cons_succ,List.getElem?_map,h]
   rfl
  rw[this];rfl
 have hat:∀ i u,us[i]?=some u→(qSt L).at' (4+i)=some (.cells (u.us.flatMap actIC) 74 false):=fun i u h=>by
  rw[q_at]
  have:L[4+i]?=some (74,u.us.flatMap actIC):=by
   show ((9,Pus.flatMap strC)::(31,Aus.flatMap val3)::(31,Bus.flatMap val3)::(72,rowsN (fun i=>codeC (codeAt us i)) us.length)::us.map fun u=>(74,u.us.flatMap actIC))[4+i]?=_
   rw[show 4+i=i+1+1+1+1 by omega,List.getElem?_cons_succ,List.getElem?_cons_succ,List.getElem?_cons_succ,List.getElem?_cons_succ,List.getElem?_map,h]
   rfl
  rw[this];rfl
 have hnx:(qSt L).next=us.length+4:=by show L.length=_;simp[L]
 have hP:PAt (qSt L) (Pad 0) Pl (Cad 3) C:=by
  refine⟨?_,?_,fun c hc=>?_,fun c hc=>?_,pl,by rw[hCl];exact cl2⟩
  ·rcases pt with pt|⟨rfl,pt⟩
   ·exact .inl pt
   ·exact .inr ⟨0,Pus,rfl,by rw[hnx];omega,rfl,pt⟩
  ·rcases ct with ct|rfl
   ·exact .inl (List.eq_nil_of_length_eq_zero (by rw[hCl];exact ct))
   ·exact .inr ⟨3,us.length,fun i=>codeC (codeAt us i),rfl,by rw[hnx];omega,rfl,fun _=>rfl,by rw[hCl];exact cl1,fun i c h=>by rw[(hCg i c h).2]⟩
  ·obtain⟨i,hi⟩:=List.getElem?_of_mem hc
   obtain⟨h1,rfl⟩:=hCg i c hi
   have hu:us[i]?=some (us[i]'(by omega)):=List.getElem?_eq_getElem _
   generalize us[i]'(by omega)=u at hu
   obtain⟨cs,_,v,_,_,_,_,ht⟩:=hrow i u hu
   unfold codeAt
   rw[hget i u hu]
   rcases ht with ht|⟨ht1,ht2⟩
   ·exact .inl ht
   ·refine .inr ⟨4+i,u.us,?_,by rw[hnx];omega,hat i u hu,ht2⟩
    show u.ad (4+i)=_
    rw[ht1]
  ·obtain⟨i,hi⟩:=List.getElem?_of_mem hc
   obtain⟨h1,rfl⟩:=hCg i c hi
   have hu:us[i]?=some (us[i]'(by omega)):=List.getElem?_eq_getElem _
   generalize us[i]'(by omega)=u at hu
   obtain⟨cs,_,v,_,ho,_⟩:=hrow i u hu
   unfold codeAt
   rw[hget i u hu]
   exact ho _
 have hA:AAt (qSt L) (Aad 1) A Acp:=by
  rcases an with ⟨rfl,h1,h2⟩|rfl
  ·exact .inl ⟨rfl,h1,h2⟩
  ·refine .inr ⟨1,Aus,rfl,by rw[hnx];omega,rfl,fun i hi=>?_⟩
   rcases at1 with h|⟨_,h⟩
   ·rw[h]at hi;cases hi
   ·exact h i hi
 have hB:AAt (qSt L) (Bad 2) B' Bcp:=by
  rcases bn with ⟨rfl,h1,h2⟩|rfl
  ·exact .inl ⟨rfl,h1,h2⟩
  ·refine .inr ⟨2,Bus,rfl,by rw[hnx];omega,rfl,fun i hi=>?_⟩
   rcases bt1 with h|⟨_,h⟩
   ·rw[h]at hi;cases hi
   ·exact h i hi
 have hpj:∀ j,Pad 0=some ⟨j,0,none⟩→j<(qSt L).next:=fun j hj=>by
  rcases pn with ⟨h,_⟩|h
  ·rw[h]at hj;cases hj
  ·rw[h]at hj;cases hj;rw[hnx];omega
 refine calls_q (L:=L) (B:=B) (args:=#[.agg #[.int .i64 g,.slice (Pad 0) Pl.length Pcp,.slice (Cad 3) C.length Ccp],.agg #[.int .i64 f,.int .i64 pc,.slice (Aad 1) A.length Acp,.slice (Bad 2) B'.length Bcp,.int .i64 k,.int .i64 n,.string x]]) (by simp[L,B]) ?_ ⟨rfl,?_⟩ (baseStops_spec hP hpj hA hB (fun v hv=>(bok v hv).2) hfI hpI fun _=>rfl)
 ·intro j oi' r' g1 g2
  match j,g1,g2 with
  |0,g1,g2=>cases g1;cases g2;exact pq _
  |1,g1,g2=>cases g1;cases g2;exact aq _
  |2,g1,g2=>cases g1;cases g2;exact bq _
  |3,g1,g2 =>
   cases g1;cases g2
   refine cq _ _ (fun _=>rfl) fun i u hu cs hcs hrel q hq=>?_
   obtain⟨v,rfl,ho,_,hv,_⟩:=hrel
   have e:codeC (codeAt us i)=[.int .i64 u.p,.int .i64 u.l,.int .i64 u.s,.int .i64 u.d,.slice (u.ad (4+i)) u.ins.length u.cp]:=by
    unfold codeAt
    rw[hget i u hu]
    rfl
   show VRel _ ((codeC (codeAt us i)).getD q Go.undef) _
   rw[e]
   match q,hq with
   |0,_=>exact .int _ _
   |1,_=>exact .int _ _
   |2,_=>exact .int _ _
   |3,_=>exact .int _ _
   |4,_=>exact hv _ (4+i) (hB3 i u hu)
  |j+4,g1,g2 =>
   have g1:(us.map (·.oi))[j]?=some oi':=g1
   have g2:(us.map fun u=>((74,u.us.flatMap actIC):TypeId×List Value))[j]?=some r':=g2
   rw[List.getElem?_map]at g1 g2
   obtain⟨u,hu,rfl⟩:=Option.map_eq_some_iff.1 g1
   rw[hu]at g2
   cases g2
   obtain⟨cs,_,v,_,_,hq,_⟩:=hrow j u hu
   exact hq _
 ·intro i hi
  match i,hi with
  |0,_ =>
   refine .agg rfl fun q hq=>?_
   match q,hq with
   |0,_=>exact .int _ _
   |1,_=>exact pv _ 0 rfl
   |2,_=>show VRel _ (.slice (Cad 3) C.length Ccp) _;rw[hCl];exact cv _ 3 rfl
  |1,_ =>
   refine .agg rfl fun q hq=>?_
   match q,hq with
   |0,_=>exact .int _ _
   |1,_=>exact .int _ _
   |2,_=>exact av _ 1 rfl
   |3,_=>exact bv _ 2 rfl
   |4,_=>exact .int _ _
   |5,_=>exact .int _ _
   |6,_=>exact .string _
end Go.Proofs.Tryz
end
