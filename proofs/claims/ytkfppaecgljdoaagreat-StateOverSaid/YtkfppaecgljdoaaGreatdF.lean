/- Lemmas, laid one behind the other by squeeze2.py. -/
import Derived.Test.YtkfppaecgljdoaaGreatdE
set_option linter.unusedSimpArgs false
set_option linter.unusedVariables false
set_option linter.unusedSectionVars false
set_option linter.defProp false
namespace Go.Proofs.Tryz
open Go.Cs
open Go.RowKit (Below)
set_option maxRecDepth 100000
attribute [local irreducible] QC WLoop WScope CRound WRange
set_option maxHeartbeats 32000000
variable {M:Type}[Mem M]{w0:World}{s:St M}{R:Value→St M→Prop}
theorem val3_valsC:∀ g:List (Int×Int×ByteArray),g.flatMap val3=valsC (g.map fun v=>((⟨#[]⟩:ByteArray),v)):=by
 intro g
 unfold valsC
 induction g with
 |nil=>rfl
 |cons v g ih=>rw[List.flatMap_cons,ih,List.map_cons,List.flatMap_cons];rfl
theorem val3_cut{g:List (Int×Int×ByteArray)}{k:Nat}{v:Int×Int×ByteArray}(h:g[k]?=some v):k*3+3≤(g.flatMap val3).length∧List.take 3 (List.drop (k*3) (g.flatMap val3))=[.int .i64 v.1,.int .i64 v.2.1,.string v.2.2]:=by
 rw[val3_valsC]
 have:=valsC_cut (g.map fun v=>((⟨#[]⟩:ByteArray),v)) k ⟨#[]⟩ v [] (by rw[List.getElem?_map,h];rfl)
 rw[List.append_nil]at this
 exact this
theorem val3_set{g:List (Int×Int×ByteArray)}{k:Nat}(v:Int×Int×ByteArray)(h:k<g.length):setCells (g.flatMap val3) (k*3) [.int .i64 v.1,.int .i64 v.2.1,.string v.2.2]=(g.set k v).flatMap val3:=by
 rw[val3_valsC,val3_valsC]
 have:=valsC_set (g.map fun v=>((⟨#[]⟩:ByteArray),v)) k ⟨#[]⟩ v g[k] [] (by rw[List.getElem?_map,List.getElem?_eq_getElem h];rfl)
 rw[List.append_nil,List.append_nil]at this
 rw[this,List.map_set]
def globV(D:StD)(i:Int):Int×Int×ByteArray:=if goesB D=true then (if 0≤i then D.g.getD i.toNat zV else zV) else zV
def setgB(D:StD)(i:Int):Bool:=goesB D && decide (0≤i∧i<(D.g.length:Int))
def setgT(D:StD)(i:Int)(v:Int×Int×ByteArray):StD:=if setgB D i=true then setgS D i v else D
def makeE(H:Hp):Int:=if H.maxO≤H.obs.length then 40 else 0
def makeS(D:StD):StD:=if goesB D=true then needS { D with H:=makeH D.H } (makeE D.H) else D
def printS(D:StD)(v:Int×Int×ByteArray):StD:=if goesB D=true then { D with out:=D.out ++ [showV v.1 v.2.1 v.2.2] } else D
section
variable {lo q N p gb:Nat}{D:StD}{O:Nat→Prop}{ov tv:Value}
theorem Upd.loc{s1 s2:St M}{A B:Nat→Prop}{c:Nat}(h:Upd s1 s2 A B)(hc:c<s1.next)(hA:¬ A c):¬ B c∧s2.at' c=s1.at' c:=
 ⟨fun hb=>by rcases h.own c hb with h|h;exact hA h;omega,h.keep c hc hA⟩
theorem StIn.loc{s2:St M}{A:Nat→Prop}{c:Nat}{B:Blk}(h:StIn lo s2 q D N O p gb ov tv)(hU:Upd s s2 A (ownS q gb ov tv O))(hc:s.next≤c)(hA:¬ ownS q gb ov tv O c):StIn lo (s2.put c B) q D N O p gb ov tv∧Upd s (s2.put c B) A (ownS q gb ov tv O):=
 ⟨h.same (Nat.le_refl _) fun b hb=>by rw[aP,if_neg (fun e:b=c=>hA (e▸hb))],hU.next,fun b hb ho=>by rw[aP,if_neg oM];exact hU.keep b hb ho,hU.own⟩
theorem StIn.fresh(h:StIn lo s q D N O p gb ov tv){c:Nat}(hc:s.next≤c):¬ ownS q gb ov tv O c:=fun hb=>by have:=(h.own c hb).2;omega
theorem sglob_spec{i:Int}(h:StIn lo s q D N O p gb ov tv)(hR:∀ s',s.le s'→R (vA (globV D i).1 (globV D i).2.1 (globV D i).2.2) s') :
  QC prog w0 25 #[.pointer (some ⟨q,0,none⟩),.int .i64 i] s R:=by
 refine wfun2 hmix ok25 func25 rfl ntmps25 results25 (by simp) ?_
 have l1:s.le (s.new (.cells [.int .i64 0,.int .i64 0,.string ⟨#[]⟩] 31 true)):=lN (lR _)
 have hb:=h.bl
 have hgl:=h.gl
 have hq1:¬ q=s.next:=by have:=h.q0.2.1;omega
 have hg1:¬ gb=s.next:=by have:=h.g0.2.1;omega
 have hlg:=h.num.glob
 unfold stC at hb
 simp only[↓Zd,Zp,Zs,simprocAttr,HEx,TAx,co26]
 refine sover_spec (h.le l1) ?_
 unfold globV at hR
 cases hg:goesB D with
 |false =>
  rw[hg]at hR
  simp only[↓Zd,Zp,Zs,simprocAttr,HEx]
  exact hR _ oL
 |true =>
  rw[hg,if_pos rfl]at hR
  by_cases h1:i<0
  ·rw[if_neg oM]at hR
   simp only[↓Zd,Zp,Zs,simprocAttr,HEx,h1]
   exact hR _ oL
  ·rw[if_pos oM]at hR
   obtain⟨k,rfl⟩:∃ k:Nat,i=(k:Int):=⟨i.toNat,oM⟩
   rw[Int.toNat_natCast]at hR
   by_cases h2:(D.g.length:Int)≤(k:Int)
   ·rw[List.getD_eq_getElem?_getD,List.getElem?_eq_none oM]at hR
    simp only[↓Zd,Zp,Zs,simprocAttr,HEx,TAx,h1,h2,hb,hq1]
    exact hR _ oL
   ·have hk:D.g[k]?=some D.g[k]:=List.getElem?_eq_getElem oM
    rw[List.getD_eq_getElem?_getD,hk]at hR
    obtain⟨c1,c2⟩:=val3_cut hk
    have hkk:(0:Int)≤(k:Int)∧(k:Int)<(D.g.length:Int):=oM
    simp only[Option.getD_some]at hR
    unfold vA at hR
    simp only[↓Zd,Zp,Zs,simprocAttr,HEx,TAx,h1,h2,hb,hgl,hq1,hg1,hkk,c1,c2]
    exact hR _ oL
theorem ssetg_spec{i vk vn:Int}{vx:ByteArray}(h:StIn lo s q D N O p gb ov tv)(hR:∀ s',StIn lo s' q (setgT D i (vk,vn,vx)) N O p gb ov tv→Upd s s' (ownS q gb ov tv O) (ownS q gb ov tv O)→R (.bool (setgB D i)) s') :
  QC prog w0 23 #[.pointer (some ⟨q,0,none⟩),.int .i64 i,vA vk vn vx] s R:=by
 refine wfun2 hmix ok23 func23 rfl ntmps23 results23 (by simp) ?_
 have l1:s.le (s.new (.cells [.int .i64 vk,.int .i64 vn,.string vx] 31 true)):=lN (lR _)
 have h1:=h.le l1
 have u1:Upd s (s.new (.cells [.int .i64 vk,.int .i64 vn,.string vx] 31 true)) (ownS q gb ov tv O) (ownS q gb ov tv O) := .of_le l1
 have hb:=h.bl
 have hgl:=h.gl
 have hg0:=h.g0
 have hq1:¬ q=s.next:=by have:=h.q0.2.1;omega
 have hg1:¬ gb=s.next:=oM
 have hlg:=h.num.glob
 unfold stC at hb
 simp only[↓Zd,Zp,Zs,simprocAttr,HEx,vA,co26]
 refine sover_spec h1 ?_
 unfold setgT setgB at hR
 cases hg:goesB D with
 |false =>
  rw[hg]at hR
  simp only[Bool.false_and,Bool.false_eq_true,if_false]at hR
  simp only[↓Zd,Zp,simprocAttr,HEx,vA]
  exact hR _ h1 u1
 |true =>
  rw[hg]at hR
  simp only[Bool.true_and]at hR
  by_cases r1:i<0
  ·rw[decide_eq_false oM]at hR
   simp only[Bool.false_eq_true,if_false]at hR
   simp only[↓Zd,Zp,simprocAttr,HEx,vA,r1]
   exact hR _ h1 u1
  ·obtain⟨k,rfl⟩:∃ k:Nat,i=(k:Int):=⟨i.toNat,oM⟩
   by_cases r2:(D.g.length:Int)≤(k:Int)
   ·rw[decide_eq_false oM]at hR
    simp only[Bool.false_eq_true,if_false]at hR
    simp only[↓Zd,Zp,simprocAttr,cld2,HEx,TAx,vA,r1,r2,hb,hq1]
    exact hR _ h1 u1
   ·rw[decide_eq_true oM,if_pos rfl]at hR
    unfold setgS at hR
    rw[Int.toNat_natCast]at hR
    have hk:D.g[k]?=some D.g[k]:=List.getElem?_eq_getElem oM
    obtain⟨c1,c2⟩:=val3_cut hk
    have c3:=val3_set (vk,vn,vx) (show k<D.g.length by omega)
    simp only at c3
    have hkk:(0:Int)≤(k:Int)∧(k:Int)<(D.g.length:Int):=oM
    simp only[↓Zd,Zp,Zs,simprocAttr,HEx,TAx,vA,r1,r2,hb,hgl,hq1,hg1,hkk,c1,ord23]
    refine (fun (H:_∧_)=>hR _ H.1 H.2) (h.putG (g':=D.g.set k (vk,vn,vx)) ?_ (by rw[List.length_set]) ?_ ?_)
    ·simp only[Sn];omega
    ·rw[aP,if_pos rfl,← c3]
     rfl
    ·intro b hb2 hb3
     rw[aP,if_neg hb3,aN,if_neg oM]
theorem smake_spec(h:StIn lo s q D N O p gb ov tv)(hlo:lo≤s.next)(hR:∀ s' O' a b x,StIn lo s' q (makeS D) N O' p gb ov tv→Upd s s' (ownS q gb ov tv O) (ownS q gb ov tv O')→R (.tuple #[vA a b x,.bool (goesB (makeS D))]) s') :
  QC prog w0 13 #[.pointer (some ⟨q,0,none⟩)] s R:=by
 refine wfun2 hmix ok13 func13 rfl ntmps13 results13 (by simp) ?_
 have l1:s.le (s.new (.cells [.int .i64 0,.int .i64 0,.string ⟨#[]⟩] 31 true)):=lN (lR _)
 have h1:=h.le l1
 have u1:Upd s (s.new (.cells [.int .i64 0,.int .i64 0,.string ⟨#[]⟩] 31 true)) (ownS q gb ov tv O) (ownS q gb ov tv O) := .of_le l1
 have k1:(s.new (.cells [.int .i64 0,.int .i64 0,.string ⟨#[]⟩] 31 true)).at' s.next=some (.cells [.int .i64 0,.int .i64 0,.string ⟨#[]⟩] 31 true):=by rw[aN,if_pos rfl]
 have hb:=h1.bl
 unfold stC at hb
 simp only[↓Zd,Zp,Zs,simprocAttr,HEx,co26]
 refine sover_spec h1 ?_
 unfold makeS at hR
 cases hg:goesB D with
 |false =>
  rw[hg]at hR
  simp only[Bool.false_eq_true,if_false]at hR
  rw[hg]at hR
  unfold vA at hR
  simp only[↓Zd,Zp,Zs,simprocAttr,HEx]
  obtain⟨a,b⟩:=h1.loc (c:=s.next) u1 (Nat.le_refl _) (h.fresh (Nat.le_refl _))
  exact hR _ _ _ _ _ a b
 |true =>
  rw[hg]at hR
  simp only[if_true]at hR
  have kn:s.next<(s.new (.cells [.int .i64 0,.int .i64 0,.string ⟨#[]⟩] 31 true)).next:=by simp only[nN];omega
  generalize s.new (.cells [.int .i64 0,.int .i64 0,.string ⟨#[]⟩] 31 true)=s1 at l1 h1 u1 k1 hb kn ⊢
  have n1:=l1.1
  simp only[↓Zd,Zp,simprocAttr,cld2,HEx,TAx,hb,co62]
  refine hmake_spec h1.heap oM fun s2 O2 hH2 hU2=>?_
  obtain⟨h2,u2⟩:=h1.heaped (Nat.le_refl _) hH2 hU2
  obtain⟨f2,k2⟩:=u2.loc (c:=s.next) kn (h.fresh (Nat.le_refl _))
  have hE:∃ o e:Int,makeV D.H = .tuple #[.int .i64 o,.int .i64 e]∧e=makeE D.H:=by
   unfold makeV makeE
   split
   ·exact⟨_,_,rfl,rfl⟩
   ·exact⟨_,_,rfl,rfl⟩
  obtain⟨o,e,hV,he⟩:=hE
  have bV:cbuild prog 31 #[(0,.int .i64 4),(1,.int .i64 o)]=some (.agg #[.int .i64 4,.int .i64 o,.string ⟨#[]⟩]):=bv2 4 o
  simp only[↓Zd,Zp,simprocAttr,HEx,hV,bV,co63]
  refine smade_spec h2 fun s3 h3 u3=>?_
  obtain⟨f3,k3⟩:=u3.loc (c:=s.next) (by have:=u2.next;omega) f2
  have k33:=(k3.trans k2).trans k1
  rw[← he]at hR
  unfold madeV
  have fin:∀ {B:Blk}(a b:Int) (x:ByteArray),R (.tuple #[vA a b x,.bool (goesB (needS { D with H:=makeH D.H } e))]) (s3.put s.next B):=fun {B} a b x=>by
   obtain⟨g1,g2⟩:=h3.loc (c:=s.next) (B:=B) ((u1.trans u2).trans u3) (Nat.le_refl _) f3
   exact hR _ _ a b x g1 g2
  unfold vA at fin
  cases hg2:goesB (needS { D with H:=makeH D.H } e) with
  |false =>
   rw[hg2]at fin
   simp only[↓Zd,Zp,Zs,simprocAttr,HEx,TAx,vA,k33]
   exact fin _ _ _
  |true =>
   rw[hg2]at fin
   simp only[↓Zd,Zp,Zs,simprocAttr,HEx,TAx,vA,k33]
   exact fin _ _ _
end
def errOf:Value→Int
 |.tuple a=>match (a[1]?:Option Value) with
  |some (.int _ e)=>e
  |_=>0
 |_=>0
section
variable {lo q N p gb:Nat}{D:StD}{O:Nat→Prop}{ov tv:Value}
theorem smade2_spec{e vk vn:Int}{vx:ByteArray}(h:StIn lo s q D N O p gb ov tv)(hR:∀ s' a b x,StIn lo s' q (needS D e) N O p gb ov tv→Upd s s' (ownS q gb ov tv O) (ownS q gb ov tv O)→R (.tuple #[vA a b x,.bool (goesB (needS D e))]) s') :
  QC prog w0 63 #[.pointer (some ⟨q,0,none⟩),vA vk vn vx,.int .i64 e] s R:=by
 refine smade_spec h fun s1 h1 u1=>?_
 unfold madeV
 cases hg:goesB (needS D e) with
 |false =>
  rw[if_neg Bool.false_ne_true]
  have:=hR s1 0 0 ⟨#[]⟩ h1 u1
  rw[hg]at this
  exact this
 |true =>
  rw[if_pos rfl]
  have:=hR s1 vk vn vx h1 u1
  rw[hg]at this
  exact this
theorem sfin_spec{vk vn:Int}{vx:ByteArray}(h:StIn lo s q D N O p gb ov tv)(hR:∀ s',StIn lo s' q (endS D 2 0 (vk,vn,vx)) N O p gb ov tv→Upd s s' (ownS q gb ov tv O) (ownS q gb ov tv O)→R (.tuple #[]) s') :
  QC prog w0 10 #[.pointer (some ⟨q,0,none⟩),vA vk vn vx] s R:=by
 refine wfun2 hmix ok10 func10 rfl ntmps10 results10 (by simp) ?_
 have l1:s.le (s.new (.cells [.int .i64 vk,.int .i64 vn,.string vx] 31 true)):=lN (lR _)
 first
  |(simp only[↓Zd,Zp,Zs,simprocAttr,HEx,vA,co52]
    refine send_spec h fun s1 h1 u1=>?_
    simp only[↓Zd,Zp,Zr,Zs,simprocAttr,HEx,TAx,vA]
    exact hR _ h1 u1)
  |(simp only[↓Zd,Zp,Zs,simprocAttr,HEx,vA,co52]
    refine send_spec (h.le l1) fun s1 h1 u1=>?_
    simp only[↓Zd,Zp,simprocAttr,HEx,vA]
    exact hR _ h1 ((Upd.of_le l1).trans u1))
theorem sun_spec{op k n:Int}{x:ByteArray}(h:StIn lo s q D N O p gb ov tv)(hR:∀ s' a b y,StIn lo s' q (needS D (errOf (unV op k n))) N O p gb ov tv→Upd s s' (ownS q gb ov tv O) (ownS q gb ov tv O)→R (.tuple #[vA a b y,.bool (goesB (needS D (errOf (unV op k n))))]) s') :
  QC prog w0 111 #[.pointer (some ⟨q,0,none⟩),.int .i64 op,vA k n x] s R:=by
 refine wfun2 hmix ok111 func111 rfl ntmps111 results111 (by simp) ?_
 have l1:s.le ((s.new (.cells [.int .i64 k,.int .i64 n,.string x] 31 true)).new (.cells [.int .i64 0,.int .i64 0,.string ⟨#[]⟩] 31 true)):=oL
 have k1:((s.new (.cells [.int .i64 k,.int .i64 n,.string x] 31 true)).new (.cells [.int .i64 0,.int .i64 0,.string ⟨#[]⟩] 31 true)).at' (s.next+1)=some (.cells [.int .i64 0,.int .i64 0,.string ⟨#[]⟩] 31 true):=by rw[aN,if_pos (by simp only[nN])]
 have kn:s.next+1<((s.new (.cells [.int .i64 k,.int .i64 n,.string x] 31 true)).new (.cells [.int .i64 0,.int .i64 0,.string ⟨#[]⟩] 31 true)).next:=by simp only[nN];omega
 obtain⟨a,b,y,e,hV⟩:=unV_tup op k n
 have he:errOf (unV op k n)=e:=by rw[hV];rfl
 rw[he]at hR
 unfold vA at hV
 simp only[↓Zd,Zp,Zs,simprocAttr,HEx,vA,co186]
 generalize ((s.new (.cells [.int .i64 k,.int .i64 n,.string x] 31 true)).new (.cells [.int .i64 0,.int .i64 0,.string ⟨#[]⟩] 31 true))=s1 at l1 k1 kn ⊢
 refine un_spec fun s2 l2=>?_
 have l12:=lT l1 l2
 simp only[↓Zd,Zp,simprocAttr,TAx,vA,hV,co63]
 refine smade2_spec (h.le l12) fun s3 a3 b3 y3 h3 u3=>?_
 have n2:=l2.1
 obtain⟨f3,k3⟩:=u3.loc (c:=s.next+1) oM (h.fresh oM)
 have k33:=(k3.trans (l2.2 (s.next+1) kn)).trans k1
 have fin:∀ {B:Blk},R (.tuple #[vA a3 b3 y3,.bool (goesB (needS D e))]) (s3.put (s.next+1) B):=fun {B}=>by
  obtain⟨g1,g2⟩:=h3.loc (c:=s.next+1) (B:=B) ((Upd.of_le l12).trans u3) oM f3
  exact hR _ a3 b3 y3 g1 g2
 unfold vA at fin ⊢
 simp only[↓Zd,Zp,Zs,simprocAttr,HEx,TAx,k33]
 exact fin
theorem sbin_spec{op k n k' n':Int}{x x':ByteArray}(h:StIn lo s q D N O p gb ov tv)(hn:I64 n)(hR:∀ s' a b y,StIn lo s' q (needS D (errOf (binV op k n x k' n' x' D.l3))) N O p gb ov tv→Upd s s' (ownS q gb ov tv O) (ownS q gb ov tv O)→R (.tuple #[vA a b y,.bool (goesB (needS D (errOf (binV op k n x k' n' x' D.l3))))]) s') :
  QC prog w0 15 #[.pointer (some ⟨q,0,none⟩),.int .i64 op,vA k n x,vA k' n' x'] s R:=by
 refine wfun2 hmix ok15 func15 rfl ntmps15 results15 (by simp) ?_
 have l1:s.le (((s.new (.cells [.int .i64 k,.int .i64 n,.string x] 31 true)).new (.cells [.int .i64 k',.int .i64 n',.string x'] 31 true)).new (.cells [.int .i64 0,.int .i64 0,.string ⟨#[]⟩] 31 true)):=oL
 have kx:(((s.new (.cells [.int .i64 k,.int .i64 n,.string x] 31 true)).new (.cells [.int .i64 k',.int .i64 n',.string x'] 31 true)).new (.cells [.int .i64 0,.int .i64 0,.string ⟨#[]⟩] 31 true)).at' s.next=some (.cells [.int .i64 k,.int .i64 n,.string x] 31 true):=by rw[aN,if_neg (by simp only[nN];omega),aN,if_neg (by simp only[nN];omega),aN,if_pos rfl]
 have ky:(((s.new (.cells [.int .i64 k,.int .i64 n,.string x] 31 true)).new (.cells [.int .i64 k',.int .i64 n',.string x'] 31 true)).new (.cells [.int .i64 0,.int .i64 0,.string ⟨#[]⟩] 31 true)).at' (s.next+1)=some (.cells [.int .i64 k',.int .i64 n',.string x'] 31 true):=by rw[aN,if_neg (by simp only[nN];omega),aN,if_pos (by simp only[nN])]
 have k1:(((s.new (.cells [.int .i64 k,.int .i64 n,.string x] 31 true)).new (.cells [.int .i64 k',.int .i64 n',.string x'] 31 true)).new (.cells [.int .i64 0,.int .i64 0,.string ⟨#[]⟩] 31 true)).at' (s.next+2)=some (.cells [.int .i64 0,.int .i64 0,.string ⟨#[]⟩] 31 true):=by rw[aN,if_pos (by simp only[nN])]
 have kn:s.next+2<(((s.new (.cells [.int .i64 k,.int .i64 n,.string x] 31 true)).new (.cells [.int .i64 k',.int .i64 n',.string x'] 31 true)).new (.cells [.int .i64 0,.int .i64 0,.string ⟨#[]⟩] 31 true)).next:=by simp only[nN];omega
 obtain⟨a,b,y,e,hV⟩:=binV_tup op k n x k' n' x' D.l3
 have he:errOf (binV op k n x k' n' x' D.l3)=e:=by rw[hV];rfl
 rw[he]at hR
 unfold vA at hV
 have hlim:=h.num.lim
 simp only[↓Zd,Zp,Zs,simprocAttr,HEx,vA,co26]
 generalize (((s.new (.cells [.int .i64 k,.int .i64 n,.string x] 31 true)).new (.cells [.int .i64 k',.int .i64 n',.string x'] 31 true)).new (.cells [.int .i64 0,.int .i64 0,.string ⟨#[]⟩] 31 true))=s1 at l1 kx ky k1 kn ⊢
 have h1:=h.le l1
 have hb:=h1.bl
 unfold stC at hb
 refine sover_spec h1 ?_
 cases hg:goesB D with
 |false =>
  rw[goes_need hg]at hR
  rw[hg]at hR
  have fin:∀ {B:Blk},R (.tuple #[vA 0 0 ⟨#[]⟩,.bool false]) (s1.put (s.next+2) B):=fun {B}=>by
   obtain⟨g1,g2⟩:=h1.loc (c:=s.next+2) (B:=B) (Upd.of_le l1) oM (h.fresh oM)
   exact hR _ _ _ _ g1 g2
  unfold vA at fin
  simp only[↓Zd,Zp,Zs,simprocAttr,HEx,vA,k1]
  exact fin
 |true =>
  simp only[↓Zd,Zp,Zs,simprocAttr,HEx,TAx,vA,hb,kx,ky,co66,ord15]
  refine bin_spec0 hn oM fun s2 l2=>?_
  have l12:=lT l1 l2
  simp only[↓Zd,Zp,simprocAttr,TAx,hV,co63]
  refine smade2_spec (h.le l12) fun s3 a3 b3 y3 h3 u3=>?_
  have n2:=l2.1
  obtain⟨f3,k3⟩:=u3.loc (c:=s.next+2) oM (h.fresh oM)
  have k33:=(k3.trans (l2.2 (s.next+2) kn)).trans k1
  have fin:∀ {B:Blk},R (.tuple #[vA a3 b3 y3,.bool (goesB (needS D e))]) (s3.put (s.next+2) B):=fun {B}=>by
   obtain⟨g1,g2⟩:=h3.loc (c:=s.next+2) (B:=B) ((Upd.of_le l12).trans u3) oM f3
   exact hR _ a3 b3 y3 g1 g2
  unfold vA at fin ⊢
  simp only[↓Zd,Zp,Zs,simprocAttr,HEx,TAx,k33]
  exact fin
end
def touchS(D:StD)(o:Int)(H':Hp):StD:=if epochV H' o=epochV D.H o then { D with H:=H' } else { D with H:=H',tch:=D.tch ++ [o] }
def watchS(D:StD)(o:Int)(H':Hp)(e:Int):StD:=needS (touchS D o H') e
def chS(D:StD)(so:Bool)(o:Int)(H':Hp)(e:Int):StD:=if (goesB D && so)=true then watchS D o H' e else isS D so
theorem goes_is{D:StD}{so:Bool}(h:goesB D=false):isS D so=D:=by
 unfold isS
 split
 ·rfl
 ·exact goes_need h
theorem goes_end{D:StD}{k e:Int}{v:Int×Int×ByteArray}(hk:k≠0):goesB (endS D k e v)=false:=by
 unfold goesB endS
 split
 ·simpa using hk
 ·rename_i h0;simpa using h0
theorem goes_is30{D:StD}:goesB (isS D false)=false:=goes_end (by decide)
theorem StN.need{D:StD}{N:Nat}{e:Int}(h:StN D N):StN (needS D e) N:=by
 unfold needS
 split
 ·exact h
 ·split<;>exact h.endS
theorem rowInt1(x:Int):crow prog 88 1 #[(0,.int .i64 x)]=some (.cells [.int .i64 x] 3 true):=oK
section
variable {lo q N p gb:Nat}{D:StD}{O:Nat→Prop}{ov tv:Value}
theorem app_intS{s:St M}{sl:Value}{T:List Int}{x:Int}(hlen:T.length≤1000000)(hsl:SlC 3 1 s sl (T.map (.int .i64)) T.length)(hfr:∀ b,blkOf sl=some b→b<s.next) :
  ∃ s',capp prog #[88,88] #[sl,.slice (some ⟨s.next,0,none⟩) 1 1] (s.new (.cells [.int .i64 x] 3 true))=some (.slice (some ⟨s.next+1,0,none⟩) (T.length+1) UNK,s')∧s'.next=s.next+2 ∧
   s'.at' (s.next+1)=some (.cells ((T ++ [x]).map (.int .i64)) 3 true)∧(∀ b,b<s.next→blkOf sl≠some b→s'.at' b=s.at' b):=by
 obtain⟨ie,hie,h1,h2⟩:=infoInt
 have hcapp:capp prog #[88,88] #[sl,.slice (some ⟨s.next,0,none⟩) 1 1] (s.new (.cells [.int .i64 x] 3 true))=capp3 prog 3 ie sl (s.new (.cells [.int .i64 x] 3 true)) (cmore ie.size (.slice (some ⟨s.next,0,none⟩) 1 1) (s.new (.cells [.int .i64 x] 3 true))):=
  app_eq underlying88 underlying88 hie
 have hv:cmore ie.size (.slice (some ⟨s.next,0,none⟩) 1 1) (s.new (.cells [.int .i64 x] 3 true))=some (1,[.int .i64 x]):=by
  simp only[more_at,aN,if_true,more2,h1];rfl
 obtain⟨s',h3,h4,h5,h6⟩:=app_row (n:=T.length) (k:=1) hie ze3 (by rw[h1];rfl) oM hcapp oM (by rw[h2];omega) rfl hv (by rw[h1];exact slc_to hsl fun b hb=>by rw[aN,if_neg (by have:=hfr b hb;omega)])
 refine⟨s',by simpa using h3,by simp at h4;omega,by simpa using h5,fun b hb hq=>?_⟩
 rw[h6 b (by simp;omega) (fun q m c e e2=>hq (by rw[e,e2];rfl)),aN,if_neg oM]
theorem app_strS{s:St M}{sl:Value}{T:List ByteArray}{x:ByteArray}(hlen:T.length≤1000000)(hsl:SlC 9 1 s sl (T.map .string) T.length)(hfr:∀ b,blkOf sl=some b→b<s.next) :
  ∃ s',capp prog #[39,39] #[sl,.slice (some ⟨s.next,0,none⟩) 1 1] (s.new (.cells [.string x] 9 true))=some (.slice (some ⟨s.next+1,0,none⟩) (T.length+1) UNK,s')∧s'.next=s.next+2 ∧
   s'.at' (s.next+1)=some (.cells ((T ++ [x]).map .string) 9 true)∧(∀ b,b<s.next→blkOf sl≠some b→s'.at' b=s.at' b):=by
 obtain⟨s',h1,h2,h3,h4⟩:=app_str (x:=x) oM hsl (fun q m c e=>hfr q.block (by rw[e];rfl))
 exact⟨s',h1,h2,h3,fun b hb hq=>h4 b hb fun q m c e e2=>hq (by rw[e,e2];rfl)⟩
theorem swatch_spec{f:FuncId}{caps:Array Value}{o e:Int}{H':Hp}(hcf:qK prog f=true)(h:StIn lo s q D N O p gb ov tv)(hN:N+4≤1000000)(ho : -9223372036854775808≤o∧o≤9223372036854775807)
  (hdo:∀ K:Value→St M→Prop,(∀ s' O',HpAt lo s' p H' (N+3) O'→Upd s s' O O'→K (.int .i64 e) s')→QC prog w0 f caps s K)
  (hR:∀ s' O' tv',StIn lo s' q (watchS D o H' e) (N+4) O' p gb ov tv'→Upd s s' (ownS q gb ov tv O) (ownS q gb ov tv' O')→R (.bool (goesB (watchS D o H' e))) s') :
  QC prog w0 73 #[.pointer (some ⟨q,0,none⟩),.int .i64 o,.func (.func f) #[] caps] s R:=by
 refine wfun2 hmix ok73 func73 rfl ntmps73 results73 (by simp) ?_
 have hb:=h.bl
 unfold stC at hb
 obtain⟨_,tg,pf,pn,sl,bs,hin⟩:=h.heap
 simp only[↓Zd,Zp,simprocAttr,cld2,HEx,TAx,hb,co156]
 refine hepoch_spec hin ho ?_
 simp only[↓Zd,Zp,simprocAttr,HEx,hcf]
 refine hdo _ fun s2 O2 hH2 hU2=>?_
 obtain⟨h2,u2⟩:=h.heaped oM hH2 hU2
 have hb2:=h2.bl
 unfold stC at hb2
 obtain⟨_,tg2,pf2,pn2,sl2,bs2,hin2⟩:=hH2
 simp only[↓Zd,Zp,simprocAttr,cld2,HEx,TAx,hb2,co156]
 refine hepoch_spec hin2 ho ?_
 unfold watchS touchS at hR
 by_cases he:epochV H' o=epochV D.H o
 ·rw[if_pos he]at hR
  simp only[↓Zd,Zp,simprocAttr,HEx,he,co80]
  refine sneed_spec h2 fun s3 h3 u3=>?_
  simp only[↓Zd,Zp,simprocAttr,HEx]
  exact hR _ _ _ (h3.mono oM) (u2.trans u3)
 ·rw[if_neg he]at hR
  have hq2:=h2.q0
  obtain⟨s3,happ,hn3,hat3,hk3⟩:=app_intS (x:=o) (by have:=h2.num.tch;omega) h2.st (fun b hb=>(h2.t0 b hb).2.1)
  have hq3:s3.at' q=some (.cells (stC { D with H:=H' } p gb ov tv) 90 true):=(hk3 q hq2.2.1 fun e=>(h2.t0 q e).2.2.2.1 rfl).trans h2.bl
  unfold stC at hq3
  have hqn:¬ q=s2.next:=oM
  simp only[↓Zd,Zp,Zs,simprocAttr,HEx,TAx,hb2,hq3,he,rowInt1,happ]
  have hfin:=h2.tchs (s':=s3.put q (.cells (stC { D with H:=H',tch:=D.tch ++ [o] } p gb ov (.slice (some ⟨s2.next+1,0,none⟩) (D.tch.length+1) UNK)) 90 true)) (x:=o) (b:=s2.next+1) ⟨oM,by simp only[nU];omega⟩ (by rw[aP,if_neg oM];exact hat3) (by rw[aP,if_pos rfl]) (fun c hc1 hc2 hc3=>by rw[aP,if_neg hc2];exact hk3 c hc1 hc3)
  simp only[↓Zd,Zp,simprocAttr,co80]
  refine sneed_spec hfin.1 fun s4 h4 u4=>?_
  simp only[↓Zd,Zp,simprocAttr,HEx]
  exact hR _ _ _ h4 ((u2.trans hfin.2).trans u4)
theorem sprint_spec{vk vn:Int}{vx:ByteArray}(h:StIn lo s q D N O p gb ov tv)(hN:N+4≤1000000)(hn : -9223372036854775808≤vn∧vn≤9223372036854775807)(hR:∀ s' ov',StIn lo s' q (printS D (vk,vn,vx)) (N+1) O p gb ov' tv→Upd s s' (ownS q gb ov tv O) (ownS q gb ov' tv O)→R (.bool (goesB D)) s') :
  QC prog w0 22 #[.pointer (some ⟨q,0,none⟩),vA vk vn vx] s R:=by
 refine wfun2 hmix ok22 func22 rfl ntmps22 results22 (by simp) ?_
 have l1:s.le (s.new (.cells [.int .i64 vk,.int .i64 vn,.string vx] 31 true)):=lN (lR _)
 have h1:=h.le l1
 have k1:(s.new (.cells [.int .i64 vk,.int .i64 vn,.string vx] 31 true)).at' s.next=some (.cells [.int .i64 vk,.int .i64 vn,.string vx] 31 true):=by rw[aN,if_pos rfl]
 have kn:s.next<(s.new (.cells [.int .i64 vk,.int .i64 vn,.string vx] 31 true)).next:=by simp only[nN];omega
 simp only[↓Zd,Zp,Zs,simprocAttr,HEx,vA,co26]
 generalize s.new (.cells [.int .i64 vk,.int .i64 vn,.string vx] 31 true)=s1 at l1 h1 k1 kn ⊢
 have hb:=h1.bl
 unfold stC at hb
 refine sover_spec h1 ?_
 unfold printS at hR
 cases hg:goesB D with
 |false =>
  rw[hg]at hR
  simp only[Bool.false_eq_true,if_false]at hR
  simp only[↓Zd,Zp,simprocAttr,HEx,vA]
  exact hR _ _ (h1.mono oM) (.of_le l1)
 |true =>
  rw[hg]at hR
  simp only[if_true]at hR
  simp only[↓Zd,Zp,Zs,simprocAttr,HEx,TAx,vA,hb,k1,co61,ord22]
  refine show_spec hn fun s2 l2=>?_
  have h2:=h1.le l2
  have hb2:=h2.bl
  unfold stC at hb2
  have k2:=(l2.2 s.next kn).trans k1
  have hq2:=h2.q0
  obtain⟨s3,happ,hn3,hat3,hk3⟩:=app_strS (x:=showV vk vn vx) (by have:=h2.num.out;omega) h2.so (fun b hb=>(h2.o0 b hb).2.1)
  have hq3:s3.at' q=some (.cells (stC D p gb ov tv) 90 true):=(hk3 q hq2.2.1 fun e=>(h2.o0 q e).2.2.2.1 rfl).trans h2.bl
  unfold stC at hq3
  have hqn:¬ q=s2.next:=oM
  simp only[↓Zd,Zp,Zs,simprocAttr,TAx,hb2,hq3,rowStr,happ]
  have hfin:=h2.outs (s':=s3.put q (.cells (stC { D with out:=D.out ++ [showV vk vn vx] } p gb (.slice (some ⟨s2.next+1,0,none⟩) (D.out.length+1) UNK) tv) 90 true)) (x:=showV vk vn vx) (b:=s2.next+1) ⟨oM,by simp only[nU];omega⟩ (by rw[aP,if_neg oM];exact hat3) (by rw[aP,if_pos rfl]) (fun c hc1 hc2 hc3=>by rw[aP,if_neg hc2];exact hk3 c hc1 hc3)
  exact hR _ _ hfin.1 ((Upd.of_le (lT l1 l2)).trans hfin.2)
end
section
variable {lo q N p gb:Nat}{D:StD}{O:Nat→Prop}{ov tv:Value}
theorem ydead_spec(hR:R (.bool true) s):QC prog w0 136 #[.pointer none] s R:=by
 refine wfun2 hmix ok136 func136 rfl ntmps136 results136 (by simp) ?_
 simp only[↓Zd,Zp,simprocAttr,TAx]
 exact hR
theorem yget_spec{H:Hp}{f k o:Int}{x:ByteArray}(hP:HpAt lo s p H N O)(ho : -9223372036854775808≤o∧o≤9223372036854775807)(hR:∀ s' a b y,s.le s'→R (vA a b y) s') :
  QC prog w0 65 #[.pointer none,.pointer (some ⟨p,0,none⟩),.int .i64 f,.int .i64 k,.int .i64 o,.string x] s R:=by
 refine wfun2 hmix ok65 func65 rfl ntmps65 results65 (by simp) ?_
 obtain⟨_,tg,pf,pn,sl0,bs,hin⟩:=hP
 have l1:s.le (s.new (.cells [.int .i64 0,.int .i64 0,.string ⟨#[]⟩] 31 true)):=lN (lR _)
 simp only[↓Zd,Zp,Zs,simprocAttr,HEx,co136]
 refine ydead_spec ?_
 simp only[↓Zd,Zp,simprocAttr,HEx,co109]
 refine hget_spec (hin.le l1) ho fun s2 v l2 hv=>?_
 have n2:=l2.1
 simp only[nN]at n2
 have c2:s2.at' s.next=some (.cells [.int .i64 0,.int .i64 0,.string ⟨#[]⟩] 31 true):=by rw[l2.2 _ (by simp only[nN];omega),aN,if_pos rfl]
 unfold vOf
 unfold vA at hR ⊢
 simp only[↓Zd,Zp,Zs,simprocAttr,HEx,c2]
 exact hR _ _ _ _ (lP (lT l1 l2) oM)
theorem yset_spec{H:Hp}{f k o:Int}{x vy:ByteArray}{vk vn:Int}(hP:HpAt lo s p H N O)(hlo:lo≤s.next)(hN:N+3≤1000000)(h32:32≤N)(ho : -9223372036854775808≤o∧o≤9223372036854775807)
  (hR:∀ s' P',HpAt lo s' p (setH H o x (vk,vn,vy)) (N+3) P'→Upd s s' O P'→R (.int .i64 (setE H o x)) s') :
  QC prog w0 75 #[.pointer none,.pointer (some ⟨p,0,none⟩),.int .i64 f,.int .i64 k,.int .i64 o,.string x,vA vk vn vy] s R:=by
 refine wfun2 hmix ok75 func75 rfl ntmps75 results75 (by simp) ?_
 have l1:s.le (s.new (.cells [.int .i64 vk,.int .i64 vn,.string vy] 31 true)):=lN (lR _)
 simp only[↓Zd,Zp,Zs,simprocAttr,HEx,vA,co136]
 refine ydead_spec ?_
 simp only[↓Zd,Zp,Zs,simprocAttr,HEx,vA,co78]
 refine hset_spec (k:=vk) (n:=vn) (y:=vy) (hP.le l1) (by simp only[nN];omega) hN h32 ho fun s2 P2 hP2 hU2=>?_
 simp only[↓Zd,Zp,simprocAttr,HEx,vA]
 exact hR s2 P2 hP2 ((Upd.of_le l1).trans hU2)
theorem sset1_spec{b0 b1 b2 b3 b4 b5:Nat}{f st k n vk vn:Int}{y x vx:ByteArray}(h:StIn lo s q D N O p gb ov tv)(hlo:lo≤s.next)(hN:N+3≤1000000)(hn : -9223372036854775808≤n∧n≤9223372036854775807)
  (c0:s.at' b0=some (.cells [.pointer (some ⟨q,0,none⟩)] 25 true))(c1:s.at' b1=some (.cells [.int .i64 f] 3 true))(c2:s.at' b2=some (.cells [.int .i64 st] 3 true))(c3:s.at' b3=some (.cells [.int .i64 k,.int .i64 n,.string y] 31 true))(c4:s.at' b4=some (.cells [.string x] 9 true))(c5:s.at' b5=some (.cells [.int .i64 vk,.int .i64 vn,.string vx] 31 true))
  (hR:∀ s' O',HpAt lo s' p (setH D.H n x (vk,vn,vx)) (N+3) O'→Upd s s' O O'→R (.int .i64 (setE D.H n x)) s') :
  QC prog w0 74 #[.pointer (some ⟨b0,0,none⟩),.pointer (some ⟨b1,0,none⟩),.pointer (some ⟨b2,0,none⟩),.pointer (some ⟨b3,0,none⟩),.pointer (some ⟨b4,0,none⟩),.pointer (some ⟨b5,0,none⟩)] s R:=by
 refine wfun2 hmix ok74 func74 rfl ntmps74 results74 (by simp) ?_
 have hb:=h.bl
 unfold stC at hb
 simp only[↓Zd,Zp,Zs,simprocAttr,HEx,TAx,hb,c0,c1,c2,c3,c4,c5,co75,ord74]
 refine yset_spec h.heap hlo hN h.num.n hn fun s2 O2 h2 u2=>?_
 simp only[↓Zd,Zp,simprocAttr,HEx]
 exact hR _ _ h2 u2
theorem ssetix1_spec{b0 b1 b2 b3:Nat}{k n kk kn vk vn:Int}{y x vx:ByteArray}(h:StIn lo s q D N O p gb ov tv)(hlo:lo≤s.next)(hN:N+3≤1000000)(hn : -9223372036854775808≤n∧n≤9223372036854775807)
  (c0:s.at' b0=some (.cells [.pointer (some ⟨q,0,none⟩)] 25 true))(c1:s.at' b1=some (.cells [.int .i64 k,.int .i64 n,.string y] 31 true))(c2:s.at' b2=some (.cells [.int .i64 kk,.int .i64 kn,.string x] 31 true))(c3:s.at' b3=some (.cells [.int .i64 vk,.int .i64 vn,.string vx] 31 true))
  (hR:∀ s' O',HpAt lo s' p (setH D.H n x (vk,vn,vx)) (N+3) O'→Upd s s' O O'→R (.int .i64 (setE D.H n x)) s') :
  QC prog w0 77 #[.pointer (some ⟨b0,0,none⟩),.pointer (some ⟨b1,0,none⟩),.pointer (some ⟨b2,0,none⟩),.pointer (some ⟨b3,0,none⟩)] s R:=by
 refine wfun2 hmix ok77 func77 rfl ntmps77 results77 (by simp) ?_
 have hb:=h.bl
 unfold stC at hb
 simp only[↓Zd,Zp,Zs,simprocAttr,HEx,TAx,hb,c0,c1,c2,c3,co78,ord77]
 refine hset_spec h.heap hlo hN h.num.n hn fun s2 O2 h2 u2=>?_
 simp only[↓Zd,Zp,simprocAttr,HEx]
 exact hR _ _ h2 u2
theorem srem1_spec{b0 b1 b2:Nat}{n:Int}{x:ByteArray}(h:StIn lo s q D N O p gb ov tv)(hlo:lo≤s.next)(hN:N+3≤1000000)(hn : -9223372036854775808≤n∧n≤9223372036854775807)
  (c0:s.at' b0=some (.cells [.pointer (some ⟨q,0,none⟩)] 25 true))(c1:s.at' b1=some (.cells [.int .i64 n] 3 true))(c2:s.at' b2=some (.cells [.string x] 9 true))
  (hR:∀ s' O',HpAt lo s' p (delH D.H n x) (N+3) O'→Upd s s' O O'→R (.int .i64 0) s') :
  QC prog w0 167 #[.pointer (some ⟨b0,0,none⟩),.pointer (some ⟨b1,0,none⟩),.pointer (some ⟨b2,0,none⟩)] s R:=by
 refine wfun2 hmix ok167 func167 rfl ntmps167 results167 (by simp) ?_
 have hb:=h.bl
 unfold stC at hb
 simp only[↓Zd,Zp,simprocAttr,cld2,HEx,TAx,hb,c0,c1,c2,co168,ord167]
 refine hdel_spec h.heap hlo hN h.num.n hn fun s2 O2 h2 u2=>?_
 simp only[↓Zd,Zp,simprocAttr,HEx]
 exact hR _ _ h2 u2
theorem srem_spec{n:Int}{x:ByteArray}(h:StIn lo s q D N O p gb ov tv)(hlo:lo≤s.next)(hN:N+4≤1000000)(hn : -9223372036854775808≤n∧n≤9223372036854775807)
  (hR:∀ s' O' tv',StIn lo s' q (watchS D n (delH D.H n x) 0) (N+4) O' p gb ov tv'→Upd s s' (ownS q gb ov tv O) (ownS q gb ov tv' O')→R (.bool (goesB (watchS D n (delH D.H n x) 0))) s') :
  QC prog w0 79 #[.pointer (some ⟨q,0,none⟩),.int .i64 n,.string x] s R:=by
 refine wfun2 hmix ok79 func79 rfl ntmps79 results79 (by simp) ?_
 have l1:s.le (((s.new (.cells [.pointer (some ⟨q,0,none⟩)] 25 true)).new (.cells [.int .i64 n] 3 true)).new (.cells [.string x] 9 true)):=oL
 have c0:(((s.new (.cells [.pointer (some ⟨q,0,none⟩)] 25 true)).new (.cells [.int .i64 n] 3 true)).new (.cells [.string x] 9 true)).at' s.next=some (.cells [.pointer (some ⟨q,0,none⟩)] 25 true):=by rw[aN,if_neg (by simp only[nN];omega),aN,if_neg (by simp only[nN];omega),aN,if_pos rfl]
 have c1:(((s.new (.cells [.pointer (some ⟨q,0,none⟩)] 25 true)).new (.cells [.int .i64 n] 3 true)).new (.cells [.string x] 9 true)).at' (s.next+1)=some (.cells [.int .i64 n] 3 true):=by rw[aN,if_neg (by simp only[nN];omega),aN,if_pos (by simp only[nN])]
 have c2:(((s.new (.cells [.pointer (some ⟨q,0,none⟩)] 25 true)).new (.cells [.int .i64 n] 3 true)).new (.cells [.string x] 9 true)).at' (s.next+2)=some (.cells [.string x] 9 true):=by rw[aN,if_pos (by simp only[nN])]
 have h1:=h.le l1
 have n1:=l1.1
 simp only[↓Zd,Zp,Zs,simprocAttr,HEx,TAx,co73]
 generalize (((s.new (.cells [.pointer (some ⟨q,0,none⟩)] 25 true)).new (.cells [.int .i64 n] 3 true)).new (.cells [.string x] 9 true))=s1 at l1 c0 c1 c2 h1 n1 ⊢
 refine swatch_spec (H':=delH D.H n x) (e:=0) co167 h1 hN hn (fun K hK=>srem1_spec h1 oM oM hn c0 c1 c2 hK) fun s2 O2 tv2 h2 u2=>?_
 simp only[↓Zd,Zp,simprocAttr,HEx]
 exact hR _ _ _ h2 ((Upd.of_le l1).trans u2)
theorem sdel_spec{k n:Int}{y x:ByteArray}(h:StIn lo s q D N O p gb ov tv)(hlo:lo≤s.next)(hN:N+4≤1000000)(hn : -9223372036854775808≤n∧n≤9223372036854775807)
  (hR:∀ s' O' tv',StIn lo s' q (chS D (decide (k=4)) n (delH D.H n x) 0) (N+4) O' p gb ov tv'→Upd s s' (ownS q gb ov tv O) (ownS q gb ov tv' O')→R (.bool (goesB (chS D (decide (k=4)) n (delH D.H n x) 0))) s') :
  QC prog w0 21 #[.pointer (some ⟨q,0,none⟩),vA k n y,.string x] s R:=by
 refine wfun2 hmix ok21 func21 rfl ntmps21 results21 (by simp) ?_
 have l1:s.le (s.new (.cells [.int .i64 k,.int .i64 n,.string y] 31 true)):=lN (lR _)
 have h1:=h.le l1
 have c0:(s.new (.cells [.int .i64 k,.int .i64 n,.string y] 31 true)).at' s.next=some (.cells [.int .i64 k,.int .i64 n,.string y] 31 true):=by rw[aN,if_pos rfl]
 have kn:s.next<(s.new (.cells [.int .i64 k,.int .i64 n,.string y] 31 true)).next:=by simp only[nN];omega
 simp only[↓Zd,Zp,Zs,simprocAttr,HEx,vA,co26]
 generalize s.new (.cells [.int .i64 k,.int .i64 n,.string y] 31 true)=s1 at l1 h1 c0 kn ⊢
 refine sover_spec h1 ?_
 unfold chS at hR
 cases hg:goesB D with
 |false =>
  simp only[hg,Bool.false_and,Bool.false_eq_true,if_false,goes_is hg]at hR
  simp only[↓Zd,Zp,simprocAttr,HEx,vA]
  exact hR _ _ _ (h1.mono oM) (.of_le l1)
 |true =>
  by_cases hk:k=4
  ·simp only[hg,hk,decide_true,Bool.and_self,if_true]at hR
   simp only[↓Zd,Zp,simprocAttr,cld2,HEx,vA,c0,hk,co64]
   refine sis_spec h1 fun s2 h2 u2=>?_
   obtain⟨f2,c2⟩:=u2.loc kn (h.fresh (Nat.le_refl _))
   have e1:isS D true=D:=rfl
   rw[e1]at h2
   rw[e1,hg]
   simp only[↓Zd,Zp,simprocAttr,cld2,HEx,vA,c0,c2,hk,co79]
   refine srem_spec h2 (by have:=u2.next;have:=l1.1;omega) hN hn fun s3 O3 tv3 h3 u3=>?_
   simp only[↓Zd,Zp,simprocAttr,HEx,vA]
   exact hR _ _ _ h3 (((Upd.of_le l1).trans u2).trans u3)
  ·simp only[hg,hk,decide_false,Bool.and_false,Bool.false_eq_true,if_false]at hR
   simp only[↓Zd,Zp,simprocAttr,cld2,HEx,vA,c0,hk,co64]
   refine sis_spec h1 fun s2 h2 u2=>?_
   rw[goes_is30]at hR ⊢
   simp only[↓Zd,Zp,simprocAttr,HEx,vA]
   exact hR _ _ _ (h2.mono oM) ((Upd.of_le l1).trans u2)
end
section
variable {lo q N p gb:Nat}{D:StD}{O:Nat→Prop}{ov tv:Value}
theorem stget_spec{f st k n:Int}{y x:ByteArray}(h:StIn lo s q D N O p gb ov tv)(hn : -9223372036854775808≤n∧n≤9223372036854775807)
  (hR:∀ s' a b z,StIn lo s' q (isS D (decide (k=4))) N O p gb ov tv→Upd s s' (ownS q gb ov tv O) (ownS q gb ov tv O)→R (.tuple #[vA a b z,.bool (goesB (isS D (decide (k=4))))]) s') :
  QC prog w0 14 #[.pointer (some ⟨q,0,none⟩),.int .i64 f,.int .i64 st,vA k n y,.string x] s R:=by
 refine wfun2 hmix ok14 func14 rfl ntmps14 results14 (by simp) ?_
 have l1:s.le ((s.new (.cells [.int .i64 k,.int .i64 n,.string y] 31 true)).new (.cells [.int .i64 0,.int .i64 0,.string ⟨#[]⟩] 31 true)):=oL
 have h1:=h.le l1
 have c0:((s.new (.cells [.int .i64 k,.int .i64 n,.string y] 31 true)).new (.cells [.int .i64 0,.int .i64 0,.string ⟨#[]⟩] 31 true)).at' s.next=some (.cells [.int .i64 k,.int .i64 n,.string y] 31 true):=by rw[aN,if_neg (by simp only[nN];omega),aN,if_pos rfl]
 have c1:((s.new (.cells [.int .i64 k,.int .i64 n,.string y] 31 true)).new (.cells [.int .i64 0,.int .i64 0,.string ⟨#[]⟩] 31 true)).at' (s.next+1)=some (.cells [.int .i64 0,.int .i64 0,.string ⟨#[]⟩] 31 true):=by rw[aN,if_pos (by simp only[nN])]
 have kn:s.next+1<((s.new (.cells [.int .i64 k,.int .i64 n,.string y] 31 true)).new (.cells [.int .i64 0,.int .i64 0,.string ⟨#[]⟩] 31 true)).next:=by simp only[nN];omega
 simp only[↓Zd,Zp,Zs,simprocAttr,HEx,vA,co26]
 generalize ((s.new (.cells [.int .i64 k,.int .i64 n,.string y] 31 true)).new (.cells [.int .i64 0,.int .i64 0,.string ⟨#[]⟩] 31 true))=s1 at l1 h1 c0 c1 kn ⊢
 refine sover_spec h1 ?_
 cases hg:goesB D with
 |false =>
  simp only[goes_is hg,hg]at hR
  have fin:∀ {B:Blk},R (.tuple #[vA 0 0 ⟨#[]⟩,.bool false]) (s1.put (s.next+1) B):=fun {B}=>by
   obtain⟨g1,g2⟩:=h1.loc (c:=s.next+1) (B:=B) (.of_le l1) oM (h.fresh oM)
   exact hR _ _ _ _ g1 g2
  unfold vA at fin
  simp only[↓Zd,Zp,Zs,simprocAttr,HEx,vA,c1]
  exact fin
 |true =>
  by_cases hk:k=4
  ·have e1:isS D (decide (k=4))=D:=by rw[hk];rfl
   rw[e1,hg]at hR
   simp only[↓Zd,Zp,simprocAttr,cld2,HEx,vA,c0,hk,co64]
   refine sis_spec h1 fun s2 h2 u2=>?_
   obtain⟨f2,k2⟩:=u2.loc (c:=s.next) oM (h.fresh (Nat.le_refl _))
   obtain⟨f3,k3⟩:=u2.loc (c:=s.next+1) kn (h.fresh oM)
   have c02:=k2.trans c0
   have c12:=k3.trans c1
   have e2:isS D true=D:=rfl
   rw[e2]at h2
   rw[e2,hg]
   have hb:=h2.bl
   unfold stC at hb
   simp only[↓Zd,Zp,simprocAttr,cld2,HEx,TAx,vA,c02,hk,hb,co65,ord14]
   refine yget_spec h2.heap hn fun s3 a b z l3=>?_
   have n2:=u2.next
   have c13:=(l3.2 (s.next+1) oM).trans c12
   have fin:∀ {B:Blk},R (.tuple #[vA a b z,.bool true]) (s3.put (s.next+1) B):=fun {B}=>by
    obtain⟨g1,g2⟩:=(h2.le l3).loc (c:=s.next+1) (B:=B) (((Upd.of_le l1).trans u2).trans (.of_le l3)) oM f3
    exact hR _ a b z g1 g2
   unfold vA at fin ⊢
   simp only[↓Zd,Zp,Zs,simprocAttr,HEx,c13]
   exact fin
  ·have e1:isS D (decide (k=4))=isS D false:=by rw[decide_eq_false hk]
   rw[e1,goes_is30]at hR
   simp only[↓Zd,Zp,simprocAttr,cld2,HEx,vA,c0,hk,co64]
   refine sis_spec h1 fun s2 h2 u2=>?_
   obtain⟨f3,k3⟩:=u2.loc (c:=s.next+1) kn (h.fresh oM)
   have c12:=k3.trans c1
   have fin:∀ {B:Blk},R (.tuple #[vA 0 0 ⟨#[]⟩,.bool false]) (s2.put (s.next+1) B):=fun {B}=>by
    obtain⟨g1,g2⟩:=h2.loc (c:=s.next+1) (B:=B) ((Upd.of_le l1).trans u2) oM f3
    exact hR _ _ _ _ g1 g2
   unfold vA at fin
   rw[goes_is30]
   simp only[↓Zd,Zp,Zs,simprocAttr,HEx,vA,c12]
   exact fin
theorem stset_spec{f st k n vk vn:Int}{y x vx:ByteArray}(h:StIn lo s q D N O p gb ov tv)(hlo:lo≤s.next)(hN:N+4≤1000000)(hn : -9223372036854775808≤n∧n≤9223372036854775807)
  (hR:∀ s' O' tv',StIn lo s' q (chS D (decide (k=4)) n (setH D.H n x (vk,vn,vx)) (setE D.H n x)) (N+4) O' p gb ov tv'→Upd s s' (ownS q gb ov tv O) (ownS q gb ov tv' O')→R (.bool (goesB (chS D (decide (k=4)) n (setH D.H n x (vk,vn,vx)) (setE D.H n x)))) s') :
  QC prog w0 19 #[.pointer (some ⟨q,0,none⟩),.int .i64 f,.int .i64 st,vA k n y,.string x,vA vk vn vx] s R:=by
 refine wfun2 hmix ok19 func19 rfl ntmps19 results19 (by simp) ?_
 have l1:s.le ((((((s.new (.cells [.pointer (some ⟨q,0,none⟩)] 25 true)).new (.cells [.int .i64 f] 3 true)).new (.cells [.int .i64 st] 3 true)).new (.cells [.int .i64 k,.int .i64 n,.string y] 31 true)).new (.cells [.string x] 9 true)).new (.cells [.int .i64 vk,.int .i64 vn,.string vx] 31 true)):=oL
 have hc:∃ s1,s1=((((((s.new (.cells [.pointer (some ⟨q,0,none⟩)] 25 true)).new (.cells [.int .i64 f] 3 true)).new (.cells [.int .i64 st] 3 true)).new (.cells [.int .i64 k,.int .i64 n,.string y] 31 true)).new (.cells [.string x] 9 true)).new (.cells [.int .i64 vk,.int .i64 vn,.string vx] 31 true)):=⟨_,rfl⟩
 obtain⟨s1,hs1⟩:=hc
 have c0:s1.at' s.next=some (.cells [.pointer (some ⟨q,0,none⟩)] 25 true):=by rw[hs1];simp only[aN,nN];(repeat rw[if_neg oM]);rw[if_pos trivial]
 have c1:s1.at' (s.next+1)=some (.cells [.int .i64 f] 3 true):=by rw[hs1];simp only[aN,nN];(repeat rw[if_neg oM]);rw[if_pos trivial]
 have c2:s1.at' (s.next+1+1)=some (.cells [.int .i64 st] 3 true):=by rw[hs1];simp only[aN,nN];(repeat rw[if_neg oM]);rw[if_pos trivial]
 have c3:s1.at' (s.next+1+1+1)=some (.cells [.int .i64 k,.int .i64 n,.string y] 31 true):=by rw[hs1];simp only[aN,nN];(repeat rw[if_neg oM]);rw[if_pos trivial]
 have c4:s1.at' (s.next+1+1+1+1)=some (.cells [.string x] 9 true):=by rw[hs1];simp only[aN,nN];(repeat rw[if_neg oM]);rw[if_pos trivial]
 have c5:s1.at' (s.next+1+1+1+1+1)=some (.cells [.int .i64 vk,.int .i64 vn,.string vx] 31 true):=by rw[hs1];simp only[aN,nN];rw[if_pos trivial]
 have kn:s.next+1+1+1+1+1<s1.next:=by rw[hs1];simp only[nN];omega
 rw[← hs1]at l1
 have h1:=h.le l1
 simp only[↓Zd,Zp,Zs,simprocAttr,HEx,TAx,vA,co26]
 simp only[Nat.add_assoc,Nat.reduceAdd]at c0 c1 c2 c3 c4 c5 kn
 rw[← hs1]
 clear hs1
 refine sover_spec h1 ?_
 unfold chS at hR
 cases hg:goesB D with
 |false =>
  simp only[hg,Bool.false_and,Bool.false_eq_true,if_false,goes_is hg]at hR
  simp only[↓Zd,Zp,simprocAttr,HEx,vA]
  exact hR _ _ _ (h1.mono oM) (.of_le l1)
 |true =>
  by_cases hk:k=4
  ·simp only[hg,hk,decide_true,Bool.and_self,if_true]at hR
   simp only[↓Zd,Zp,simprocAttr,cld2,HEx,TAx,vA,c0,c3,hk,co64]
   refine sis_spec h1 fun s2 h2 u2=>?_
   obtain⟨f0,k0⟩:=u2.loc (c:=s.next) oM (h.fresh (Nat.le_refl _))
   have k1:=(u2.loc (c:=s.next+1) oM (h.fresh oM)).2
   have k2:=(u2.loc (c:=s.next+2) oM (h.fresh oM)).2
   have k3:=(u2.loc (c:=s.next+3) oM (h.fresh oM)).2
   have k4:=(u2.loc (c:=s.next+4) oM (h.fresh oM)).2
   have k5:=(u2.loc (c:=s.next+5) oM (h.fresh oM)).2
   have d0:=k0.trans c0
   have d3:=k3.trans c3
   have e1:isS D true=D:=rfl
   rw[e1]at h2
   rw[e1,hg]
   have hn2:=u2.next
   have hn1:=l1.1
   simp only[↓Zd,Zp,simprocAttr,cld2,HEx,TAx,vA,d0,d3,hk,co73]
   refine swatch_spec (H':=setH D.H n x (vk,vn,vx)) (e:=setE D.H n x) co74 h2 hN hn (fun K hK=>sset1_spec h2 oM oM hn d0 (k1.trans c1) (k2.trans c2) d3 (k4.trans c4) (k5.trans c5) hK) fun s3 O3 tv3 h3 u3=>?_
   simp only[↓Zd,Zp,simprocAttr,HEx,vA]
   exact hR _ _ _ h3 (((Upd.of_le l1).trans u2).trans u3)
  ·simp only[hg,hk,decide_false,Bool.and_false,Bool.false_eq_true,if_false]at hR
   simp only[↓Zd,Zp,simprocAttr,cld2,HEx,TAx,vA,c0,c3,hk,co64]
   refine sis_spec h1 fun s2 h2 u2=>?_
   rw[goes_is30]at hR ⊢
   simp only[↓Zd,Zp,simprocAttr,HEx,vA]
   exact hR _ _ _ (h2.mono oM) ((Upd.of_le l1).trans u2)
theorem skeyed_spec{k n kk kn:Int}{y x:ByteArray}(h:StIn lo s q D N O p gb ov tv)
  (hR:∀ s',StIn lo s' q (isS D (decide (k=4) && decide (kk=3))) N O p gb ov tv→Upd s s' (ownS q gb ov tv O) (ownS q gb ov tv O)→R (.bool (goesB (isS D (decide (k=4) && decide (kk=3))))) s') :
  QC prog w0 76 #[.pointer (some ⟨q,0,none⟩),vA k n y,vA kk kn x] s R:=by
 refine wfun2 hmix ok76 func76 rfl ntmps76 results76 (by simp) ?_
 have l1:s.le ((s.new (.cells [.int .i64 k,.int .i64 n,.string y] 31 true)).new (.cells [.int .i64 kk,.int .i64 kn,.string x] 31 true)):=oL
 have h1:=h.le l1
 have c0:((s.new (.cells [.int .i64 k,.int .i64 n,.string y] 31 true)).new (.cells [.int .i64 kk,.int .i64 kn,.string x] 31 true)).at' s.next=some (.cells [.int .i64 k,.int .i64 n,.string y] 31 true):=by rw[aN,if_neg (by simp only[nN];omega),aN,if_pos rfl]
 have c1:((s.new (.cells [.int .i64 k,.int .i64 n,.string y] 31 true)).new (.cells [.int .i64 kk,.int .i64 kn,.string x] 31 true)).at' (s.next+1)=some (.cells [.int .i64 kk,.int .i64 kn,.string x] 31 true):=by rw[aN,if_pos (by simp only[nN])]
 have hkn:s.next+1<((s.new (.cells [.int .i64 k,.int .i64 n,.string y] 31 true)).new (.cells [.int .i64 kk,.int .i64 kn,.string x] 31 true)).next:=by simp only[nN];omega
 simp only[↓Zd,Zp,Zs,simprocAttr,HEx,vA,co26]
 generalize ((s.new (.cells [.int .i64 k,.int .i64 n,.string y] 31 true)).new (.cells [.int .i64 kk,.int .i64 kn,.string x] 31 true))=s1 at l1 h1 c0 c1 hkn ⊢
 refine sover_spec h1 ?_
 cases hg:goesB D with
 |false =>
  simp only[goes_is hg,hg]at hR
  simp only[↓Zd,Zp,simprocAttr,HEx,vA]
  exact hR _ h1 (.of_le l1)
 |true =>
  by_cases hk:k=4
  ·simp only[hk,decide_true,Bool.true_and]at hR
   simp only[↓Zd,Zp,Zs,simprocAttr,HEx,vA,c0,c1,hk,co151]
   refine isKey_spec ?_
   have l2:s1.le (s1.new (vB kk kn x)):=lN (lR _)
   have h2:=h1.le l2
   have c02:=(l2.2 s.next oM).trans c0
   simp only[↓Zd,Zp,simprocAttr,HEx,vA,hk,co64]
   refine sis_spec h2 fun s3 h3 u3=>?_
   simp only[↓Zd,Zp,simprocAttr,HEx,vA]
   exact hR _ h3 (((Upd.of_le l1).trans (.of_le l2)).trans u3)
  ·simp only[hk,decide_false,Bool.false_and]at hR
   simp only[↓Zd,Zp,simprocAttr,cld2,HEx,vA,c0,hk,co64]
   refine sis_spec h1 fun s3 h3 u3=>?_
   simp only[↓Zd,Zp,simprocAttr,HEx,vA]
   exact hR _ h3 ((Upd.of_le l1).trans u3)
end
section
variable {lo q N p gb:Nat}{D:StD}{O:Nat→Prop}{ov tv:Value}
theorem goes_isb(D:StD)(so:Bool):goesB (isS D so)=(goesB D && so):=by
 cases so with
 |true=>show goesB D=_;rw[Bool.and_true]
 |false=>rw[Bool.and_false];exact goes_is30
theorem is_goes{D:StD}{so:Bool}(h:goesB (isS D so)=true):isS D so=D∧goesB D=true∧so=true:=by
 rw[goes_isb]at h
 simp only[Bool.and_eq_true]at h
 obtain⟨h1,rfl⟩:=h
 exact⟨rfl,h1,rfl⟩
theorem chS_no{D:StD}{so:Bool}{o e:Int}{H':Hp}(h:goesB (isS D so)=false):chS D so o H' e=isS D so:=by
 rw[goes_isb]at h
 unfold chS
 rw[h,if_neg Bool.false_ne_true]
theorem chS_yes{D:StD}{so:Bool}{o e:Int}{H':Hp}(h:goesB (isS D so)=true):chS D so o H' e=watchS D o H' e:=by
 rw[goes_isb]at h
 unfold chS
 rw[h,if_pos rfl]
theorem sgetix_spec{k n kk kn:Int}{y x:ByteArray}(h:StIn lo s q D N O p gb ov tv)(hn : -9223372036854775808≤n∧n≤9223372036854775807)
  (hR:∀ s' a b z,StIn lo s' q (isS D (decide (k=4) && decide (kk=3))) N O p gb ov tv→Upd s s' (ownS q gb ov tv O) (ownS q gb ov tv O)→R (.tuple #[vA a b z,.bool (goesB (isS D (decide (k=4) && decide (kk=3))))]) s') :
  QC prog w0 45 #[.pointer (some ⟨q,0,none⟩),vA k n y,vA kk kn x] s R:=by
 refine wfun2 hmix ok45 func45 rfl ntmps45 results45 (by simp) ?_
 have l1:s.le (((s.new (.cells [.int .i64 k,.int .i64 n,.string y] 31 true)).new (.cells [.int .i64 kk,.int .i64 kn,.string x] 31 true)).new (.cells [.int .i64 0,.int .i64 0,.string ⟨#[]⟩] 31 true)):=oL
 have c0:(((s.new (.cells [.int .i64 k,.int .i64 n,.string y] 31 true)).new (.cells [.int .i64 kk,.int .i64 kn,.string x] 31 true)).new (.cells [.int .i64 0,.int .i64 0,.string ⟨#[]⟩] 31 true)).at' s.next=some (.cells [.int .i64 k,.int .i64 n,.string y] 31 true):=by simp only[aN,nN];(repeat rw[if_neg oM]);rw[if_pos trivial]
 have c1:(((s.new (.cells [.int .i64 k,.int .i64 n,.string y] 31 true)).new (.cells [.int .i64 kk,.int .i64 kn,.string x] 31 true)).new (.cells [.int .i64 0,.int .i64 0,.string ⟨#[]⟩] 31 true)).at' (s.next+1)=some (.cells [.int .i64 kk,.int .i64 kn,.string x] 31 true):=by simp only[aN,nN];(repeat rw[if_neg oM]);rw[if_pos trivial]
 have c2:(((s.new (.cells [.int .i64 k,.int .i64 n,.string y] 31 true)).new (.cells [.int .i64 kk,.int .i64 kn,.string x] 31 true)).new (.cells [.int .i64 0,.int .i64 0,.string ⟨#[]⟩] 31 true)).at' (s.next+2)=some (.cells [.int .i64 0,.int .i64 0,.string ⟨#[]⟩] 31 true):=by rw[aN,if_pos (by simp only[nN])]
 have hkn:s.next+2<(((s.new (.cells [.int .i64 k,.int .i64 n,.string y] 31 true)).new (.cells [.int .i64 kk,.int .i64 kn,.string x] 31 true)).new (.cells [.int .i64 0,.int .i64 0,.string ⟨#[]⟩] 31 true)).next:=by simp only[nN];omega
 simp only[↓Zd,Zp,Zs,simprocAttr,HEx,vA,co76]
 generalize (((s.new (.cells [.int .i64 k,.int .i64 n,.string y] 31 true)).new (.cells [.int .i64 kk,.int .i64 kn,.string x] 31 true)).new (.cells [.int .i64 0,.int .i64 0,.string ⟨#[]⟩] 31 true))=s1 at l1 c0 c1 c2 hkn ⊢
 have h1:=h.le l1
 refine skeyed_spec h1 fun s2 h2 u2=>?_
 generalize (decide (k=4) && decide (kk=3))=so at h2 hR ⊢
 have k0:=((u2.loc (c:=s.next) oM (h.fresh (Nat.le_refl _))).2).trans c0
 have k1:=((u2.loc (c:=s.next+1) oM (h.fresh oM)).2).trans c1
 obtain⟨f2,k2⟩:=u2.loc (c:=s.next+2) hkn (h.fresh oM)
 have k2:=k2.trans c2
 cases hg:goesB (isS D so) with
 |false =>
  rw[hg]at hR
  have fin:∀ {B:Blk},R (.tuple #[vA 0 0 ⟨#[]⟩,.bool false]) (s2.put (s.next+2) B):=fun {B}=>by
   obtain⟨g1,g2⟩:=h2.loc (c:=s.next+2) (B:=B) ((Upd.of_le l1).trans u2) oM f2
   exact hR _ _ _ _ g1 g2
  unfold vA at fin
  simp only[↓Zd,Zp,Zs,simprocAttr,HEx,vA,k2]
  exact fin
 |true =>
  obtain⟨e1,_,_⟩:=is_goes hg
  rw[hg,e1]at hR
  rw[e1]at h2
  have hb:=h2.bl
  unfold stC at hb
  obtain⟨_,tg,pf,pn,sl0,bs,hin⟩:=h2.heap
  simp only[↓Zd,Zp,simprocAttr,cld2,HEx,TAx,vA,k0,k1,hb,co109,ord45]
  refine hget_spec hin hn fun s3 v l3 hv=>?_
  have n2:=u2.next
  have k23:=(l3.2 (s.next+2) oM).trans k2
  have fin:∀ {B:Blk},R (.tuple #[vOf v,.bool true]) (s3.put (s.next+2) B):=fun {B}=>by
   obtain⟨g1,g2⟩:=(h2.le l3).loc (c:=s.next+2) (B:=B) (((Upd.of_le l1).trans u2).trans (.of_le l3)) oM f2
   exact hR _ _ _ _ g1 g2
  unfold vOf vA at fin ⊢
  simp only[↓Zd,Zp,Zs,simprocAttr,HEx,k23]
  exact fin
theorem ssetix_spec{k n kk kn vk vn:Int}{y x vx:ByteArray}(h:StIn lo s q D N O p gb ov tv)(hlo:lo≤s.next)(hN:N+4≤1000000)(hn : -9223372036854775808≤n∧n≤9223372036854775807)
  (hR:∀ s' O' tv',StIn lo s' q (chS D (decide (k=4) && decide (kk=3)) n (setH D.H n x (vk,vn,vx)) (setE D.H n x)) (N+4) O' p gb ov tv'→Upd s s' (ownS q gb ov tv O) (ownS q gb ov tv' O')→R (.bool (goesB (chS D (decide (k=4) && decide (kk=3)) n (setH D.H n x (vk,vn,vx)) (setE D.H n x)))) s') :
  QC prog w0 20 #[.pointer (some ⟨q,0,none⟩),vA k n y,vA kk kn x,vA vk vn vx] s R:=by
 refine wfun2 hmix ok20 func20 rfl ntmps20 results20 (by simp) ?_
 have l1:s.le ((((s.new (.cells [.pointer (some ⟨q,0,none⟩)] 25 true)).new (.cells [.int .i64 k,.int .i64 n,.string y] 31 true)).new (.cells [.int .i64 kk,.int .i64 kn,.string x] 31 true)).new (.cells [.int .i64 vk,.int .i64 vn,.string vx] 31 true)):=oL
 have c0:((((s.new (.cells [.pointer (some ⟨q,0,none⟩)] 25 true)).new (.cells [.int .i64 k,.int .i64 n,.string y] 31 true)).new (.cells [.int .i64 kk,.int .i64 kn,.string x] 31 true)).new (.cells [.int .i64 vk,.int .i64 vn,.string vx] 31 true)).at' s.next=some (.cells [.pointer (some ⟨q,0,none⟩)] 25 true):=by simp only[aN,nN];(repeat rw[if_neg oM]);rw[if_pos trivial]
 have c1:((((s.new (.cells [.pointer (some ⟨q,0,none⟩)] 25 true)).new (.cells [.int .i64 k,.int .i64 n,.string y] 31 true)).new (.cells [.int .i64 kk,.int .i64 kn,.string x] 31 true)).new (.cells [.int .i64 vk,.int .i64 vn,.string vx] 31 true)).at' (s.next+1)=some (.cells [.int .i64 k,.int .i64 n,.string y] 31 true):=by simp only[aN,nN];(repeat rw[if_neg oM]);rw[if_pos trivial]
 have c2:((((s.new (.cells [.pointer (some ⟨q,0,none⟩)] 25 true)).new (.cells [.int .i64 k,.int .i64 n,.string y] 31 true)).new (.cells [.int .i64 kk,.int .i64 kn,.string x] 31 true)).new (.cells [.int .i64 vk,.int .i64 vn,.string vx] 31 true)).at' (s.next+2)=some (.cells [.int .i64 kk,.int .i64 kn,.string x] 31 true):=by rw[aN,if_neg (by simp only[nN];omega),aN,if_pos (by simp only[nN])]
 have c3:((((s.new (.cells [.pointer (some ⟨q,0,none⟩)] 25 true)).new (.cells [.int .i64 k,.int .i64 n,.string y] 31 true)).new (.cells [.int .i64 kk,.int .i64 kn,.string x] 31 true)).new (.cells [.int .i64 vk,.int .i64 vn,.string vx] 31 true)).at' (s.next+3)=some (.cells [.int .i64 vk,.int .i64 vn,.string vx] 31 true):=by rw[aN,if_pos (by simp only[nN])]
 have hkn:s.next+3<((((s.new (.cells [.pointer (some ⟨q,0,none⟩)] 25 true)).new (.cells [.int .i64 k,.int .i64 n,.string y] 31 true)).new (.cells [.int .i64 kk,.int .i64 kn,.string x] 31 true)).new (.cells [.int .i64 vk,.int .i64 vn,.string vx] 31 true)).next:=by simp only[nN];omega
 simp only[↓Zd,Zp,Zs,simprocAttr,HEx,TAx,vA,co76]
 generalize ((((s.new (.cells [.pointer (some ⟨q,0,none⟩)] 25 true)).new (.cells [.int .i64 k,.int .i64 n,.string y] 31 true)).new (.cells [.int .i64 kk,.int .i64 kn,.string x] 31 true)).new (.cells [.int .i64 vk,.int .i64 vn,.string vx] 31 true))=s1 at l1 c0 c1 c2 c3 hkn ⊢
 have h1:=h.le l1
 refine skeyed_spec h1 fun s2 h2 u2=>?_
 generalize (decide (k=4) && decide (kk=3))=so at h2 hR ⊢
 have k0:=((u2.loc (c:=s.next) oM (h.fresh (Nat.le_refl _))).2).trans c0
 have k1:=((u2.loc (c:=s.next+1) oM (h.fresh oM)).2).trans c1
 have k2:=((u2.loc (c:=s.next+2) oM (h.fresh oM)).2).trans c2
 have k3:=((u2.loc (c:=s.next+3) oM (h.fresh oM)).2).trans c3
 have n1:=l1.1
 have n2:=u2.next
 cases hg:goesB (isS D so) with
 |false =>
  simp only[chS_no hg,hg]at hR
  simp only[↓Zd,Zp,simprocAttr,HEx,vA]
  exact hR _ _ _ (h2.mono oM) ((Upd.of_le l1).trans u2)
 |true =>
  obtain⟨e1,_,_⟩:=is_goes hg
  simp only[chS_yes hg]at hR
  rw[e1]at h2
  simp only[↓Zd,Zp,simprocAttr,cld2,HEx,TAx,vA,k0,k1,co73]
  refine swatch_spec (H':=setH D.H n x (vk,vn,vx)) (e:=setE D.H n x) co77 h2 hN hn (fun K hK=>ssetix1_spec h2 oM oM hn k0 k1 k2 k3 hK) fun s3 O3 tv3 h3 u3=>?_
  simp only[↓Zd,Zp,simprocAttr,HEx,vA]
  exact hR _ _ _ h3 (((Upd.of_le l1).trans u2).trans u3)
theorem sdelix_spec{k n kk kn:Int}{y x:ByteArray}(h:StIn lo s q D N O p gb ov tv)(hlo:lo≤s.next)(hN:N+4≤1000000)(hn : -9223372036854775808≤n∧n≤9223372036854775807)
  (hR:∀ s' O' tv',StIn lo s' q (chS D (decide (k=4) && decide (kk=3)) n (delH D.H n x) 0) (N+4) O' p gb ov tv'→Upd s s' (ownS q gb ov tv O) (ownS q gb ov tv' O')→R (.bool (goesB (chS D (decide (k=4) && decide (kk=3)) n (delH D.H n x) 0))) s') :
  QC prog w0 49 #[.pointer (some ⟨q,0,none⟩),vA k n y,vA kk kn x] s R:=by
 refine wfun2 hmix ok49 func49 rfl ntmps49 results49 (by simp) ?_
 have l1:s.le ((s.new (.cells [.int .i64 k,.int .i64 n,.string y] 31 true)).new (.cells [.int .i64 kk,.int .i64 kn,.string x] 31 true)):=oL
 have c0:((s.new (.cells [.int .i64 k,.int .i64 n,.string y] 31 true)).new (.cells [.int .i64 kk,.int .i64 kn,.string x] 31 true)).at' s.next=some (.cells [.int .i64 k,.int .i64 n,.string y] 31 true):=by rw[aN,if_neg (by simp only[nN];omega),aN,if_pos rfl]
 have c1:((s.new (.cells [.int .i64 k,.int .i64 n,.string y] 31 true)).new (.cells [.int .i64 kk,.int .i64 kn,.string x] 31 true)).at' (s.next+1)=some (.cells [.int .i64 kk,.int .i64 kn,.string x] 31 true):=by rw[aN,if_pos (by simp only[nN])]
 have hkn:s.next+1<((s.new (.cells [.int .i64 k,.int .i64 n,.string y] 31 true)).new (.cells [.int .i64 kk,.int .i64 kn,.string x] 31 true)).next:=by simp only[nN];omega
 simp only[↓Zd,Zp,Zs,simprocAttr,HEx,vA,co76]
 generalize ((s.new (.cells [.int .i64 k,.int .i64 n,.string y] 31 true)).new (.cells [.int .i64 kk,.int .i64 kn,.string x] 31 true))=s1 at l1 c0 c1 hkn ⊢
 have h1:=h.le l1
 refine skeyed_spec h1 fun s2 h2 u2=>?_
 generalize (decide (k=4) && decide (kk=3))=so at h2 hR ⊢
 have k0:=((u2.loc (c:=s.next) oM (h.fresh (Nat.le_refl _))).2).trans c0
 have k1:=((u2.loc (c:=s.next+1) oM (h.fresh oM)).2).trans c1
 have n1:=l1.1
 have n2:=u2.next
 cases hg:goesB (isS D so) with
 |false =>
  simp only[chS_no hg,hg]at hR
  simp only[↓Zd,Zp,simprocAttr,HEx,vA]
  exact hR _ _ _ (h2.mono oM) ((Upd.of_le l1).trans u2)
 |true =>
  obtain⟨e1,_,_⟩:=is_goes hg
  simp only[chS_yes hg]at hR
  rw[e1]at h2
  simp only[↓Zd,Zp,simprocAttr,cld2,HEx,TAx,vA,k0,k1,co79]
  refine srem_spec h2 oM hN hn fun s3 O3 tv3 h3 u3=>?_
  simp only[↓Zd,Zp,simprocAttr,HEx,vA]
  exact hR _ _ _ h3 (((Upd.of_le l1).trans u2).trans u3)
end
def enterS(D:StD)(so:Bool):StD:=if (goesB D && so)=true then (if D.l1≤D.depth then needS D 41 else { D with depth:=D.depth+1 }) else isS D so
def leaveS(D:StD):StD:=if goesB D=true then (if 0<D.depth then { D with depth:=D.depth - 1 } else D) else D
section
variable {lo q N p gb:Nat}{D:StD}{O:Nat→Prop}{ov tv:Value}
theorem senter_spec{k n:Int}{y:ByteArray}(h:StIn lo s q D N O p gb ov tv)(hR:∀ s',StIn lo s' q (enterS D (decide (k=5))) N O p gb ov tv→Upd s s' (ownS q gb ov tv O) (ownS q gb ov tv O)→R (.bool (goesB (enterS D (decide (k=5))))) s') :
  QC prog w0 24 #[.pointer (some ⟨q,0,none⟩),vA k n y] s R:=by
 refine wfun2 hmix ok24 func24 rfl ntmps24 results24 (by simp) ?_
 have l1:s.le (s.new (.cells [.int .i64 k,.int .i64 n,.string y] 31 true)):=lN (lR _)
 have h1:=h.le l1
 have c0:(s.new (.cells [.int .i64 k,.int .i64 n,.string y] 31 true)).at' s.next=some (.cells [.int .i64 k,.int .i64 n,.string y] 31 true):=by rw[aN,if_pos rfl]
 have kn:s.next<(s.new (.cells [.int .i64 k,.int .i64 n,.string y] 31 true)).next:=by simp only[nN];omega
 simp only[↓Zd,Zp,Zs,simprocAttr,HEx,vA,co26]
 generalize s.new (.cells [.int .i64 k,.int .i64 n,.string y] 31 true)=s1 at l1 h1 c0 kn ⊢
 refine sover_spec h1 ?_
 unfold enterS at hR
 cases hg:goesB D with
 |false =>
  simp only[hg,Bool.false_and,Bool.false_eq_true,if_false,goes_is hg]at hR
  simp only[↓Zd,Zp,simprocAttr,HEx,vA]
  exact hR _ h1 (.of_le l1)
 |true =>
  by_cases hk:k=5
  ·simp only[hg,hk,decide_true,Bool.and_self,if_true]at hR
   simp only[↓Zd,Zp,simprocAttr,cld2,HEx,vA,c0,hk,co64]
   refine sis_spec h1 fun s2 h2 u2=>?_
   have e1:isS D true=D:=rfl
   rw[e1]at h2
   rw[e1,hg]
   have hb:=h2.bl
   unfold stC at hb
   have hnum:=h2.num
   have u12:=(Upd.of_le l1).trans u2
   by_cases hd:D.l1≤D.depth
   ·simp only[hd,if_true]at hR
    simp only[↓Zd,Zp,simprocAttr,cld2,HEx,TAx,vA,hb,hd,co80,ord24]
    refine sneed_spec h2 fun s3 h3 u3=>?_
    simp only[↓Zd,Zp,simprocAttr,HEx]
    exact hR _ h3 (u12.trans u3)
   ·simp only[hd,if_false]at hR
    have w1:IntKind.i64.wrap (D.depth+1)=D.depth+1:=by rw[wrap_i64 (by have:=hnum.depth;omega)]
    have hg2:goesB { D with depth:=D.depth+1 }=true:=hg
    rw[hg2]at hR
    simp only[↓Zd,Zp,Zs,simprocAttr,HEx,TAx,vA,hb,hd,w1,ord24]
    refine (fun (H:_∧_)=>hR _ H.1 (u12.trans H.2)) (h2.puts (D':={ D with depth:=D.depth+1 }) ?_ ?_ ?_ rfl rfl rfl rfl ⟨hnum.fuel,by have:=hnum.depth;have:=hnum.lim;show 0≤D.depth+1∧D.depth+1≤1000000;omega,hnum.lim,hnum.out,hnum.tch,hnum.glob,hnum.n⟩)
    ·simp only[nU];omega
    ·simp only[aP,if_true];rfl
    ·intro b hb2 hb3
     simp only[aP,hb3,if_false]
  ·simp only[hg,hk,decide_false,Bool.and_false,Bool.false_eq_true,if_false]at hR
   simp only[↓Zd,Zp,simprocAttr,cld2,HEx,vA,c0,hk,co64]
   refine sis_spec h1 fun s2 h2 u2=>?_
   rw[goes_is30]at hR ⊢
   simp only[↓Zd,Zp,simprocAttr,HEx,vA]
   exact hR _ h2 ((Upd.of_le l1).trans u2)
theorem sleave_spec(h:StIn lo s q D N O p gb ov tv)(hR:∀ s',StIn lo s' q (leaveS D) N O p gb ov tv→Upd s s' (ownS q gb ov tv O) (ownS q gb ov tv O)→R (.tuple #[]) s') :
  QC prog w0 119 #[.pointer (some ⟨q,0,none⟩)] s R:=by
 refine wfun2 hmix ok119 func119 rfl ntmps119 results119 (by simp) ?_
 have hb:=h.bl
 unfold stC at hb
 have hnum:=h.num
 simp only[↓Zd,Zp,simprocAttr,co26]
 refine sover_spec h ?_
 unfold leaveS at hR
 cases hg:goesB D with
 |false =>
  simp only[hg,Bool.false_eq_true,if_false]at hR
  simp only[↓Zd,Zp,simprocAttr,HEx]
  exact hR _ h .refl
 |true =>
  by_cases hd:0<D.depth
  ·simp only[hg,hd,if_true]at hR
   have w1:IntKind.i64.wrap (D.depth - 1)=D.depth - 1:=by rw[wrap_i64 (by have:=hnum.depth;omega)]
   simp only[↓Zd,Zp,Zs,simprocAttr,HEx,TAx,hb,hd,w1]
   refine (fun (H:_∧_)=>hR _ H.1 H.2) (h.puts (D':={ D with depth:=D.depth - 1 }) ?_ ?_ ?_ rfl rfl rfl rfl ⟨hnum.fuel,by have:=hnum.depth;show 0≤D.depth - 1∧D.depth - 1≤1000000;omega,hnum.lim,hnum.out,hnum.tch,hnum.glob,hnum.n⟩)
   ·simp only[nU];omega
   ·simp only[aP,if_true];rfl
   ·intro b hb2 hb3
    simp only[aP,hb3,if_false]
  ·simp only[hg,hd,if_true,if_false]at hR
   simp only[↓Zd,Zp,simprocAttr,cld2,HEx,TAx,hb,hd]
   exact hR _ h .refl
theorem stouch_spec(h:StIn lo s q D N O p gb ov tv)(hR:∀ s',StIn lo s' q { D with tch:=[] } N O p gb ov (.slice none 0 0)→Upd s s' (ownS q gb ov tv O) (ownS q gb ov (.slice none 0 0) O)→SlC 3 1 s' tv (D.tch.map (.int .i64)) D.tch.length→R tv s') :
  QC prog w0 39 #[.pointer (some ⟨q,0,none⟩)] s R:=by
 refine wfun2 hmix ok39 func39 rfl ntmps39 results39 (by simp) ?_
 have hb:=h.bl
 unfold stC at hb
 have hsl:∃ a n c,tv = .slice a n c:=by
  rcases h.st with ⟨_,_,h⟩|⟨b,c,h,_⟩
  ·exact⟨_,_,_,h⟩
  ·exact⟨_,_,_,h⟩
 obtain⟨a,n,c,rfl⟩:=hsl
 simp only[↓Zd,Zp,Zs,simprocAttr,TAx,hb]
 obtain⟨a1,a2,a3,a4,a5,a6,a7,a8,a9,a10⟩:=h
 have hk:∀ {B:Blk} b,b≠q→(s.put q B).at' b=s.at' b:=fun b hb=>by rw[aP,if_neg hb]
 refine hR _ ⟨a1.same (Nat.le_refl _) fun c hc=>hk c fun e=>a4.2.2 (e▸hc),by rw[aP,if_pos rfl];rfl,⟨a3.fuel,a3.depth,a3.lim,a3.out,Nat.zero_le _,a3.glob,a3.n⟩,a4,a5,(hk gb a5.2.2.2).trans a6,slc_to a7 fun b hb=>hk b (a9 b hb).2.2.2.1,.inl ⟨rfl,rfl,rfl⟩,a9,fun b hb=>by cases hb⟩ ⟨Nat.le_refl _,fun b hb ho=>hk b fun e=>ho (.inl e),?_⟩ (slc_to a8 fun b hb=>hk b (a10 b hb).2.2.2.1)
 rintro b (hb|hb|hb|hb|hb)
 ·exact .inl (.inl hb)
 ·exact .inl (.inr (.inl hb))
 ·exact .inl (.inr (.inr (.inl hb)))
 ·cases hb
 ·exact .inl (.inr (.inr (.inr (.inr hb))))
theorem sgrow1_spec{b0 b1 b2 b3:Nat}{k n to vk vn:Int}{y vx:ByteArray}(h:StIn lo s q D N O p gb ov tv)(hlo:lo≤s.next)(hN:N+3≤1000000)(hn : -9223372036854775808≤n∧n≤9223372036854775807)(hto : -9223372036854775808≤to∧to≤9223372036854775807)
  (c0:s.at' b0=some (.cells [.pointer (some ⟨q,0,none⟩)] 25 true))(c1:s.at' b1=some (.cells [.int .i64 k,.int .i64 n,.string y] 31 true))(c2:s.at' b2=some (.cells [.int .i64 to] 3 true))(c3:s.at' b3=some (.cells [.int .i64 vk,.int .i64 vn,.string vx] 31 true))
  (hR:∀ s' O',HpAt lo s' p (growH D.H n to (vk,vn,vx)) (N+3) O'→Upd s s' O O'→R (.int .i64 (growE D.H n to)) s') :
  QC prog w0 196 #[.pointer (some ⟨b0,0,none⟩),.pointer (some ⟨b1,0,none⟩),.pointer (some ⟨b2,0,none⟩),.pointer (some ⟨b3,0,none⟩)] s R:=by
 refine wfun2 hmix ok196 func196 rfl ntmps196 results196 (by simp) ?_
 have hb:=h.bl
 unfold stC at hb
 simp only[↓Zd,Zp,Zs,simprocAttr,HEx,TAx,hb,c0,c1,c2,c3,co157,ord196]
 refine hgrow_spec h.heap hlo hN hn hto fun s2 O2 h2 u2=>?_
 simp only[↓Zd,Zp,simprocAttr,HEx]
 exact hR _ _ h2 u2
theorem sgrow_spec{k n to vk vn:Int}{y vx:ByteArray}(h:StIn lo s q D N O p gb ov tv)(hlo:lo≤s.next)(hN:N+4≤1000000)(hn : -9223372036854775808≤n∧n≤9223372036854775807)(hto : -9223372036854775808≤to∧to≤9223372036854775807)
  (hR:∀ s' O' tv',StIn lo s' q (chS D (decide (k=4)) n (growH D.H n to (vk,vn,vx)) (growE D.H n to)) (N+4) O' p gb ov tv'→Upd s s' (ownS q gb ov tv O) (ownS q gb ov tv' O')→R (.bool (goesB (chS D (decide (k=4)) n (growH D.H n to (vk,vn,vx)) (growE D.H n to)))) s') :
  QC prog w0 123 #[.pointer (some ⟨q,0,none⟩),vA k n y,.int .i64 to,vA vk vn vx] s R:=by
 refine wfun2 hmix ok123 func123 rfl ntmps123 results123 (by simp) ?_
 have l1:s.le ((((s.new (.cells [.pointer (some ⟨q,0,none⟩)] 25 true)).new (.cells [.int .i64 k,.int .i64 n,.string y] 31 true)).new (.cells [.int .i64 to] 3 true)).new (.cells [.int .i64 vk,.int .i64 vn,.string vx] 31 true)):=oL
 have hc:∃ s1,s1=((((s.new (.cells [.pointer (some ⟨q,0,none⟩)] 25 true)).new (.cells [.int .i64 k,.int .i64 n,.string y] 31 true)).new (.cells [.int .i64 to] 3 true)).new (.cells [.int .i64 vk,.int .i64 vn,.string vx] 31 true)):=⟨_,rfl⟩
 obtain⟨s1,hs1⟩:=hc
 have c0:s1.at' s.next=some (.cells [.pointer (some ⟨q,0,none⟩)] 25 true):=by rw[hs1];simp only[aN,nN];(repeat rw[if_neg oM]);rw[if_pos trivial]
 have c1:s1.at' (s.next+1)=some (.cells [.int .i64 k,.int .i64 n,.string y] 31 true):=by rw[hs1];simp only[aN,nN];(repeat rw[if_neg oM]);rw[if_pos trivial]
 have c2:s1.at' (s.next+1+1)=some (.cells [.int .i64 to] 3 true):=by rw[hs1];simp only[aN,nN];(repeat rw[if_neg oM]);rw[if_pos trivial]
 have c3:s1.at' (s.next+1+1+1)=some (.cells [.int .i64 vk,.int .i64 vn,.string vx] 31 true):=by rw[hs1];simp only[aN,nN];rw[if_pos trivial]
 have kn:s.next+1+1+1<s1.next:=by rw[hs1];simp only[nN];omega
 rw[← hs1]at l1
 have h1:=h.le l1
 simp only[↓Zd,Zp,Zs,simprocAttr,HEx,TAx,vA,co26]
 simp only[Nat.add_assoc,Nat.reduceAdd]at c0 c1 c2 c3 kn
 rw[← hs1]
 clear hs1
 refine sover_spec h1 ?_
 unfold chS at hR
 cases hg:goesB D with
 |false =>
  simp only[hg,Bool.false_and,Bool.false_eq_true,if_false,goes_is hg]at hR
  simp only[↓Zd,Zp,simprocAttr,HEx,vA]
  exact hR _ _ _ (h1.mono oM) (.of_le l1)
 |true =>
  by_cases hk:k=4
  ·simp only[hg,hk,decide_true,Bool.and_self,if_true]at hR
   simp only[↓Zd,Zp,simprocAttr,cld2,HEx,TAx,vA,c0,c1,hk,co64]
   refine sis_spec h1 fun s2 h2 u2=>?_
   obtain⟨f0,k0⟩:=u2.loc (c:=s.next) oM (h.fresh (Nat.le_refl _))
   have k1:=(u2.loc (c:=s.next+1) oM (h.fresh oM)).2
   have k2:=(u2.loc (c:=s.next+2) oM (h.fresh oM)).2
   have k3:=(u2.loc (c:=s.next+3) oM (h.fresh oM)).2
   have d0:=k0.trans c0
   have d1:=k1.trans c1
   have e1:isS D true=D:=rfl
   rw[e1]at h2
   rw[e1,hg]
   have hn2:=u2.next
   have hn1:=l1.1
   simp only[↓Zd,Zp,simprocAttr,cld2,HEx,TAx,vA,d0,d1,hk,co73]
   refine swatch_spec (H':=growH D.H n to (vk,vn,vx)) (e:=growE D.H n to) co196 h2 hN hn (fun K hK=>sgrow1_spec h2 oM oM hn hto d0 d1 (k2.trans c2) (k3.trans c3) hK) fun s3 O3 tv3 h3 u3=>?_
   simp only[↓Zd,Zp,simprocAttr,HEx,vA]
   exact hR _ _ _ h3 (((Upd.of_le l1).trans u2).trans u3)
  ·simp only[hg,hk,decide_false,Bool.and_false,Bool.false_eq_true,if_false]at hR
   simp only[↓Zd,Zp,simprocAttr,cld2,HEx,TAx,vA,c0,c1,hk,co64]
   refine sis_spec h1 fun s2 h2 u2=>?_
   rw[goes_is30]at hR ⊢
   simp only[↓Zd,Zp,simprocAttr,HEx,vA]
   exact hR _ _ _ (h2.mono oM) ((Upd.of_le l1).trans u2)
end
def CTC10:=(aI (aI (aI (aI (aI @underlying105 @sz105) (aI @is105 @ce105)) (aI (aI @ag105 @ze105) (aI @fa105x0 @fa105x1))) (aI (aI (aI @underlying102 @sz102) (aI @is102 @ce102)) (aI (aI @ag102 @ze102) (aI @nt102 (aI @nn102 @nf102))))) (aI (aI (aI (aI @ng102 @underlying5) (aI @sz5 @is5)) (aI (aI @ce5 @ag5) (aI @ze5 (aI @underlying108 @sz108)))) (aI (aI (aI @is108 @ce108) (aI @ag108 @underlying107)) (aI (aI @sz107 @is107) (aI @ce107 (aI @ag107 @ze107))))))
def VSz(B:Nat)(v:Int×Int×ByteArray):Prop:=v.2.2.size≤B ∧ -9223372036854775808≤v.2.1∧v.2.1≤9223372036854775807
structure DSz(B:Nat)(D:StD):Prop where
 H:HSz B D.H
 T:TSz B D.H
 g:∀ v∈D.g,VSz B v
 o:∀ x∈D.out,x.size≤B
 v:VSz B (D.vk,D.vn,D.vx)
def gB(g:List (Int×Int×ByteArray))(k:Nat):ByteArray:=(g.take k).foldl (fun a v=>a++((⟨#[32]⟩:ByteArray)++printV v.1 v.2.1 v.2.2)) ⟨#[71]⟩
def outL(l:List ByteArray):List UInt8:=l.flatMap fun x=>((⟨#[80,32]⟩:ByteArray)++quoteS x).data.toList ++ [10]
def dumpS(D:StD):ByteArray:=⟨(linesL D.H D.H.obs.length++(gB D.g D.g.length).data.toList ++ [10]++outL D.out++((⟨#[83,32]⟩:ByteArray)++digS D.taken).data.toList ++ [10]).toArray⟩
theorem gB_succ{g:List (Int×Int×ByteArray)}{k:Nat}{v:Int×Int×ByteArray}(h:g[k]?=some v):gB g (k+1)=gB g k++((⟨#[32]⟩:ByteArray)++printV v.1 v.2.1 v.2.2):=by
 unfold gB
 rw[List.take_add_one,h]
 simp
theorem gB_len{g:List (Int×Int×ByteArray)}(h:∀ v∈g,VSz 1000000 v):∀ k,(gB g k).size≤1+k*5000000:=by
 intro k
 induction k with
 |zero =>
  have:(gB g 0).size=1:=by unfold gB;rw[List.take_zero];rfl
  omega
 |succ k ih =>
  by_cases hk:k<g.length
  ·have hg:g[k]?=some g[k]:=List.getElem?_eq_getElem hk
   have hv:=h _ (List.mem_of_getElem? hg)
   rw[gB_succ hg]
   have:=printV_len (k:=g[k].1) (x:=g[k].2.2) hv.2
   have h1:=hv.1
   simp only[ByteArray.size_append]
   show _+(1+_)≤_
   omega
  ·have:gB g (k+1)=gB g k:=by unfold gB;rw[List.take_of_length_le oM,List.take_of_length_le oM]
   exact Nat.le_trans (Nat.le_of_eq (congrArg ByteArray.size this)) (Nat.le_trans ih (Nat.add_le_add_left (Nat.mul_le_mul_right _ (Nat.le_succ k)) 1))
theorem quoteS_len(x:ByteArray):(quoteS x).size≤4*x.size+2:=by
 have:=flat_len x.data.toList
 show (quoteL x.data.toList).length≤_
 unfold quoteL
 simp only[List.length_cons,List.length_append,List.length_nil]
 have e:x.data.toList.length=x.size:=rfl
 omega
theorem outL_len{l:List ByteArray}(h:∀ x∈l,x.size≤1000000):(outL l).length≤l.length*5000000:=by
 induction l with
 |nil=>simp[outL]
 |cons x l ih =>
  have h1:=h x (List.mem_cons_self)
  have h2:=ih fun q hq=>h q (List.mem_cons_of_mem _ hq)
  have h3:=quoteS_len x
  show ((((⟨#[80,32]⟩:ByteArray)++quoteS x).data.toList ++ [10])++outL l).length≤_
  have e:((⟨#[80,32]⟩:ByteArray)++quoteS x).data.toList.length=2+(quoteS x).size:=by
   show ((⟨#[80,32]⟩:ByteArray)++quoteS x).size=_
   rw[ByteArray.size_append];rfl
  rw[List.length_append,List.length_append,List.length_cons,e]
  simp only[List.length_cons,List.length_nil]
  omega
theorem outL_succ{l:List ByteArray}{k:Nat}{x:ByteArray}(h:l[k]?=some x):outL (l.take (k+1))=outL (l.take k)++(((⟨#[80,32]⟩:ByteArray)++quoteS x).data.toList ++ [10]):=by
 unfold outL
 rw[List.take_add_one,h]
 simp
section
variable {lo q N p gb:Nat}{D:StD}{O:Nat→Prop}{ov tv:Value}
theorem writeString0_spec{s0:St M}{p:Nat}(hB:BAt s0 s p [])(h:∀ s',BAt s0 s' p []→R (.tuple #[.int .i64 0,.nilIface]) s'):QC prog w0 53 #[.pointer (some ⟨p,0,none⟩),.string ⟨#[]⟩] s R:=by
 refine wfun2 hmix ok53 func53 rfl ntmps53 results53 (by simp) ?_
 obtain⟨hle,hlo,hhi,ad,sl,hp,had,hsl⟩:=hB
 have hsl:sl = .slice none 0 0:=by rcases hsl with ⟨_,h⟩|⟨h,_⟩;exact h;exact absurd rfl h
 subst hsl
 simp only[↓Zd,Zp,simprocAttr,co125]
 refine copyCheck_spec hp had fun s1 hn1 hat1=>?_
 have hp1:s1.at' p=some (.cells [.pointer (some ⟨p,0,none⟩),.slice none 0 0] 105 true):=by rw[hat1,if_pos rfl]
 have hcapp:capp prog #[103,9] #[.slice none 0 0,.string ⟨#[]⟩] s1=some (.slice none 0 0,s1):=by
  obtain⟨ie,hie,h1,h2⟩:=infoU8
  rw[app_eq_str underlying103 underlying9 hie,h1]
  rfl
 simp only[↓Zd,Zp,Zs,simprocAttr,underlying9,underlying0,underlying103,fa105x1,hp1,ag103,sz103,hcapp]
 refine h _ ⟨⟨by simp only[nU];have:=hle.1;omega,fun b hb=>?_⟩,hlo,by simp only[nU];omega,_,_,by rw[aP,if_pos rfl],.inr rfl,.inl ⟨rfl,rfl⟩⟩
 rw[aP,if_neg oM,hat1,if_neg oM]
 exact hle.2 b hb
theorem lines_spec{s0:St M}{p j:Nat}{l:List UInt8}{x:ByteArray}{own:Bool}(hB:BAt s0 s p l)(hlen:l.length≤1099511627770)(hx:x.data.toList ≠ [])(hlen2:l.length+x.size≤1099511627770)(hj:s.at' j=some (.cells [.string x] 9 own))
  (h:∀ s',BAt s0 s' p (l++x.data.toList ++ [10])→R (.tuple #[]) s'):QC prog w0 56 #[.pointer (some ⟨p,0,none⟩),.slice (some ⟨j,0,none⟩) 1 1] s R:=by
 refine wfun2 hmix ok56 func56 rfl ntmps56 results56 (by simp) ?_
 simp only[↓Zd,Zp,simprocAttr,TAx]
 have b1:(0:Int)<((1:Nat):Int):=oM
 refine wloop_inv hmix (fun fuel env s'=>env 0 = .pointer (some ⟨p,0,none⟩)∧env 6 = .slice (some ⟨j,0,none⟩) 1 1∧env 7 = .int .i64 ((1:Nat):Int)∧∃ k:Nat,fuel=1 - k∧k≤1∧env 8 = .int .i64 (k:Int)∧((k=0∧s'=s)∨(k=1∧BAt s0 s' p (l++x.data.toList ++ [10])))) 1 ⟨rfl,rfl,rfl,0,rfl,oM,rfl,.inl ⟨rfl,rfl⟩⟩ ?_
 rintro fuel env s2 ⟨e0,e6,e7,k,rfl,hk,e8,⟨rfl,rfl⟩|⟨rfl,hB2⟩⟩
 ·simp only[↓Zd,Zp,simprocAttr,cld2,TAx,e0,e6,e7,e8,hj,co53]
  refine writeString_spec hB oM hx oM fun s3 hB3=>?_
  simp only[↓Zd,Zp,simprocAttr,CTC10,e0,co131]
  refine writeByte_spec (c:=10) hB3 (by rw[List.length_append];show _+x.size≤_;omega) fun s4 hB4=>?_
  have w1:IntKind.i64.wrap (((0:Nat):Int)+1)=((1:Nat):Int):=by rw[wrap_i64 oM];omega
  simp only[↓Zd,Zp,simprocAttr,CTC10,e0,e6,e7,e8]
  exact⟨0,oM,1,rfl,oM,rfl,.inr ⟨rfl,hB4⟩⟩
 ·have b2:¬ ((1:Nat):Int)<((1:Nat):Int):=oM
  simp only[↓Zd,Zp,simprocAttr,e7,e8]
  exact h _ hB2
theorem rowStr1(x:ByteArray):crow prog 39 1 #[(0,.string x)]=some (.cells [.string x] 9 true):=oK
theorem sdump_spec(h:StIn lo s q D N O p gb ov tv)(hN:N≤10000)(hsz:DSz 1000000 D)(hR:∀ s',s.le s'→R (.string (dumpS D)) s'):QC prog w0 11 #[.pointer (some ⟨q,0,none⟩)] s R:=by
 refine wfun2 hmix ok11 func11 rfl ntmps11 results11 (by simp) ?_
 have hnum:=h.num
 have hq0:=h.q0
 have hg0:=h.g0
 have hqn:¬ q=s.next:=oM
 have hb:=h.bl
 unfold stC at hb
 have hok:=h.heap.ok
 have hll:=linesL_len hok hsz.H D.H.obs.length
 have hlim:=hok.lim
 simp only[↓Zd,Zp,Zs,simprocAttr,HEx,TAx,CTC10,hb,hqn,co54]
 have l1:s.le (s.new (.cells [.pointer none,.slice none 0 0] 105 true)):=lN (lR _)
 have hB0:BAt s (s.new (.cells [.pointer none,.slice none 0 0] 105 true)) s.next []:=
  ⟨l1,Nat.le_refl _,by simp only[nN];omega,_,_,by rw[aN,if_pos rfl],.inl rfl,.inl ⟨rfl,rfl⟩⟩
 refine hdump_spec (h.heap.le l1) oM hsz.H fun s2 l2=>?_
 have hB2:=hB0.go l2
 simp only[↓Zd,Zp,simprocAttr,TAx,co53]
 have hw:QC prog w0 53 #[.pointer (some ⟨s.next,0,none⟩),.string (dumpB D.H)] s2 (fun v s3=>(∃ k,v = .tuple #[.int .i64 k,.nilIface])∧BAt s s3 s.next (linesL D.H D.H.obs.length)):=by
  have e:(dumpB D.H).data.toList=linesL D.H D.H.obs.length:=rfl
  by_cases hne:linesL D.H D.H.obs.length=[]
  ·have e2:dumpB D.H=⟨#[]⟩:=by unfold dumpB;rw[hne]
   rw[e2,hne]
   exact writeString0_spec hB2 fun s3 hB3=>⟨⟨_,rfl⟩,hB3⟩
  ·refine writeString_spec hB2 (by simp) (by rw[e];exact hne) ?_ fun s3 hB3=>⟨⟨_,rfl⟩,by rw[List.nil_append,e]at hB3;exact hB3⟩
   show (linesL D.H D.H.obs.length).length≤_
   omega
 refine QC.mono hw ?_
 rintro _ s3 ⟨⟨kk,rfl⟩,hB3⟩
 have h3:=h.le hB3.le
 have hb3:=h3.bl
 have hgl3:=h3.gl
 unfold stC at hb3
 simp only[↓Zd,Zp,simprocAttr,cld2,HEx,TAx,CTC10,hb3]
 have hglob:=hnum.glob
 refine wloop_inv hmix (fun fuel env s'=>env 0 = .pointer (some ⟨q,0,none⟩)∧env 3 = .pointer (some ⟨s.next,0,none⟩)∧env 27 = .slice (some ⟨gb,0,none⟩) D.g.length D.g.length∧env 28 = .int .i64 (D.g.length:Int)∧∃ k:Nat,fuel=D.g.length - k∧k≤D.g.length∧env 29 = .int .i64 (k:Int)∧env 4 = .string (gB D.g k)∧BAt s s' s.next (linesL D.H D.H.obs.length)) D.g.length ⟨rfl,rfl,rfl,rfl,0,rfl,oM,rfl,rfl,hB3⟩ ?_
 rintro fuel env s4 ⟨e0,e3,e27,e28,k,rfl,hk,e29,e4,hB4⟩
 have h4:=h.le hB4.le
 have hgl:=gB_len hsz.g k
 by_cases hkn:(k:Int)<(D.g.length:Int)
 ·have hg:D.g[k]?=some D.g[k]:=List.getElem?_eq_getElem oM
  have hv:=hsz.g _ (List.mem_of_getElem? hg)
  obtain⟨c1,c2⟩:=val3_cut hg
  have hgs:=gB_succ hg
  generalize D.g[k]=v at hg hv c2 hgs
  obtain⟨vk,vn,vx⟩:=v
  simp only at hgs c2
  have hgl4:=h4.gl
  have hkk:(0:Int)≤(k:Int)∧(k:Int)<(D.g.length:Int):=oM
  have hgn:¬ gb=s4.next:=by have:=h4.g0.2.1;omega
  have l5:s4.le ((s4.new (.cells [.int .i64 0,.int .i64 0,.string ⟨#[]⟩] 31 true)).put s4.next (.cells [.int .i64 vk,.int .i64 vn,.string vx] 31 true)):=lP (lN (lR _)) (Nat.le_refl _)
  have hpl:=printV_len (k:=vk) (n:=vn) (x:=vx) hv.2
  have hvs:=hv.1
  simp only at hvs
  have z1:(⟨#[32]⟩:ByteArray).size+(printV vk vn vx).size≤9223372036854775807:=by show 1+_≤_;omega
  have z2:(gB D.g k).size+((⟨#[32]⟩:ByteArray)++printV vk vn vx).size≤9223372036854775807:=by rw[ByteArray.size_append];show _+(1+_)≤_;omega
  have w1:IntKind.i64.wrap ((k:Int)+1)=((k+1:Nat):Int):=by rw[wrap_i64 oM];omega
  have hpr:=print_spec (w0:=w0) (k:=vk) (n:=vn) (x:=vx) (s:=(s4.new (.cells [.int .i64 0,.int .i64 0,.string ⟨#[]⟩] 31 true)).put s4.next (.cells [.int .i64 vk,.int .i64 vn,.string vx] 31 true)) hv.2 hvs (R:=fun v s'=>v = .string (printV vk vn vx)∧s4.le s') (fun s' hs'=>⟨rfl,lT l5 hs'⟩)
  unfold vA at hpr
  simp only[↓Zd,Zp,Zs,simprocAttr,HEx,e27,e28,e29,e4,hkn,hkk,hgl4,c1,c2,co55]
  refine QC.mono hpr ?_
  rintro _ s5 ⟨rfl,l45⟩
  simp only[↓Zd,Zp,simprocAttr,TAx,e0,e3,e27,e28,e29,z1,z2,w1]
  exact⟨D.g.length - (k+1),oM,k+1,rfl,oM,rfl,by rw[hgs],hB4.go l45⟩
 have hkl:k=D.g.length:=oM
 subst hkl
 have hnn:(gB D.g D.g.length).data.toList ≠ []:=by
  have:∀ k,(gB D.g k).data.toList ≠ []:=fun k=>by
   unfold gB
   generalize D.g.take k=l
   have gen:∀ (l:List (Int×Int×ByteArray)) (a:ByteArray),a.data.toList ≠ []→(l.foldl (fun a v=>a++((⟨#[32]⟩:ByteArray)++printV v.1 v.2.1 v.2.2)) a).data.toList ≠ []:=by
    intro l
    induction l with
    |nil=>intro a h;exact h
    |cons v l ih=>intro a h;exact ih _ (by rw[ba_list_append];simp[h])
   exact gen l _ (by simp)
  exact this _
 have l5:s4.le (s4.new (.cells [.string (gB D.g D.g.length)] 9 true)):=lN (lR _)
 simp only[↓Zd,Zp,simprocAttr,e3,e28,e29,e4,hkn,rowStr1,co56]
 refine lines_spec (x:=gB D.g D.g.length) (hB4.go l5) oM hnn oM (by rw[aN,if_pos rfl]) fun s6 hB6=>?_
 have h6:=h.le hB6.le
 have hb6:=h6.bl
 unfold stC at hb6
 have hso:=h6.so
 have houtN:=hnum.out
 obtain⟨oa,oc,rfl⟩:∃ oa oc,ov = .slice oa D.out.length oc:=by
  rcases hso with ⟨h1,h2,h3⟩|⟨b,c,h3,_⟩
  ·have:D.out.length=0:=by simpa using h1
   exact⟨none,0,by rw[h3,this]⟩
  ·exact⟨_,_,h3⟩
 have hel:(gB D.g D.g.length).data.toList.length=(gB D.g D.g.length).size:=rfl
 have hl6:(linesL D.H D.H.obs.length++(gB D.g D.g.length).data.toList ++ [10]).length≤100000000000:=by simp only[List.length_append,List.length_cons,List.length_nil];omega
 simp only[↓Zd,Zp,simprocAttr,cld2,HEx,TAx,e0,hb6]
 refine wloop_inv hmix (fun fuel env s'=>env 0 = .pointer (some ⟨q,0,none⟩)∧env 3 = .pointer (some ⟨s.next,0,none⟩)∧env 45 = .slice oa D.out.length oc∧env 46 = .int .i64 (D.out.length:Int)∧∃ k:Nat,fuel=D.out.length - k∧k≤D.out.length∧env 47 = .int .i64 (k:Int)∧BAt s s' s.next (linesL D.H D.H.obs.length++(gB D.g D.g.length).data.toList ++ [10]++outL (D.out.take k))) D.out.length ⟨?_,?_,rfl,rfl,0,rfl,oM,rfl,by simpa [outL] using hB6⟩ ?_
 ·simp[upd_apply,e0]
 ·simp[upd_apply,e3]
 rintro fuel env2 s7 ⟨f0,f3,f45,f46,k,rfl,hk,f47,hB7⟩
 have h7:=h.le hB7.le
 have hol:=outL_len (l:=D.out.take k) fun x hx=>hsz.o x (List.mem_of_mem_take hx)
 have htk:(D.out.take k).length≤k:=List.length_take_le _ _
 have hl7:(linesL D.H D.H.obs.length++(gB D.g D.g.length).data.toList ++ [10]++outL (D.out.take k)).length≤900000000000:=by rw[List.length_append];omega
 by_cases hkn2:(k:Int)<(D.out.length:Int)
 ·have hx:D.out[k]?=some D.out[k]:=List.getElem?_eq_getElem oM
  have hxs:=hsz.o _ (List.mem_of_getElem? hx)
  have hos:=outL_succ hx
  generalize D.out[k]=x at hx hxs hos
  have hso7:=h7.so
  rcases hso7 with ⟨h1,h2,h3⟩|⟨b,c,h3,hc,hbk,hbl⟩
  ·have:D.out.length=0:=by simpa using h1
   omega
  cases h3
  have hxb:(D.out.map Value.string)[k]?=some (.string x):=by rw[List.getElem?_map,hx];rfl
  have hkk:(0:Int)≤(k:Int)∧(k:Int)<(D.out.length:Int):=oM
  have w1:IntKind.i64.wrap ((k:Int)+1)=((k+1:Nat):Int):=by rw[wrap_i64 oM];omega
  have hql:=quoteS_len x
  have z1:(⟨#[80,32]⟩:ByteArray).size+(quoteS x).size≤9223372036854775807:=by show 2+_≤_;omega
  simp only[↓Zd,Zp,simprocAttr,cld2,TAx,f45,f46,f47,hkn2,hkk,hbk,hxb,co57]
  refine quote_spec hxs fun s8 l8=>?_
  have l9:s8.le (s8.new (.cells [.string ((⟨#[80,32]⟩:ByteArray)++quoteS x)] 9 true)):=lN (lR _)
  simp only[↓Zd,Zp,simprocAttr,TAx,f3,z1,rowStr1,co56]
  refine lines_spec (x:=(⟨#[80,32]⟩:ByteArray)++quoteS x) (hB7.go (lT l8 l9)) oM (by rw[ba_list_append];simp) (by rw[ByteArray.size_append];show _+(2+_)≤_;omega) (by rw[aN,if_pos rfl]) fun s10 hB10=>?_
  simp only[↓Zd,Zp,simprocAttr,HEx,f0,f3,f45,f46,f47,w1]
  refine⟨D.out.length - (k+1),oM,k+1,rfl,oM,rfl,?_⟩
  rw[hos,← List.append_assoc,← List.append_assoc]
  exact hB10
 have hkl:k=D.out.length:=oM
 subst hkl
 rw[List.take_length]at hB7 hl7
 have hdl:=digS_len (n:=D.taken) (by have:=hnum.fuel;omega)
 have z1:(⟨#[83,32]⟩:ByteArray).size+(digS D.taken).size≤9223372036854775807:=by show 2+_≤_;omega
 simp only[↓Zd,Zp,simprocAttr,f0,f46,f47,hkn2,co40]
 refine ssteps_spec h7 ?_
 simp only[↓Zd,Zp,simprocAttr,HEx,co58]
 refine digits_spec (by have:=hnum.fuel;omega) fun s8 l8=>?_
 have l9:s8.le (s8.new (.cells [.string ((⟨#[83,32]⟩:ByteArray)++digS D.taken)] 9 true)):=lN (lR _)
 simp only[↓Zd,Zp,simprocAttr,TAx,f3,z1,rowStr1,co56]
 refine lines_spec (x:=(⟨#[83,32]⟩:ByteArray)++digS D.taken) (hB7.go (lT l8 l9)) oM (by rw[ba_list_append];simp) (by rw[ByteArray.size_append];show _+(2+_)≤_;omega) (by rw[aN,if_pos rfl]) fun s10 hB10=>?_
 simp only[↓Zd,Zp,simprocAttr,HEx,f3,co59]
 have e9:((⟨#[83,32]⟩:ByteArray)++digS D.taken).data.toList.length=2+(digS D.taken).size:=by
  show ((⟨#[83,32]⟩:ByteArray)++digS D.taken).size=_
  rw[ByteArray.size_append]
  rfl
 refine string_spec hB10 (by simp only[List.length_append,List.length_cons,List.length_nil,e9]at hl7 ⊢;omega) fun s11 l11=>?_
 simp only[↓Zd,Zp,simprocAttr,TAx]
 exact hR _ l11
end
theorem nsS1{x y:Operand}:cbin prog .eql 39 x y (.slice none 0 0) (.slice none 0 0)=some (.bool true):=oK
theorem nsS2{x y:Operand}{a:Addr}{n c:Nat}:cbin prog .eql 39 x y (.slice (some a) n c) (.slice none 0 0)=some (.bool false):=oK
theorem rowS0:crow prog 39 0 #[]=some (.cells [] 9 true):=oK
theorem bOutc(k e:Int)(a:Option Addr)(n c:Nat):cbuild prog 41 #[(0,.int .i64 k),(1,.int .i64 e),(3,.slice a n c)]=some (.agg #[.int .i64 k,.int .i64 e,.int .i64 0,.slice a n c,.string ⟨#[]⟩]):=by cases a<;>kernel_rfl
section
variable {lo q N p gb:Nat}{D:StD}{O:Nat→Prop}{ov tv:Value}
theorem infoStr2:∃ ie,prog.info? 9=some ie∧ie.size=1∧0<ie.bytes∧ie.bytes≤100:=by
 obtain⟨ie,h⟩:=Option.isSome_iff_exists.1 is9
 have h1:=ce9
 have h2:decide (0<prog.bytesOf 9∧prog.bytesOf 9≤100)=true:=oK
 rw[cellsOf_info h]at h1
 simp only[Program.bytesOf,h,decide_eq_true_eq]at h2
 exact⟨ie,h,h1,h2.1,h2.2⟩
theorem clStr2{b cp:Nat}{cs junk:List Value}{n:Nat}{K:Value→St M→Prop}(hn:n≠0)(hlen:n≤1000000)(hok:cs.all qC=true)(hb:s.at' b=some (.cells (cs++junk) 9 true))(hbn:b<s.next)(hcs:cs.length=n*1)
  (h:∀ s',s'.next=s.next+2→s'.at' (s.next+1)=some (.cells cs 9 true)→(∀ b,b<s.next→s'.at' b=s.at' b)→K (.slice (some ⟨s.next+1,0,none⟩) n UNK) s') :
  wch (capp prog #[39,39] #[.slice (some ⟨s.next,0,none⟩) 0 0,.slice (some ⟨b,0,none⟩) n cp] (s.new (.cells [] 9 true))) K:=by
 obtain⟨ie,hie,h1,h2,h3⟩:=infoStr2
 have hcapp:capp prog #[39,39] #[.slice (some ⟨s.next,0,none⟩) 0 0,.slice (some ⟨b,0,none⟩) n cp] (s.new (.cells [] 9 true))=capp3 prog 9 ie (.slice (some ⟨s.next,0,none⟩) 0 0) (s.new (.cells [] 9 true)) (cmore ie.size (.slice (some ⟨b,0,none⟩) n cp) (s.new (.cells [] 9 true))):=
  app_eq underlying39 underlying39 hie
 have hv:cmore ie.size (.slice (some ⟨b,0,none⟩) n cp) (s.new (.cells [] 9 true))=some (n,cs):=by
  simp only[more_at,aN,if_neg (show ¬ b=s.next by omega),hb,more2,h1]
  have:cut (cs++junk) 0 (n*1)=some cs:=by
   unfold cut
   rw[if_pos (by rw[List.length_append];omega),List.drop_zero,← hcs,List.take_left']
   rfl
  rw[this];rfl
 obtain⟨s',h3,h4,h5,h6⟩:=app_row (n:=0) (k:=n) (old:=[]) hie ze9 (by rw[h1];rfl) h2 hcapp hn (by
  have:(0+n)*ie.bytes≤1000000*100:=Nat.mul_le_mul oM h3
  omega) hok hv (.inr ⟨s.next,0,rfl,.inr ⟨rfl,by decide⟩,by rw[aN,if_pos rfl],by simp⟩)
 refine⟨_,s',h3,?_⟩
 rw[Nat.zero_add]
 refine h s' (by simp at h4;omega) h5 fun c hc=>?_
 rw[h6 c (by simp;omega) (fun q m c' e=>by cases e;simp;omega),aN,if_neg oM]
theorem cloneStr{n:Nat}{l:List ByteArray}{v:Value}(hv:SlC 9 1 s v (l.map .string) n)(hn:n≤1000000)(hfr:∀ b,blkOf v=some b→b<s.next)(hR:∀ s' a c,s.le s'→R (.slice a n c) s'):QC prog w0 60 #[v] s R:=by
 rcases hv with ⟨rfl,_,rfl⟩|⟨b,c,rfl,hc,hb,hl⟩
 ·refine wfun2 hmix ok60 func60 rfl ntmps60 results60 (by simp) ?_
  simp only[↓Zd,Zp,simprocAttr,nsS1]
  exact hR _ _ _ (lR _)
 ·refine wfun2 hmix ok60 func60 rfl ntmps60 results60 (by simp) ?_
  have hbn:=hfr b rfl
  by_cases h0:n=0
  ·subst h0
   have hcapp:capp prog #[39,39] #[.slice (some ⟨s.next,0,none⟩) 0 0,.slice (some ⟨b,0,none⟩) 0 c] (s.new (.cells [] 9 true))=some (.slice (some ⟨s.next,0,none⟩) 0 0,s.new (.cells [] 9 true)):=by
    obtain⟨ie,hie,h1,h2,h3⟩:=infoStr2
    rw[app_eq underlying39 underlying39 hie]
    have:cmore ie.size (.slice (some ⟨b,0,none⟩) 0 c) (s.new (.cells [] 9 true))=some (0,[]):=by
     simp only[more_at,aN,if_neg (show ¬ b=s.next by omega),hb,more2,h1]
     unfold cut
     simp
    rw[this]
    rfl
   simp only[↓Zd,Zp,simprocAttr,nsS2,rowS0,hcapp]
   exact hR _ _ _ oL
  ·simp only[↓Zd,Zp,simprocAttr,nsS2,rowS0]
   refine clStr2 (cs:=l.map .string) (junk:=[]) h0 hn (by simp[Zs]) (by rw[List.append_nil];exact hb) hbn (by simpa using hl) fun s' h1 h2 h3=>?_
   simp only[↓Zd,Zp,simprocAttr]
   exact hR _ _ _ ⟨oM,h3⟩
theorem soutc_spec(h:StIn lo s q D N O p gb ov tv)(hN:N≤1000000)(hk:¬ D.kind=0)(hn : -9223372036854775808≤D.vn∧D.vn≤9223372036854775807)(hR:∀ s' a c x,s.le s'→R (.agg #[.int .i64 D.kind,.int .i64 D.err,.int .i64 0,.slice a D.out.length c,.string x]) s') :
  QC prog w0 12 #[.pointer (some ⟨q,0,none⟩)] s R:=by
 refine wfun2 hmix ok12 func12 rfl ntmps12 results12 (by simp) ?_
 have hz:=ze41
 have hb:=h.bl
 unfold stC at hb
 have hqn:¬ q=s.next:=by have:=h.q0;omega
 have hqn1:¬ q=s.next+1:=by have:=h.q0;omega
 have hso:=h.so
 obtain⟨oa,oc,rfl⟩:∃ oa oc,ov = .slice oa D.out.length oc:=by
  rcases hso with ⟨h1,h2,h3⟩|⟨b,c,h3,_⟩
  ·have:D.out.length=0:=by simpa using h1
   exact⟨none,0,by rw[h3,this]⟩
  ·exact⟨_,_,h3⟩
 have l1:s.le ((s.new (.cells [.int .i64 0,.int .i64 0,.int .i64 0,.slice none 0 0,.string ⟨#[]⟩] 41 true)).new (.cells [.int .i64 0,.int .i64 0,.int .i64 0,.slice none 0 0,.string ⟨#[]⟩] 41 true)):=oL
 have k1:((s.new (.cells [.int .i64 0,.int .i64 0,.int .i64 0,.slice none 0 0,.string ⟨#[]⟩] 41 true)).new (.cells [.int .i64 0,.int .i64 0,.int .i64 0,.slice none 0 0,.string ⟨#[]⟩] 41 true)).at' s.next=some (.cells [.int .i64 0,.int .i64 0,.int .i64 0,.slice none 0 0,.string ⟨#[]⟩] 41 true):=by rw[aN,if_neg (by simp only[nN];omega),aN,if_pos rfl]
 have k2:((s.new (.cells [.int .i64 0,.int .i64 0,.int .i64 0,.slice none 0 0,.string ⟨#[]⟩] 41 true)).new (.cells [.int .i64 0,.int .i64 0,.int .i64 0,.slice none 0 0,.string ⟨#[]⟩] 41 true)).at' (s.next+1)=some (.cells [.int .i64 0,.int .i64 0,.int .i64 0,.slice none 0 0,.string ⟨#[]⟩] 41 true):=by rw[aN,if_pos (by simp only[nN])]
 have n1:((s.new (.cells [.int .i64 0,.int .i64 0,.int .i64 0,.slice none 0 0,.string ⟨#[]⟩] 41 true)).new (.cells [.int .i64 0,.int .i64 0,.int .i64 0,.slice none 0 0,.string ⟨#[]⟩] 41 true)).next=s.next+2:=rfl
 simp only[↓Zd,Zp,Zs,simprocAttr,HEx,TAx,hz,hb,hk,hqn,co60,ord12]
 generalize ((s.new (.cells [.int .i64 0,.int .i64 0,.int .i64 0,.slice none 0 0,.string ⟨#[]⟩] 41 true)).new (.cells [.int .i64 0,.int .i64 0,.int .i64 0,.slice none 0 0,.string ⟨#[]⟩] 41 true))=s1 at l1 k1 k2 n1 ⊢
 have h1:=h.le l1
 refine cloneStr h1.so (by have:=h.num.out;omega) (fun b hb=>(h1.o0 b hb).2.1) fun s2 ca cc l2=>?_
 have hb2:=(h1.le l2).bl
 unfold stC at hb2
 have d1:=(l2.2 s.next oM).trans k1
 have d2:=(l2.2 (s.next+1) oM).trans k2
 have n2:=l2.1
 have q01:¬ s.next=s.next+1:=oM
 have q10:¬ s.next+1=s.next:=oM
 have hsh:∀ (K:Value→St M→Prop) {s2:St M},(∀ s3 x,s2.le s3→K (.string x) s3)→QC prog w0 61 #[vA D.vk D.vn D.vx] s2 K:=fun K s2 hK=>show_spec hn fun s3 l3=>hK s3 _ l3
 by_cases hk2:D.kind=2
 ·simp only[↓Zd,Zp,Zs,simprocAttr,HEx,TAx,sz41,hb2,hk2,d2,hqn1,bOutc,co61]
  unfold vA at hsh
  refine hsh _ fun s3 x3 l3=>?_
  have e1:s3.at' s.next=some (.cells [.int .i64 0,.int .i64 0,.int .i64 0,.slice none 0 0,.string ⟨#[]⟩] 41 true):=by rw[l3.2 s.next (by simp only[nU];omega),aP,if_neg q01];exact d1
  have e2:s3.at' (s.next+1)=some (.cells [.int .i64 2,.int .i64 D.err,.int .i64 0,.slice ca D.out.length cc,.string ⟨#[]⟩] 41 true):=by rw[l3.2 (s.next+1) (by simp only[nU];omega),aP,if_pos rfl]
  have n3:=l3.1
  simp only[nU]at n3
  simp only[↓Zd,Zp,Zs,simprocAttr,TAx,underlying41,sz41,ce41,ag41,fa41x4,e1,e2,q01]
  rw[← hk2]
  refine hR _ _ _ _ ⟨?_,fun c hc=>?_⟩
  ·simp only[nU];omega
  ·rw[aP,if_neg (show ¬ c=s.next by omega),aP,if_neg (show ¬ c=s.next+1 by omega),l3.2 c (by simp only[nU];omega),aP,if_neg (show ¬ c=s.next+1 by omega),l2.2 c oM,l1.2 c hc]
 ·simp only[↓Zd,Zp,Zs,simprocAttr,HEx,TAx,underlying41,sz41,ce41,ag41,hb2,hk2,d1,d2,hqn1,q01,bOutc]
  refine hR _ _ _ _ ⟨?_,fun c hc=>?_⟩
  ·simp only[nU];omega
  ·rw[aP,if_neg (show ¬ c=s.next by omega),aP,if_neg (show ¬ c=s.next+1 by omega),l2.2 c oM,l1.2 c hc]
end
def RSx:=(aI (aI (aI (aI @underlying94 (aI @sz94 @is94)) (aI @ce94 (aI @ag94 @ze94))) (aI (aI @fa94x0 (aI @fa94x1 @fa94x2)) (aI (aI @fa94x3 @fa94x4) (aI @fa94x5 @fa94x6)))) (aI (aI (aI @fa94x7 (aI @fa94x8 @fa94x9)) (aI (aI @fa94x10 @underlying27) (aI @sz27 @is27))) (aI (aI @ce27 (aI @ag27 @ze27)) (aI (aI @nt27 @nn27) (aI @nf27 @ng27)))))
def rsC(D:StD)(p gb:Nat)(ov tv:Value):List Value:=[.pointer (some ⟨p,0,none⟩),.int .i64 D.l0,.int .i64 D.l1,.int .i64 D.l2,.int .i64 D.l3,.slice (some ⟨gb,0,none⟩) D.g.length D.g.length,.int .i64 D.fuel,.int .i64 D.taken,.int .i64 D.depth,ov,tv,.int .i64 D.kind,.int .i64 D.err,.int .i64 D.vk,.int .i64 D.vn,.string D.vx]
section
structure RSIn(lo:Nat)(s:St M)(q:Nat)(D:StD)(N:Nat)(O:Nat→Prop)(p gb:Nat)(ov tv:Value):Prop where
 heap:RHpAt lo s p D.H N O
 bl:s.at' q=some (.cells (rsC D p gb ov tv) 94 true)
 num:StN D N
 q0:lo≤q∧q<s.next∧¬ O q
 g0:lo≤gb∧gb<s.next∧¬ O gb∧gb≠q
 gl:s.at' gb=some (.cells (D.g.flatMap val3) 31 true)
 so:SlC 9 1 s ov (D.out.map .string) D.out.length
 st:SlC 3 1 s tv (D.tch.map (.int .i64)) D.tch.length
 o0:∀ b,blkOf ov=some b→lo≤b∧b<s.next∧¬ O b∧b≠q∧b≠gb
 t0:∀ b,blkOf tv=some b→lo≤b∧b<s.next∧¬ O b∧b≠q∧b≠gb∧blkOf ov≠some b
def RSAt(lo:Nat)(s:St M)(q:Nat)(N:Nat)(W:Nat→Prop):Prop:=∃ D O p gb ov tv,RSIn lo s q D N O p gb ov tv∧W=ownS q gb ov tv O
variable {lo q N p gb:Nat}{D:StD}{O:Nat→Prop}{ov tv:Value}
theorem RSIn.same{s':St M}(h:RSIn lo s q D N O p gb ov tv)(hn:s.next≤s'.next)(hs:∀ b,ownS q gb ov tv O b→s'.at' b=s.at' b):RSIn lo s' q D N O p gb ov tv:=by
 obtain⟨a1,a2,a3,a4,a5,a6,a7,a8,a9,a10⟩:=h
 refine⟨a1.same hn fun c hc=>hs c (.inr (.inr (.inr (.inr hc)))),(hs q (.inl rfl)).trans a2,a3,⟨a4.1,oM,a4.2.2⟩,⟨a5.1,oM,a5.2.2⟩,(hs gb (.inr (.inl rfl))).trans a6,slc_to a7 fun b hb=>hs b (.inr (.inr (.inl hb))),slc_to a8 fun b hb=>hs b (.inr (.inr (.inr (.inl hb)))),fun b hb=>?_,fun b hb=>?_⟩
 ·have:=a9 b hb;exact⟨this.1,oM,this.2.2⟩
 ·have:=a10 b hb;exact⟨this.1,oM,this.2.2⟩
theorem RSIn.own(h:RSIn lo s q D N O p gb ov tv):∀ b,ownS q gb ov tv O b→lo≤b∧b<s.next:=by
 rintro b (rfl|rfl|hb|hb|hb)
 ·exact⟨h.q0.1,h.q0.2.1⟩
 ·exact⟨h.g0.1,h.g0.2.1⟩
 ·have:=h.o0 b hb;exact⟨this.1,this.2.1⟩
 ·have:=h.t0 b hb;exact⟨this.1,this.2.1⟩
 ·exact h.heap.own b hb
theorem RSIn.le{s':St M}(h:RSIn lo s q D N O p gb ov tv)(hs:s.le s'):RSIn lo s' q D N O p gb ov tv:=h.same hs.1 fun b hb=>hs.2 b (h.own b hb).2
theorem RSIn.mono{N':Nat}(h:RSIn lo s q D N O p gb ov tv)(hN:N≤N'):RSIn lo s q D N' O p gb ov tv:=by
 obtain⟨a1,a2,a3,a4,a5,a6,a7,a8,a9,a10⟩:=h
 exact⟨a1.mono hN,a2,a3.mono hN,a4,a5,a6,a7,a8,a9,a10⟩
theorem RSIn.heaped{s':St M}{H':Hp}{N':Nat}{O':Nat→Prop}(h:RSIn lo s q D N O p gb ov tv)(hN:N≤N')(hH:RHpAt lo s' p H' N' O')(hU:Upd s s' O O'):RSIn lo s' q { D with H:=H' } N' O' p gb ov tv∧Upd s s' (ownS q gb ov tv O) (ownS q gb ov tv O'):=by
 obtain⟨a1,a2,a3,a4,a5,a6,a7,a8,a9,a10⟩:=h
 have hn:=hU.next
 have hO':∀ b,b<s.next→¬ O b→¬ O' b:=fun b hb hb2 hb3=>by rcases hU.own b hb3 with h|h;exact hb2 h;omega
 have a3:=a3.mono hN
 refine⟨⟨hH,(hU.keep q a4.2.1 a4.2.2).trans a2,⟨a3.fuel,a3.depth,a3.lim,a3.out,a3.tch,a3.glob,a3.n⟩,⟨a4.1,oM,hO' q a4.2.1 a4.2.2⟩,⟨a5.1,oM,hO' gb a5.2.1 a5.2.2.1,a5.2.2.2⟩,(hU.keep gb a5.2.1 a5.2.2.1).trans a6,slc_to a7 fun b hb=>hU.keep b (a9 b hb).2.1 (a9 b hb).2.2.1,slc_to a8 fun b hb=>hU.keep b (a10 b hb).2.1 (a10 b hb).2.2.1,fun b hb=>?_,fun b hb=>?_⟩,hn,fun b hb ho=>hU.keep b hb fun h=>ho (.inr (.inr (.inr (.inr h)))),?_⟩
 ·have:=a9 b hb;exact⟨this.1,oM,hO' b this.2.1 this.2.2.1,this.2.2.2⟩
 ·have:=a10 b hb;exact⟨this.1,oM,hO' b this.2.1 this.2.2.1,this.2.2.2⟩
 ·rintro b (hb|hb|hb|hb|hb)
  ·exact .inl (.inl hb)
  ·exact .inl (.inr (.inl hb))
  ·exact .inl (.inr (.inr (.inl hb)))
  ·exact .inl (.inr (.inr (.inr (.inl hb))))
  ·rcases hU.own b hb with h|h
   ·exact .inl (.inr (.inr (.inr (.inr h))))
   ·exact .inr h
theorem RSIn.puts{s':St M}{D':StD}(h:RSIn lo s q D N O p gb ov tv)(hn:s.next≤s'.next)(hq:s'.at' q=some (.cells (rsC D' p gb ov tv) 94 true))(hk:∀ b,b<s.next→b≠q→s'.at' b=s.at' b)(hH:D'.H=D.H)(hg:D'.g=D.g)(ho:D'.out=D.out)(ht:D'.tch=D.tch)(hN:StN D' N):RSIn lo s' q D' N O p gb ov tv∧Upd s s' (ownS q gb ov tv O) (ownS q gb ov tv O):=by
 have hown:=h.own
 obtain⟨a1,a2,a3,a4,a5,a6,a7,a8,a9,a10⟩:=h
 refine⟨⟨by rw[hH];exact a1.same hn fun c hc=>hk c (a1.own c hc).2 fun e=>a4.2.2 (e▸hc),hq,hN,⟨a4.1,oM,a4.2.2⟩,⟨a5.1,oM,a5.2.2⟩,by rw[hg];exact (hk gb a5.2.1 a5.2.2.2).trans a6,by rw[ho];exact slc_to a7 fun b hb=>hk b (a9 b hb).2.1 (a9 b hb).2.2.2.1,by rw[ht];exact slc_to a8 fun b hb=>hk b (a10 b hb).2.1 (a10 b hb).2.2.2.1,fun b hb=>?_,fun b hb=>?_⟩,hn,fun b hb ho=>hk b hb fun e=>ho (.inl e),fun b hb => .inl hb⟩
 ·have:=a9 b hb;exact⟨this.1,oM,this.2.2⟩
 ·have:=a10 b hb;exact⟨this.1,oM,this.2.2⟩
theorem RSIn.putG{s':St M}{g':List (Int×Int×ByteArray)}(h:RSIn lo s q D N O p gb ov tv)(hn:s.next≤s'.next)(hl:g'.length=D.g.length)(hg:s'.at' gb=some (.cells (g'.flatMap val3) 31 true))(hk:∀ b,b<s.next→b≠gb→s'.at' b=s.at' b):RSIn lo s' q { D with g:=g' } N O p gb ov tv∧Upd s s' (ownS q gb ov tv O) (ownS q gb ov tv O):=by
 obtain⟨a1,a2,a3,a4,a5,a6,a7,a8,a9,a10⟩:=h
 refine⟨⟨a1.same hn fun c hc=>hk c (a1.own c hc).2 fun e=>a5.2.2.1 (e▸hc),?_,⟨a3.fuel,a3.depth,a3.lim,a3.out,a3.tch,by rw[hl];exact a3.glob,a3.n⟩,⟨a4.1,oM,a4.2.2⟩,⟨a5.1,oM,a5.2.2⟩,hg,slc_to a7 fun b hb=>hk b (a9 b hb).2.1 (a9 b hb).2.2.2.2,slc_to a8 fun b hb=>hk b (a10 b hb).2.1 (a10 b hb).2.2.2.2.1,fun b hb=>?_,fun b hb=>?_⟩,hn,fun b hb ho=>hk b hb fun e=>ho (.inr (.inl e)),fun b hb => .inl hb⟩
 ·rw[hk q a4.2.1 (Ne.symm a5.2.2.2),a2]
  unfold rsC
  simp only[hl]
 ·have:=a9 b hb;exact⟨this.1,oM,this.2.2⟩
 ·have:=a10 b hb;exact⟨this.1,oM,this.2.2⟩
theorem RSIn.outs{s':St M}{x:ByteArray}{b:Nat}(h:RSIn lo s q D N O p gb ov tv)(hn:s.next≤b∧b<s'.next)(hb:s'.at' b=some (.cells ((D.out ++ [x]).map .string) 9 true))(hq:s'.at' q=some (.cells (rsC { D with out:=D.out ++ [x] } p gb (.slice (some ⟨b,0,none⟩) (D.out.length+1) UNK) tv) 94 true))(hk:∀ c,c<s.next→c≠q→blkOf ov≠some c→s'.at' c=s.at' c):RSIn lo s' q { D with out:=D.out ++ [x] } (N+1) O p gb (.slice (some ⟨b,0,none⟩) (D.out.length+1) UNK) tv∧Upd s s' (ownS q gb ov tv O) (ownS q gb (.slice (some ⟨b,0,none⟩) (D.out.length+1) UNK) tv O):=by
 obtain⟨a1,a2,a3,a4,a5,a6,a7,a8,a9,a10⟩:=h
 have e0:blkOf (.slice (some ⟨b,0,none⟩) (D.out.length+1) UNK)=some b:=rfl
 refine⟨⟨(a1.same oM fun c hc=>hk c (a1.own c hc).2 (fun e=>a4.2.2 (e▸hc)) fun e=>(a9 c e).2.2.1 hc).mono oM,hq,⟨a3.fuel,a3.depth,a3.lim,by rw[List.length_append];have:=a3.out;simp;omega,by have:=a3.tch;show D.tch.length≤_;omega,a3.glob,by have:=a3.n;omega⟩,⟨a4.1,oM,a4.2.2⟩,⟨a5.1,oM,a5.2.2⟩,(hk gb a5.2.1 a5.2.2.2 fun e=>(a9 gb e).2.2.2.2 rfl).trans a6,?_,slc_to a8 fun c hc=>hk c (a10 c hc).2.1 (a10 c hc).2.2.2.1 (a10 c hc).2.2.2.2.2,fun c hc=>?_,fun c hc=>?_⟩,oM,fun c hc ho=>hk c hc (fun e=>ho (.inl e)) fun e=>ho (.inr (.inr (.inl e))),?_⟩
 ·refine .inr ⟨b,UNK,by simp,.inl rfl,hb,by simp⟩
 ·rw[e0]at hc
  cases hc
  refine⟨oM,hn.2,fun hc=>?_,oM,oM⟩
  have:=(a1.own b hc).2;omega
 ·have:=a10 c hc
  rw[e0]
  exact⟨this.1,oM,this.2.2.1,this.2.2.2.1,this.2.2.2.2.1,fun e=>by cases e;omega⟩
 ·rintro c (hc|hc|hc|hc|hc)
  ·exact .inl (.inl hc)
  ·exact .inl (.inr (.inl hc))
  ·rw[e0]at hc;cases hc;exact .inr hn.1
  ·exact .inl (.inr (.inr (.inr (.inl hc))))
  ·exact .inl (.inr (.inr (.inr (.inr hc))))
theorem RSIn.tchs{s':St M}{x:Int}{b:Nat}(h:RSIn lo s q D N O p gb ov tv)(hn:s.next≤b∧b<s'.next)(hb:s'.at' b=some (.cells ((D.tch ++ [x]).map (.int .i64)) 3 true))(hq:s'.at' q=some (.cells (rsC { D with tch:=D.tch ++ [x] } p gb ov (.slice (some ⟨b,0,none⟩) (D.tch.length+1) UNK)) 94 true))(hk:∀ c,c<s.next→c≠q→blkOf tv≠some c→s'.at' c=s.at' c):RSIn lo s' q { D with tch:=D.tch ++ [x] } (N+1) O p gb ov (.slice (some ⟨b,0,none⟩) (D.tch.length+1) UNK)∧Upd s s' (ownS q gb ov tv O) (ownS q gb ov (.slice (some ⟨b,0,none⟩) (D.tch.length+1) UNK) O):=by
 obtain⟨a1,a2,a3,a4,a5,a6,a7,a8,a9,a10⟩:=h
 have e0:blkOf (.slice (some ⟨b,0,none⟩) (D.tch.length+1) UNK)=some b:=rfl
 refine⟨⟨(a1.same oM fun c hc=>hk c (a1.own c hc).2 (fun e=>a4.2.2 (e▸hc)) fun e=>(a10 c e).2.2.1 hc).mono oM,hq,⟨a3.fuel,a3.depth,a3.lim,by have:=a3.out;show D.out.length≤_;omega,by rw[List.length_append];have:=a3.tch;simp;omega,a3.glob,by have:=a3.n;omega⟩,⟨a4.1,oM,a4.2.2⟩,⟨a5.1,oM,a5.2.2⟩,(hk gb a5.2.1 a5.2.2.2 fun e=>(a10 gb e).2.2.2.2.1 rfl).trans a6,slc_to a7 fun c hc=>hk c (a9 c hc).2.1 (a9 c hc).2.2.2.1 fun e=>(a10 c e).2.2.2.2.2 hc,?_,fun c hc=>?_,fun c hc=>?_⟩,oM,fun c hc ho=>hk c hc (fun e=>ho (.inl e)) fun e=>ho (.inr (.inr (.inr (.inl e)))),?_⟩
 ·refine .inr ⟨b,UNK,by simp,.inl rfl,hb,by simp⟩
 ·have:=a9 c hc;exact⟨this.1,oM,this.2.2⟩
 ·rw[e0]at hc
  cases hc
  refine⟨oM,hn.2,fun hc=>?_,oM,oM,fun e=>?_⟩
  ·have:=(a1.own b hc).2;omega
  ·have:=(a9 b e).2.1;omega
 ·rintro c (hc|hc|hc|hc|hc)
  ·exact .inl (.inl hc)
  ·exact .inl (.inr (.inl hc))
  ·exact .inl (.inr (.inr (.inl hc)))
  ·rw[e0]at hc;cases hc;exact .inr hn.1
  ·exact .inl (.inr (.inr (.inr (.inr hc))))
theorem RSIn.loc{s2:St M}{A:Nat→Prop}{c:Nat}{B:Blk}(h:RSIn lo s2 q D N O p gb ov tv)(hU:Upd s s2 A (ownS q gb ov tv O))(hc:s.next≤c)(hA:¬ ownS q gb ov tv O c):RSIn lo (s2.put c B) q D N O p gb ov tv∧Upd s (s2.put c B) A (ownS q gb ov tv O):=
 ⟨h.same (Nat.le_refl _) fun b hb=>by rw[aP,if_neg (fun e:b=c=>hA (e▸hb))],hU.next,fun b hb ho=>by rw[aP,if_neg oM];exact hU.keep b hb ho,hU.own⟩
theorem RSIn.fresh(h:RSIn lo s q D N O p gb ov tv){c:Nat}(hc:s.next≤c):¬ ownS q gb ov tv O c:=fun hb=>by have:=(h.own c hb).2;omega
theorem RSAt.own{W:Nat→Prop}(h:RSAt lo s q N W):∀ b,W b→lo≤b∧b<s.next:=by
 obtain⟨D,O,p,gb,ov,tv,h,rfl⟩:=h
 exact h.own
theorem RSAt.le{W:Nat→Prop}{s':St M}(h:RSAt lo s q N W)(hs:s.le s'):RSAt lo s' q N W:=by
 obtain⟨D,O,p,gb,ov,tv,h,rfl⟩:=h
 exact⟨D,O,p,gb,ov,tv,h.le hs,rfl⟩
theorem RSAt.same{W:Nat→Prop}{s':St M}(h:RSAt lo s q N W)(hn:s.next≤s'.next)(hs:∀ b,W b→s'.at' b=s.at' b):RSAt lo s' q N W:=by
 obtain⟨D,O,p,gb,ov,tv,h,rfl⟩:=h
 exact⟨D,O,p,gb,ov,tv,h.same hn hs,rfl⟩
theorem RSAt.mono{W:Nat→Prop}{N':Nat}(h:RSAt lo s q N W)(hN:N≤N'):RSAt lo s q N' W:=by
 obtain⟨D,O,p,gb,ov,tv,h,rfl⟩:=h
 exact⟨D,O,p,gb,ov,tv,h.mono hN,rfl⟩
theorem RSAt.fresh{W:Nat→Prop}(h:RSAt lo s q N W){c:Nat}(hc:s.next≤c):¬ W c:=fun hb=>by have:=(h.own c hb).2;omega
theorem RSIn.to{W:Nat→Prop}(h:RSIn lo s q D N O p gb ov tv)(hW:W=ownS q gb ov tv O):RSAt lo s q N W:=⟨D,O,p,gb,ov,tv,h,hW⟩
theorem RSAt.loc{s2:St M}{W A:Nat→Prop}{c:Nat}{B:Blk}(h:RSAt lo s2 q N W)(hU:Upd s s2 A W)(hc:s.next≤c)(hA:¬ W c):RSAt lo (s2.put c B) q N W∧Upd s (s2.put c B) A W:=
 ⟨h.same (Nat.le_refl _) fun b hb=>by rw[aP,if_neg (fun e:b=c=>hA (e▸hb))],hU.next,fun b hb ho=>by rw[aP,if_neg oM];exact hU.keep b hb ho,hU.own⟩
end
section
variable {lo q N p gb:Nat}{D:StD}{O W:Nat→Prop}{ov tv:Value}
theorem RSIn.nums{s':St M}{D':StD}(h:RSIn lo s q D N O p gb ov tv)(hn:s.next≤s'.next)(hq:s'.at' q=some (.cells (rsC D' p gb ov tv) 94 true))(hk:∀ b,b<s.next→b≠q→s'.at' b=s.at' b)(hH:D'.H=D.H)(hg:D'.g=D.g)(ho:D'.out=D.out)(ht:D'.tch=D.tch)(hN:StN D' N):RSAt lo s' q N (ownS q gb ov tv O)∧Upd s s' (ownS q gb ov tv O) (ownS q gb ov tv O):=
 let ⟨a,b⟩:=h.puts hn hq hk hH hg ho ht hN
 ⟨a.to rfl,b⟩
theorem rsend_spec{k e:Int}(h:RSAt lo s q N W)(hR:∀ s',RSAt lo s' q N W→Upd s s' W W→R (.tuple #[]) s') :
  QC prog w0 101 #[.pointer (some ⟨q,0,none⟩),.int .i64 k,.int .i64 e] s R:=by
 refine wfun2 hmix ok101 func101 rfl ntmps101 results101 (by simp) ?_
 obtain⟨D,O,p,gb,ov,tv,h,rfl⟩:=h
 have hb:=h.bl
 unfold rsC at hb
 by_cases hk:D.kind=0
 ·simp only[↓Zd,Zp,Zs,simprocAttr,HEx,RSx,hb,hk]
  refine (fun (H:_∧_)=>hR _ H.1 H.2) (h.nums (D':={ D with kind:=k,err:=e }) ?_ ?_ ?_ rfl rfl rfl rfl ⟨h.num.fuel,h.num.depth,h.num.lim,h.num.out,h.num.tch,h.num.glob,h.num.n⟩)
  ·simp only[nU];omega
  ·simp only[aP,if_true];rfl
  ·intro b hb2 hb3
   simp only[aP,hb3,if_false]
 ·simp only[↓Zd,Zp,simprocAttr,cld2,HEx,RSx,hb,hk]
  exact hR _ (h.to rfl) .refl
theorem rsneed_spec{e:Int}(h:RSAt lo s q N W)(hR:∀ s' b,RSAt lo s' q N W→Upd s s' W W→R (.bool b) s') :
  QC prog w0 108 #[.pointer (some ⟨q,0,none⟩),.int .i64 e] s R:=by
 refine wfun2 hmix ok108 func108 rfl ntmps108 results108 (by simp) ?_
 by_cases h1:(40:Int)≤e
 ·simp only[↓Zd,Zp,simprocAttr,h1,co101]
  refine rsend_spec h fun s1 h1 u1=>?_
  obtain⟨D,O,p,gb,ov,tv,hin,rfl⟩:=id h1
  have hb:=hin.bl
  unfold rsC at hb
  simp only[↓Zd,Zp,simprocAttr,cld2,HEx,RSx,hb]
  exact hR _ _ h1 u1
 ·by_cases h2:e=0
  ·obtain⟨D,O,p,gb,ov,tv,hin,rfl⟩:=id h
   have hb:=hin.bl
   unfold rsC at hb
   simp only[↓Zd,Zp,simprocAttr,cld2,HEx,RSx,h2,hb]
   exact hR _ _ h .refl
  ·simp only[↓Zd,Zp,simprocAttr,h1,h2,co101]
   refine rsend_spec h fun s1 h1 u1=>?_
   obtain⟨D,O,p,gb,ov,tv,hin,rfl⟩:=id h1
   have hb:=hin.bl
   unfold rsC at hb
   simp only[↓Zd,Zp,simprocAttr,cld2,HEx,RSx,hb]
   exact hR _ _ h1 u1
theorem rsmust_spec{so:Bool}(h:RSAt lo s q N W)(hR:∀ s' b,RSAt lo s' q N W→Upd s s' W W→R (.bool b) s') :
  QC prog w0 104 #[.pointer (some ⟨q,0,none⟩),.bool so] s R:=by
 refine wfun2 hmix ok104 func104 rfl ntmps104 results104 (by simp) ?_
 obtain⟨D,O,p,gb,ov,tv,hin,rfl⟩:=id h
 have hb:=hin.bl
 unfold rsC at hb
 by_cases hk:D.kind=0
 ·cases so with
  |true =>
   simp only[↓Zd,Zp,simprocAttr,cld2,HEx,RSx,hb,hk]
   exact hR _ _ h .refl
  |false =>
   simp only[↓Zd,Zp,simprocAttr,cld2,HEx,RSx,hb,hk,co108]
   refine rsneed_spec h fun s1 b1 h1 u1=>?_
   obtain⟨D1,O1,p1,gb1,ov1,tv1,hin1,hW1⟩:=id h1
   have hb1:=hin1.bl
   unfold rsC at hb1
   simp only[↓Zd,Zp,simprocAttr,cld2,HEx,RSx,hb1]
   exact hR _ _ h1 u1
 ·simp only[↓Zd,Zp,simprocAttr,cld2,HEx,RSx,hb,hk]
  exact hR _ _ h .refl
theorem rsmade_spec{e vk vn:Int}{vx:ByteArray}(h:RSAt lo s q N W)(hR:∀ s' a b x t,RSAt lo s' q N W→Upd s s' W W→R (.tuple #[vA a b x,.bool t]) s') :
  QC prog w0 103 #[.pointer (some ⟨q,0,none⟩),vA vk vn vx,.int .i64 e] s R:=by
 refine wfun2 hmix ok103 func103 rfl ntmps103 results103 (by simp) ?_
 have l1:s.le ((s.new (.cells [.int .i64 vk,.int .i64 vn,.string vx] 31 true)).new (.cells [.int .i64 0,.int .i64 0,.string ⟨#[]⟩] 31 true)):=oL
 have k1:((s.new (.cells [.int .i64 vk,.int .i64 vn,.string vx] 31 true)).new (.cells [.int .i64 0,.int .i64 0,.string ⟨#[]⟩] 31 true)).at' s.next=some (.cells [.int .i64 vk,.int .i64 vn,.string vx] 31 true):=by rw[aN,if_neg (by simp only[nN];omega),aN,if_pos rfl]
 have k2:((s.new (.cells [.int .i64 vk,.int .i64 vn,.string vx] 31 true)).new (.cells [.int .i64 0,.int .i64 0,.string ⟨#[]⟩] 31 true)).at' (s.next+1)=some (.cells [.int .i64 0,.int .i64 0,.string ⟨#[]⟩] 31 true):=by rw[aN,if_pos (by simp only[nN])]
 have h1:=h.le l1
 obtain⟨D,O,p,gb,ov,tv,hin,hW⟩:=id h1
 have hb:=hin.bl
 unfold rsC at hb
 by_cases hk:D.kind=0
 ·simp only[↓Zd,Zp,Zs,simprocAttr,HEx,RSx,vA,hb,hk,co108]
  refine rsneed_spec h1 fun s2 b2 h2 u2=>?_
  have n2:=u2.next
  simp only[nN]at n2
  have u12:=(Upd.of_le l1).trans u2
  have f1:=h.fresh (Nat.le_refl _)
  have f2:=h.fresh (c:=s.next+1) oM
  have k12:=(u2.keep s.next (by simp only[nN];omega) f1).trans k1
  have k22:=(u2.keep (s.next+1) (by simp only[nN];omega) f2).trans k2
  cases b2 with
  |false =>
   simp only[↓Zd,Zp,Zs,simprocAttr,HEx,vA,k22]
   obtain⟨a,b⟩:=h2.loc (c:=s.next+1) u12 oM f2
   exact hR _ _ _ _ _ a b
  |true =>
   simp only[↓Zd,Zp,Zs,simprocAttr,HEx,vA,k12,k22]
   obtain⟨a,b⟩:=h2.loc (c:=s.next+1) u12 oM f2
   exact hR _ _ _ _ _ a b
 ·simp only[↓Zd,Zp,Zs,simprocAttr,HEx,RSx,vA,hb,hk,k2]
  obtain⟨a,b⟩:=h1.loc (c:=s.next+1) (Upd.of_le l1) oM (h.fresh oM)
  exact hR _ _ _ _ _ a b
theorem rstick_spec{n:Int}(h:RSAt lo s q N W)(hn : -9223372036854775808≤n∧n≤9223372036854775807)(hR:∀ s' b,RSAt lo s' q N W→Upd s s' W W→R (.bool b) s') :
  QC prog w0 41 #[.pointer (some ⟨q,0,none⟩),.int .i64 n] s R:=by
 refine wfun2 hmix ok41 func41 rfl ntmps41 results41 (by simp) ?_
 obtain⟨D,O,p,gb,ov,tv,hin,rfl⟩:=id h
 have hb:=hin.bl
 unfold rsC at hb
 have hf:=hin.num.fuel
 by_cases hk:D.kind=0
 case neg =>
  simp only[↓Zd,Zp,simprocAttr,cld2,HEx,RSx,hb,hk]
  exact hR _ _ h .refl
 have w1:IntKind.i64.wrap (D.fuel - D.taken)=D.fuel - D.taken:=wrap_i64 oM
 by_cases h1:D.fuel - D.taken<n
 ·simp only[↓Zd,Zp,Zs,simprocAttr,HEx,RSx,hb,hk,w1,h1,co101,ord41]
  obtain⟨a,b⟩:=hin.nums (s':=s.put q (.cells (rsC { D with taken:=D.fuel,kind:=0 } p gb ov tv) 94 true)) (D':={ D with taken:=D.fuel,kind:=0 }) (by simp only[nU];omega) (by simp only[aP,if_true]) (fun b hb2 hb3=>by simp only[aP,hb3,if_false]) rfl rfl rfl rfl ⟨by show 0≤D.fuel∧D.fuel≤D.fuel∧D.fuel≤1048576;omega,hin.num.depth,hin.num.lim,hin.num.out,hin.num.tch,hin.num.glob,hin.num.n⟩
  refine rsend_spec a fun s2 h2 u2=>?_
  simp only[↓Zd,Zp,simprocAttr,HEx]
  exact hR _ _ h2 (b.trans u2)
 ·by_cases h2:0<n
  ·have w2:IntKind.i64.wrap (D.taken+n)=D.taken+n:=wrap_i64 oM
   simp only[↓Zd,Zp,Zs,simprocAttr,HEx,RSx,hb,hk,w1,w2,h1,h2,ord41]
   obtain⟨a,b⟩:=hin.nums (s':=s.put q (.cells (rsC { D with taken:=D.taken+n,kind:=0 } p gb ov tv) 94 true)) (D':={ D with taken:=D.taken+n,kind:=0 }) (by simp only[nU];omega) (by simp only[aP,if_true]) (fun b hb2 hb3=>by simp only[aP,hb3,if_false]) rfl rfl rfl rfl ⟨by show 0≤D.taken+n∧D.taken+n≤D.fuel∧D.fuel≤1048576;omega,hin.num.depth,hin.num.lim,hin.num.out,hin.num.tch,hin.num.glob,hin.num.n⟩
   exact hR _ _ a b
  ·simp only[↓Zd,Zp,simprocAttr,cld2,HEx,RSx,hb,hk,w1,h1,h2,ord41]
   exact hR _ _ h .refl
theorem rsglob_spec{i:Int}(h:RSAt lo s q N W)(hR:∀ s' a b x,s.le s'→R (vA a b x) s') :
  QC prog w0 116 #[.pointer (some ⟨q,0,none⟩),.int .i64 i] s R:=by
 refine wfun2 hmix ok116 func116 rfl ntmps116 results116 (by simp) ?_
 obtain⟨D,O,p,gb,ov,tv,hin,rfl⟩:=id h
 have hb:=hin.bl
 have hgl:=hin.gl
 have hq1:¬ q=s.next:=by have:=hin.q0.2.1;omega
 have hg1:¬ gb=s.next:=by have:=hin.g0.2.1;omega
 have hlg:=hin.num.glob
 unfold rsC at hb
 unfold vA at hR
 by_cases hk:D.kind=0
 case neg =>
  simp only[↓Zd,Zp,Zs,simprocAttr,HEx,RSx,hb,hk,hq1]
  exact hR _ _ _ _ oL
 by_cases h1:i<0
 ·simp only[↓Zd,Zp,Zs,simprocAttr,HEx,RSx,hb,hk,h1,hq1]
  exact hR _ _ _ _ oL
 obtain⟨k,rfl⟩:∃ k:Nat,i=(k:Int):=⟨i.toNat,oM⟩
 by_cases h2:(D.g.length:Int)≤(k:Int)
 ·simp only[↓Zd,Zp,Zs,simprocAttr,HEx,RSx,hb,hk,h1,h2,hq1]
  exact hR _ _ _ _ oL
 ·have hk2:D.g[k]?=some D.g[k]:=List.getElem?_eq_getElem oM
  obtain⟨c1,c2⟩:=val3_cut hk2
  have hkk:(0:Int)≤(k:Int)∧(k:Int)<(D.g.length:Int):=oM
  simp only[↓Zd,Zp,Zs,simprocAttr,HEx,RSx,hb,hgl,hk,h1,h2,hq1,hg1,hkk,c1,c2]
  exact hR _ _ _ _ oL
theorem rssetg_spec{i vk vn:Int}{vx:ByteArray}(h:RSAt lo s q N W)(hR:∀ s' b,RSAt lo s' q N W→Upd s s' W W→R (.bool b) s') :
  QC prog w0 117 #[.pointer (some ⟨q,0,none⟩),.int .i64 i,vA vk vn vx] s R:=by
 refine wfun2 hmix ok117 func117 rfl ntmps117 results117 (by simp) ?_
 have l1:s.le (s.new (.cells [.int .i64 vk,.int .i64 vn,.string vx] 31 true)):=lN (lR _)
 have h1:=h.le l1
 have u1:Upd s (s.new (.cells [.int .i64 vk,.int .i64 vn,.string vx] 31 true)) W W := .of_le l1
 obtain⟨D,O,p,gb,ov,tv,hin,rfl⟩:=id h
 have hb:=hin.bl
 have hgl:=hin.gl
 have hg0:=hin.g0
 have hq1:¬ q=s.next:=by have:=hin.q0.2.1;omega
 have hg1:¬ gb=s.next:=oM
 have hlg:=hin.num.glob
 unfold rsC at hb
 by_cases hk:D.kind=0
 case neg =>
  simp only[↓Zd,Zp,Zs,simprocAttr,HEx,RSx,vA,hb,hk,hq1]
  exact hR _ _ h1 u1
 by_cases r1:i<0
 ·simp only[↓Zd,Zp,Zs,simprocAttr,HEx,RSx,vA,hb,hk,hq1,r1]
  exact hR _ _ h1 u1
 obtain⟨k,rfl⟩:∃ k:Nat,i=(k:Int):=⟨i.toNat,oM⟩
 by_cases r2:(D.g.length:Int)≤(k:Int)
 ·simp only[↓Zd,Zp,Zs,simprocAttr,HEx,RSx,vA,hb,hk,hq1,r1,r2]
  exact hR _ _ h1 u1
 ·have hk2:D.g[k]?=some D.g[k]:=List.getElem?_eq_getElem oM
  obtain⟨c1,c2⟩:=val3_cut hk2
  have c3:=val3_set (vk,vn,vx) (show k<D.g.length by omega)
  simp only at c3
  have hkk:(0:Int)≤(k:Int)∧(k:Int)<(D.g.length:Int):=oM
  simp only[↓Zd,Zp,Zs,simprocAttr,HEx,RSx,vA,hb,hk,r1,r2,hgl,hq1,hg1,hkk,c1,ord117]
  refine (fun (H:_∧_)=>hR _ _ (H.1.to rfl) H.2) (hin.putG (g':=D.g.set k (vk,vn,vx)) ?_ (by rw[List.length_set]) ?_ ?_)
  ·simp only[Sn];omega
  ·rw[aP,if_pos rfl,← c3]
   rfl
  ·intro b hb2 hb3
   rw[aP,if_neg hb3,aN,if_neg oM]
theorem rsenter_spec{k n:Int}{y:ByteArray}(h:RSAt lo s q N W)(hR:∀ s' b,RSAt lo s' q N W→Upd s s' W W→R (.bool b) s') :
  QC prog w0 118 #[.pointer (some ⟨q,0,none⟩),vA k n y] s R:=by
 refine wfun2 hmix ok118 func118 rfl ntmps118 results118 (by simp) ?_
 have l1:s.le (s.new (.cells [.int .i64 k,.int .i64 n,.string y] 31 true)):=lN (lR _)
 have h1:=h.le l1
 simp only[↓Zd,Zp,Zs,simprocAttr,HEx,vA,co104]
 refine rsmust_spec h1 fun s2 b2 h2 u2=>?_
 have u12:=(Upd.of_le l1).trans u2
 cases b2 with
 |false =>
  simp only[↓Zd,Zp,simprocAttr,HEx,vA]
  exact hR _ _ h2 u12
 |true =>
  obtain⟨D,O,p,gb,ov,tv,hin,rfl⟩:=id h2
  have hb:=hin.bl
  unfold rsC at hb
  have hnum:=hin.num
  by_cases hd:D.l1≤D.depth
  ·simp only[↓Zd,Zp,simprocAttr,cld2,HEx,TAx,RSx,vA,hb,hd,co108,ord118]
   refine rsneed_spec h2 fun s3 b3 h3 u3=>?_
   simp only[↓Zd,Zp,simprocAttr,HEx]
   exact hR _ _ h3 (u12.trans u3)
  ·have w1:IntKind.i64.wrap (D.depth+1)=D.depth+1:=by rw[wrap_i64 (by have:=hnum.depth;omega)]
   simp only[↓Zd,Zp,Zs,simprocAttr,HEx,TAx,RSx,vA,hb,hd,w1,ord118]
   refine (fun (H:_∧_)=>hR _ _ H.1 (u12.trans H.2)) (hin.nums (D':={ D with depth:=D.depth+1 }) ?_ ?_ ?_ rfl rfl rfl rfl ⟨hnum.fuel,by have:=hnum.depth;have:=hnum.lim;show 0≤D.depth+1∧D.depth+1≤1000000;omega,hnum.lim,hnum.out,hnum.tch,hnum.glob,hnum.n⟩)
   ·simp only[nU];omega
   ·simp only[aP,if_true];rfl
   ·intro b hb2 hb3
    simp only[aP,hb3,if_false]
theorem rsleave_spec(h:RSAt lo s q N W)(hR:∀ s',RSAt lo s' q N W→Upd s s' W W→R (.tuple #[]) s') :
  QC prog w0 120 #[.pointer (some ⟨q,0,none⟩)] s R:=by
 refine wfun2 hmix ok120 func120 rfl ntmps120 results120 (by simp) ?_
 obtain⟨D,O,p,gb,ov,tv,hin,rfl⟩:=id h
 have hb:=hin.bl
 unfold rsC at hb
 have hnum:=hin.num
 by_cases hk:D.kind=0
 case neg =>
  simp only[↓Zd,Zp,simprocAttr,cld2,HEx,RSx,hb,hk]
  exact hR _ h .refl
 by_cases hd:0<D.depth
 ·have w1:IntKind.i64.wrap (D.depth - 1)=D.depth - 1:=by rw[wrap_i64 (by have:=hnum.depth;omega)]
  simp only[↓Zd,Zp,Zs,simprocAttr,HEx,RSx,hb,hk,hd,w1]
  refine (fun (H:_∧_)=>hR _ H.1 H.2) (hin.nums (D':={ D with depth:=D.depth - 1,kind:=0 }) ?_ ?_ ?_ rfl rfl rfl rfl ⟨hnum.fuel,by have:=hnum.depth;show 0≤D.depth - 1∧D.depth - 1≤1000000;omega,hnum.lim,hnum.out,hnum.tch,hnum.glob,hnum.n⟩)
  ·simp only[nU];omega
  ·simp only[aP,if_true];rfl
  ·intro b hb2 hb3
   simp only[aP,hb3,if_false]
 ·simp only[↓Zd,Zp,simprocAttr,cld2,HEx,RSx,hb,hk,hd]
  exact hR _ h .refl
theorem rsfin_spec{vk vn:Int}{vx:ByteArray}(h:RSAt lo s q N W)(hR:∀ s',RSAt lo s' q N W→Upd s s' W W→R (.tuple #[]) s') :
  QC prog w0 121 #[.pointer (some ⟨q,0,none⟩),vA vk vn vx] s R:=by
 refine wfun2 hmix ok121 func121 rfl ntmps121 results121 (by simp) ?_
 have l1:s.le (s.new (.cells [.int .i64 vk,.int .i64 vn,.string vx] 31 true)):=lN (lR _)
 have h1:=h.le l1
 obtain⟨D,O,p,gb,ov,tv,hin,rfl⟩:=id h
 have hb:=hin.bl
 unfold rsC at hb
 have hnum:=hin.num
 have hqn:=hin.q0.2.1
 have hq1:¬ q=s.next:=oM
 have hq2:¬ s.next=q:=oM
 by_cases hk:D.kind=0
 ·simp only[↓Zd,Zp,Zs,simprocAttr,HEx,RSx,vA,hb,hk,hq1,co101]
  obtain⟨a,b⟩:=hin.nums (s':=(s.new (.cells [.int .i64 vk,.int .i64 vn,.string vx] 31 true)).put q (.cells (rsC { D with vk:=vk,vn:=vn,vx:=vx,kind:=0 } p gb ov tv) 94 true)) (D':={ D with vk:=vk,vn:=vn,vx:=vx,kind:=0 }) (by simp only[Sn];omega) (by simp only[aP,if_true]) (fun b hb2 hb3=>by simp only[aP,hb3,if_false,aN,(show ¬ b=s.next by omega)]) rfl rfl rfl rfl ⟨hnum.fuel,hnum.depth,hnum.lim,hnum.out,hnum.tch,hnum.glob,hnum.n⟩
  refine rsend_spec a fun s2 h2 u2=>?_
  simp only[↓Zd,Zp,simprocAttr,HEx,vA]
  exact hR _ h2 (b.trans u2)
 ·simp only[↓Zd,Zp,Zs,simprocAttr,HEx,RSx,vA,hb,hk,hq1,co101]
  refine rsend_spec h1 fun s2 h2 u2=>?_
  simp only[↓Zd,Zp,simprocAttr,HEx,vA]
  exact hR _ h2 ((Upd.of_le l1).trans u2)
end
section
variable {lo q N p gb:Nat}{D:StD}{O W:Nat→Prop}{ov tv:Value}
theorem rsepoch_spec{i:Int}(h:RSAt lo s q N W)(hR:∀ e,R (.int .i64 e) s):QC prog w0 106 #[.pointer (some ⟨q,0,none⟩),.int .i64 i] s R:=by
 refine wfun2 hmix ok106 func106 rfl ntmps106 results106 (by simp) ?_
 obtain⟨D,O,p,gb,ov,tv,hin,rfl⟩:=id h
 have hb:=hin.bl
 unfold rsC at hb
 obtain⟨_,tg,pf,sl,tl,bs,hh⟩:=hin.heap
 simp only[↓Zd,Zp,simprocAttr,cld2,REx,RSx,hb,co180]
 refine rhas_spec hh ?_
 cases ho:obAt D.H i with
 |none =>
  simp only[↓Zd,Zp,simprocAttr,HEx]
  exact hR _
 |some o =>
  obtain⟨j,rfl,hj,hjo⟩:=obAt_some ho
  obtain⟨b,br,vs,own,ns,vv,hbb,hB,rfl,hbr,hg,hbrn,hob,hfr,hO⟩:=hh.at hjo
  have h1:=hh.bl
  have h2:=hob.bl
  have hk:=ix_ok (n:=bs.length) (j:=j) (by rw[hh.len];exact hj)
  have w1:=hh.w hj
  simp only[↓Zd,Zp,simprocAttr,cld2,HEx,REx,RSx,hb,h1,h2,w1,hk,hbr,hg]
  exact hR _
theorem rsmake_spec(h:RSAt lo s q N W)(hlo:lo≤s.next)(hR:∀ s' W' a b x t,RSAt lo s' q N W'→Upd s s' W W'→R (.tuple #[vA a b x,.bool t]) s') :
  QC prog w0 42 #[.pointer (some ⟨q,0,none⟩)] s R:=by
 refine wfun2 hmix ok42 func42 rfl ntmps42 results42 (by simp) ?_
 have l1:s.le (s.new (.cells [.int .i64 0,.int .i64 0,.string ⟨#[]⟩] 31 true)):=lN (lR _)
 have h1:=h.le l1
 have k1:(s.new (.cells [.int .i64 0,.int .i64 0,.string ⟨#[]⟩] 31 true)).at' s.next=some (.cells [.int .i64 0,.int .i64 0,.string ⟨#[]⟩] 31 true):=by rw[aN,if_pos rfl]
 have f1:=h.fresh (Nat.le_refl _)
 obtain⟨D,O,p,gb,ov,tv,hin0,rfl⟩:=id h
 have hb:=hin0.bl
 unfold rsC at hb
 have hqn:¬ q=s.next:=by have:=hin0.q0;omega
 have hin:=hin0.le l1
 have kn:s.next<(s.new (.cells [.int .i64 0,.int .i64 0,.string ⟨#[]⟩] 31 true)).next:=by simp only[nN];omega
 have n1:=l1.1
 by_cases hk:D.kind=0
 case neg =>
  simp only[↓Zd,Zp,Zs,simprocAttr,HEx,RSx,hb,hk,hqn]
  obtain⟨a,b⟩:=h1.loc (c:=s.next) (Upd.of_le l1) (Nat.le_refl _) f1
  exact hR _ _ _ _ _ _ a b
 simp only[↓Zd,Zp,Zs,simprocAttr,HEx,REx,RSx,hb,hk,hqn,co102]
 generalize s.new (.cells [.int .i64 0,.int .i64 0,.string ⟨#[]⟩] 31 true)=s1 at l1 h1 k1 hin kn n1 ⊢
 refine rmake_spec hin.heap oM fun s2 O2 hH2 hU2=>?_
 obtain⟨h2,u2⟩:=hin.heaped (Nat.le_refl _) hH2 hU2
 have k2:=(u2.keep s.next kn f1).trans k1
 have hE:∃ o e:Int,makeV D.H = .tuple #[.int .i64 o,.int .i64 e]:=by
  unfold makeV
  split
  ·exact⟨_,_,rfl⟩
  ·exact⟨_,_,rfl⟩
 obtain⟨o,e,hV⟩:=hE
 have bV:cbuild prog 31 #[(0,.int .i64 4),(1,.int .i64 o)]=some (.agg #[.int .i64 4,.int .i64 o,.string ⟨#[]⟩]):=bv2 4 o
 simp only[↓Zd,Zp,simprocAttr,REx,hV,bV,co103]
 refine rsmade_spec (h2.to rfl) fun s3 a3 b3 x3 t3 h3 u3=>?_
 have f2:¬ ownS q gb ov tv O2 s.next:=fun hc=>by rcases u2.own _ hc with h|h;exact f1 h;omega
 have k3:=(u3.keep s.next (by have:=u2.next;omega) f2).trans k2
 obtain⟨a,b⟩:=h3.loc (c:=s.next) (B := .cells [.int .i64 a3,.int .i64 b3,.string x3] 31 true) (((Upd.of_le l1).trans u2).trans u3) (Nat.le_refl _) f2
 unfold vA at hR ⊢
 simp only[↓Zd,Zp,Zs,simprocAttr,HEx,TAx,k3]
 exact hR _ _ _ _ _ _ a b
theorem rsget_spec{k n:Int}{y x:ByteArray}(h:RSAt lo s q N W)(hR:∀ s' a b z t,RSAt lo s' q N W→Upd s s' W W→R (.tuple #[vA a b z,.bool t]) s') :
  QC prog w0 43 #[.pointer (some ⟨q,0,none⟩),vA k n y,.string x] s R:=by
 refine wfun2 hmix ok43 func43 rfl ntmps43 results43 (by simp) ?_
 have l1:s.le ((s.new (.cells [.int .i64 k,.int .i64 n,.string y] 31 true)).new (.cells [.int .i64 0,.int .i64 0,.string ⟨#[]⟩] 31 true)):=oL
 have k0:((s.new (.cells [.int .i64 k,.int .i64 n,.string y] 31 true)).new (.cells [.int .i64 0,.int .i64 0,.string ⟨#[]⟩] 31 true)).at' s.next=some (.cells [.int .i64 k,.int .i64 n,.string y] 31 true):=by rw[aN,if_neg (by simp only[nN];omega),aN,if_pos rfl]
 have k1:((s.new (.cells [.int .i64 k,.int .i64 n,.string y] 31 true)).new (.cells [.int .i64 0,.int .i64 0,.string ⟨#[]⟩] 31 true)).at' (s.next+1)=some (.cells [.int .i64 0,.int .i64 0,.string ⟨#[]⟩] 31 true):=by rw[aN,if_pos (by simp only[nN])]
 have kn:s.next+1<((s.new (.cells [.int .i64 k,.int .i64 n,.string y] 31 true)).new (.cells [.int .i64 0,.int .i64 0,.string ⟨#[]⟩] 31 true)).next:=by simp only[nN];omega
 simp only[↓Zd,Zp,Zs,simprocAttr,HEx,vA,co104]
 generalize ((s.new (.cells [.int .i64 k,.int .i64 n,.string y] 31 true)).new (.cells [.int .i64 0,.int .i64 0,.string ⟨#[]⟩] 31 true))=s1 at l1 k0 k1 kn ⊢
 refine rsmust_spec (h.le l1) fun s2 b2 h2 u2=>?_
 have u12:=(Upd.of_le l1).trans u2
 have f0:=h.fresh (Nat.le_refl _)
 have f1:=h.fresh (c:=s.next+1) oM
 have c0:=(u2.keep s.next oM f0).trans k0
 have c1:=(u2.keep (s.next+1) kn f1).trans k1
 have n2:=u2.next
 cases b2 with
 |false =>
  simp only[↓Zd,Zp,Zs,simprocAttr,HEx,vA,c1]
  obtain⟨a,b⟩:=h2.loc (c:=s.next+1) u12 oM f1
  exact hR _ _ _ _ _ a b
 |true =>
  obtain⟨D,O,p,gb,ov,tv,hin,rfl⟩:=id h2
  have hb:=hin.bl
  unfold rsC at hb
  obtain⟨_,tg,pf,sl,tl,bs,hh⟩:=hin.heap
  simp only[↓Zd,Zp,simprocAttr,cld2,HEx,REx,RSx,vA,hb,c0,co105,ord43]
  refine rget_spec hh fun s3 v l3 hv=>?_
  have d1:=(l3.2 (s.next+1) oM).trans c1
  have n3:=l3.1
  obtain⟨a,b⟩:=(h2.le l3).loc (c:=s.next+1) (B := .cells [.int .i64 v.1,.int .i64 v.2.1,.string v.2.2] 31 true) (u12.trans (Upd.of_le l3)) oM f1
  unfold vOf
  unfold vA at hR ⊢
  simp only[↓Zd,Zp,Zs,simprocAttr,HEx,d1]
  exact hR _ _ _ _ _ a b
theorem rsgetix_spec{k n kk kn:Int}{y x:ByteArray}(h:RSAt lo s q N W)(hR:∀ s' a b z t,RSAt lo s' q N W→Upd s s' W W→R (.tuple #[vA a b z,.bool t]) s') :
  QC prog w0 46 #[.pointer (some ⟨q,0,none⟩),vA k n y,vA kk kn x] s R:=by
 refine wfun2 hmix ok46 func46 rfl ntmps46 results46 (by simp) ?_
 have l1:s.le (((s.new (.cells [.int .i64 k,.int .i64 n,.string y] 31 true)).new (.cells [.int .i64 kk,.int .i64 kn,.string x] 31 true)).new (.cells [.int .i64 0,.int .i64 0,.string ⟨#[]⟩] 31 true)):=oL
 have hc:∃ s1,s1=(((s.new (.cells [.int .i64 k,.int .i64 n,.string y] 31 true)).new (.cells [.int .i64 kk,.int .i64 kn,.string x] 31 true)).new (.cells [.int .i64 0,.int .i64 0,.string ⟨#[]⟩] 31 true)):=⟨_,rfl⟩
 obtain⟨s1,hs1⟩:=hc
 have k0:s1.at' s.next=some (.cells [.int .i64 k,.int .i64 n,.string y] 31 true):=by rw[hs1];simp only[aN,nN];(repeat rw[if_neg oM]);rw[if_pos trivial]
 have k1:s1.at' (s.next+1)=some (.cells [.int .i64 kk,.int .i64 kn,.string x] 31 true):=by rw[hs1];simp only[aN,nN];(repeat rw[if_neg oM]);rw[if_pos trivial]
 have k2:s1.at' (s.next+2)=some (.cells [.int .i64 0,.int .i64 0,.string ⟨#[]⟩] 31 true):=by rw[hs1];simp only[aN,nN];rw[if_pos trivial]
 have kn2:s.next+2<s1.next:=by rw[hs1];simp only[nN];omega
 rw[← hs1]at l1
 have h1:=h.le l1
 have go:∀ so,QC prog w0 104 #[.pointer (some ⟨q,0,none⟩),.bool so] s1 (fun v s2=>∃ b,v = .bool b∧RSAt lo s2 q N W∧Upd s1 s2 W W):=fun so=>rsmust_spec h1 fun s2 b h2 u2=>⟨b,rfl,h2,u2⟩
 by_cases e1:k=4
 ·(try (have e9:=e1;subst e9))
  simp only[↓Zd,Zp,Zs,simprocAttr,HEx,vA,co104]
  rw[← hs1]
  refine QC.mono (go _) ?_
  rintro _ s2 ⟨b2,rfl,h2,u2⟩
  have u12:=(Upd.of_le l1).trans u2
  have f0:=h.fresh (Nat.le_refl _)
  have f1:=h.fresh (c:=s.next+1) oM
  have f2:=h.fresh (c:=s.next+2) oM
  have c0:=(u2.keep s.next oM f0).trans k0
  have c1:=(u2.keep (s.next+1) oM f1).trans k1
  have c2:=(u2.keep (s.next+2) kn2 f2).trans k2
  have n2:=u2.next
  cases b2 with
  |false =>
   simp only[↓Zd,Zp,Zs,simprocAttr,HEx,vA,c2]
   obtain⟨a,b⟩:=h2.loc (c:=s.next+2) u12 oM f2
   exact hR _ _ _ _ _ a b
  |true =>
   simp only[↓Zd,Zp,Zs,simprocAttr,HEx,TAx,vA,c0,c1,co43]
   refine rsget_spec h2 fun s3 a3 b3 z3 t3 h3 u3=>?_
   have d2:=(u3.keep (s.next+2) oM f2).trans c2
   have n3:=u3.next
   obtain⟨a,b⟩:=h3.loc (c:=s.next+2) (B := .cells [.int .i64 a3,.int .i64 b3,.string z3] 31 true) (u12.trans u3) oM f2
   unfold vA at hR ⊢
   simp only[↓Zd,Zp,Zs,simprocAttr,HEx,TAx,d2]
   exact hR _ _ _ _ _ a b
 ·(try (have e9:=e1;subst e9))
  simp only[↓Zd,Zp,Zs,simprocAttr,HEx,vA,e1,co104]
  rw[← hs1]
  refine QC.mono (go _) ?_
  rintro _ s2 ⟨b2,rfl,h2,u2⟩
  have u12:=(Upd.of_le l1).trans u2
  have f0:=h.fresh (Nat.le_refl _)
  have f1:=h.fresh (c:=s.next+1) oM
  have f2:=h.fresh (c:=s.next+2) oM
  have c0:=(u2.keep s.next oM f0).trans k0
  have c1:=(u2.keep (s.next+1) oM f1).trans k1
  have c2:=(u2.keep (s.next+2) kn2 f2).trans k2
  have n2:=u2.next
  cases b2 with
  |false =>
   simp only[↓Zd,Zp,Zs,simprocAttr,HEx,vA,c2]
   obtain⟨a,b⟩:=h2.loc (c:=s.next+2) u12 oM f2
   exact hR _ _ _ _ _ a b
  |true =>
   simp only[↓Zd,Zp,Zs,simprocAttr,HEx,TAx,vA,c0,c1,co43]
   refine rsget_spec h2 fun s3 a3 b3 z3 t3 h3 u3=>?_
   have d2:=(u3.keep (s.next+2) oM f2).trans c2
   have n3:=u3.next
   obtain⟨a,b⟩:=h3.loc (c:=s.next+2) (B := .cells [.int .i64 a3,.int .i64 b3,.string z3] 31 true) (u12.trans u3) oM f2
   unfold vA at hR ⊢
   simp only[↓Zd,Zp,Zs,simprocAttr,HEx,TAx,d2]
   exact hR _ _ _ _ _ a b
end
section
variable {lo q N p gb:Nat}{D:StD}{O W:Nat→Prop}{ov tv:Value}
theorem RSIn.touch{o:Int}(h:RSIn lo s q D N O p gb ov tv)(hN:N+1≤1000000):∃ s3 W',capp prog #[88,88] #[tv,.slice (some ⟨s.next,0,none⟩) 1 1] (s.new (.cells [.int .i64 o] 3 true))=some (.slice (some ⟨s.next+1,0,none⟩) (D.tch.length+1) UNK,s3) ∧
  s3.at' q=some (.cells (rsC D p gb ov tv) 94 true)∧¬ q=s.next∧s3.next=s.next+2∧RSAt lo (s3.put q (.cells (rsC { D with tch:=D.tch ++ [o] } p gb ov (.slice (some ⟨s.next+1,0,none⟩) (D.tch.length+1) UNK)) 94 true)) q (N+1) W' ∧
  Upd s (s3.put q (.cells (rsC { D with tch:=D.tch ++ [o] } p gb ov (.slice (some ⟨s.next+1,0,none⟩) (D.tch.length+1) UNK)) 94 true)) (ownS q gb ov tv O) W':=by
 have hq2:=h.q0
 obtain⟨s3,happ,hn3,hat3,hk3⟩:=app_intS (x:=o) (by have:=h.num.tch;omega) h.st (fun b hb=>(h.t0 b hb).2.1)
 have hfin:=h.tchs (s':=s3.put q (.cells (rsC { D with tch:=D.tch ++ [o] } p gb ov (.slice (some ⟨s.next+1,0,none⟩) (D.tch.length+1) UNK)) 94 true)) (x:=o) (b:=s.next+1) ⟨oM,by simp only[nU];omega⟩ (by rw[aP,if_neg oM];exact hat3) (by rw[aP,if_pos rfl]) (fun c hc1 hc2 hc3=>by rw[aP,if_neg hc2];exact hk3 c hc1 hc3)
 exact⟨s3,_,happ,(hk3 q hq2.2.1 fun e=>(h.t0 q e).2.2.2.1 rfl).trans h.bl,oM,hn3,hfin.1.to rfl,hfin.2⟩
theorem RSIn.print{o:ByteArray}{k:Int}(hk:D.kind=k)(h:RSIn lo s q D N O p gb ov tv)(hN:N+1≤1000000):∃ s3 W',capp prog #[39,39] #[ov,.slice (some ⟨s.next,0,none⟩) 1 1] (s.new (.cells [.string o] 9 true))=some (.slice (some ⟨s.next+1,0,none⟩) (D.out.length+1) UNK,s3) ∧
  s3.at' q=some (.cells (rsC D p gb ov tv) 94 true)∧¬ q=s.next∧s3.next=s.next+2∧RSAt lo (s3.put q (.cells (rsC { D with out:=D.out ++ [o],kind:=k } p gb (.slice (some ⟨s.next+1,0,none⟩) (D.out.length+1) UNK) tv) 94 true)) q (N+1) W' ∧
  Upd s (s3.put q (.cells (rsC { D with out:=D.out ++ [o],kind:=k } p gb (.slice (some ⟨s.next+1,0,none⟩) (D.out.length+1) UNK) tv) 94 true)) (ownS q gb ov tv O) W':=by
 subst hk
 have hq2:=h.q0
 obtain⟨s3,happ,hn3,hat3,hk3⟩:=app_strS (x:=o) (by have:=h.num.out;omega) h.so (fun b hb=>(h.o0 b hb).2.1)
 have hfin:=h.outs (s':=s3.put q (.cells (rsC { D with out:=D.out ++ [o] } p gb (.slice (some ⟨s.next+1,0,none⟩) (D.out.length+1) UNK) tv) 94 true)) (x:=o) (b:=s.next+1) ⟨oM,by simp only[nU];omega⟩ (by rw[aP,if_neg oM];exact hat3) (by rw[aP,if_pos rfl]) (fun c hc1 hc2 hc3=>by rw[aP,if_neg hc2];exact hk3 c hc1 hc3)
 exact⟨s3,_,happ,(hk3 q hq2.2.1 fun e=>(h.o0 q e).2.2.2.1 rfl).trans h.bl,oM,hn3,hfin.1.to rfl,hfin.2⟩
theorem rsset_spec{k n vk vn:Int}{y x vx:ByteArray}(h:RSAt lo s q N W)(hlo:lo≤s.next)(hN:N+4≤1000000)(hR:∀ s' W' b,RSAt lo s' q (N+4) W'→Upd s s' W W'→R (.bool b) s') :
  QC prog w0 44 #[.pointer (some ⟨q,0,none⟩),vA k n y,.string x,vA vk vn vx] s R:=by
 refine wfun2 hmix ok44 func44 rfl ntmps44 results44 (by simp) ?_
 have l1:s.le ((s.new (.cells [.int .i64 k,.int .i64 n,.string y] 31 true)).new (.cells [.int .i64 vk,.int .i64 vn,.string vx] 31 true)):=oL
 have k0:((s.new (.cells [.int .i64 k,.int .i64 n,.string y] 31 true)).new (.cells [.int .i64 vk,.int .i64 vn,.string vx] 31 true)).at' s.next=some (.cells [.int .i64 k,.int .i64 n,.string y] 31 true):=by rw[aN,if_neg (by simp only[nN];omega),aN,if_pos rfl]
 have k1:((s.new (.cells [.int .i64 k,.int .i64 n,.string y] 31 true)).new (.cells [.int .i64 vk,.int .i64 vn,.string vx] 31 true)).at' (s.next+1)=some (.cells [.int .i64 vk,.int .i64 vn,.string vx] 31 true):=by rw[aN,if_pos (by simp only[nN])]
 have kn:s.next+1<((s.new (.cells [.int .i64 k,.int .i64 n,.string y] 31 true)).new (.cells [.int .i64 vk,.int .i64 vn,.string vx] 31 true)).next:=by simp only[nN];omega
 simp only[↓Zd,Zp,Zs,simprocAttr,HEx,vA,co104]
 generalize ((s.new (.cells [.int .i64 k,.int .i64 n,.string y] 31 true)).new (.cells [.int .i64 vk,.int .i64 vn,.string vx] 31 true))=s1 at l1 k0 k1 kn ⊢
 refine rsmust_spec (h.le l1) fun s2 b2 h2 u2=>?_
 have u12:=(Upd.of_le l1).trans u2
 have f0:=h.fresh (Nat.le_refl _)
 have f1:=h.fresh (c:=s.next+1) oM
 have c0:=(u2.keep s.next oM f0).trans k0
 have c1:=(u2.keep (s.next+1) kn f1).trans k1
 have n2:=u2.next
 cases b2 with
 |false =>
  simp only[↓Zd,Zp,simprocAttr,HEx,vA]
  exact hR _ _ _ (h2.mono oM) u12
 |true =>
  simp only[↓Zd,Zp,simprocAttr,cld2,HEx,vA,c0,co106]
  refine rsepoch_spec h2 fun e1=>?_
  obtain⟨D,O,p,gb,ov,tv,hin,rfl⟩:=id h2
  have hb:=hin.bl
  unfold rsC at hb
  simp only[↓Zd,Zp,Zs,simprocAttr,HEx,REx,RSx,vA,hb,c0,c1,co107,ord44]
  refine rset_spec (k:=vk) (n:=vn) (y:=vx) hin.heap oM oM fun s3 O3 hH3 hU3=>?_
  obtain⟨h3,u3⟩:=hin.heaped oM hH3 hU3
  have d0:=(u3.keep s.next oM f0).trans c0
  simp only[↓Zd,Zp,simprocAttr,cld2,HEx,d0,co106]
  refine rsepoch_spec (h3.to rfl) fun e2=>?_
  have hb3:=h3.bl
  unfold rsC at hb3
  by_cases he:e2=e1
  ·simp only[↓Zd,Zp,simprocAttr,HEx,he,co108]
   refine rsneed_spec (h3.to rfl) fun s4 b4 h4 u4=>?_
   simp only[↓Zd,Zp,simprocAttr,HEx]
   exact hR _ _ _ (h4.mono oM) ((u12.trans u3).trans u4)
  ·obtain⟨s4,W4,happ,hq4,hqn,hn4,h4,u4⟩:=h3.touch (o:=n) oM
   unfold rsC at hq4
   simp only[↓Zd,Zp,Zs,simprocAttr,HEx,TAx,RSx,he,d0,hb3,hq4,rowInt1,happ,co108]
   refine rsneed_spec h4 fun s5 b5 h5 u5=>?_
   simp only[↓Zd,Zp,simprocAttr,HEx]
   exact hR _ _ _ (h5.mono oM) (((u12.trans u3).trans u4).trans u5)
theorem rsgrow_spec{k n to vk vn:Int}{y vx:ByteArray}(h:RSAt lo s q N W)(hlo:lo≤s.next)(hN:N+4≤1000000)(hto : -9223372036854775808≤to∧to≤9223372036854775807)(hR:∀ s' W' b,RSAt lo s' q (N+4) W'→Upd s s' W W'→R (.bool b) s') :
  QC prog w0 124 #[.pointer (some ⟨q,0,none⟩),vA k n y,.int .i64 to,vA vk vn vx] s R:=by
 refine wfun2 hmix ok124 func124 rfl ntmps124 results124 (by simp) ?_
 have l1:s.le ((s.new (.cells [.int .i64 k,.int .i64 n,.string y] 31 true)).new (.cells [.int .i64 vk,.int .i64 vn,.string vx] 31 true)):=oL
 have k0:((s.new (.cells [.int .i64 k,.int .i64 n,.string y] 31 true)).new (.cells [.int .i64 vk,.int .i64 vn,.string vx] 31 true)).at' s.next=some (.cells [.int .i64 k,.int .i64 n,.string y] 31 true):=by rw[aN,if_neg (by simp only[nN];omega),aN,if_pos rfl]
 have k1:((s.new (.cells [.int .i64 k,.int .i64 n,.string y] 31 true)).new (.cells [.int .i64 vk,.int .i64 vn,.string vx] 31 true)).at' (s.next+1)=some (.cells [.int .i64 vk,.int .i64 vn,.string vx] 31 true):=by rw[aN,if_pos (by simp only[nN])]
 have kn:s.next+1<((s.new (.cells [.int .i64 k,.int .i64 n,.string y] 31 true)).new (.cells [.int .i64 vk,.int .i64 vn,.string vx] 31 true)).next:=by simp only[nN];omega
 simp only[↓Zd,Zp,Zs,simprocAttr,HEx,vA,co104]
 generalize ((s.new (.cells [.int .i64 k,.int .i64 n,.string y] 31 true)).new (.cells [.int .i64 vk,.int .i64 vn,.string vx] 31 true))=s1 at l1 k0 k1 kn ⊢
 refine rsmust_spec (h.le l1) fun s2 b2 h2 u2=>?_
 have u12:=(Upd.of_le l1).trans u2
 have f0:=h.fresh (Nat.le_refl _)
 have f1:=h.fresh (c:=s.next+1) oM
 have c0:=(u2.keep s.next oM f0).trans k0
 have c1:=(u2.keep (s.next+1) kn f1).trans k1
 have n2:=u2.next
 cases b2 with
 |false =>
  simp only[↓Zd,Zp,simprocAttr,HEx,vA]
  exact hR _ _ _ (h2.mono oM) u12
 |true =>
  simp only[↓Zd,Zp,simprocAttr,cld2,HEx,vA,c0,co106]
  refine rsepoch_spec h2 fun e1=>?_
  obtain⟨D,O,p,gb,ov,tv,hin,rfl⟩:=id h2
  have hb:=hin.bl
  unfold rsC at hb
  simp only[↓Zd,Zp,Zs,simprocAttr,HEx,REx,RSx,vA,hb,c0,c1,co197,ord124]
  refine rgrow_spec (k:=vk) (n:=vn) (y:=vx) hin.heap oM oM hto fun s3 O3 hH3 hU3=>?_
  obtain⟨h3,u3⟩:=hin.heaped oM hH3 hU3
  have d0:=(u3.keep s.next oM f0).trans c0
  simp only[↓Zd,Zp,simprocAttr,cld2,HEx,d0,co106]
  refine rsepoch_spec (h3.to rfl) fun e2=>?_
  have hb3:=h3.bl
  unfold rsC at hb3
  by_cases he:e2=e1
  ·simp only[↓Zd,Zp,simprocAttr,HEx,he,co108]
   refine rsneed_spec (h3.to rfl) fun s4 b4 h4 u4=>?_
   simp only[↓Zd,Zp,simprocAttr,HEx]
   exact hR _ _ _ (h4.mono oM) ((u12.trans u3).trans u4)
  ·obtain⟨s4,W4,happ,hq4,hqn,hn4,h4,u4⟩:=h3.touch (o:=n) oM
   unfold rsC at hq4
   simp only[↓Zd,Zp,Zs,simprocAttr,HEx,TAx,RSx,he,d0,hb3,hq4,rowInt1,happ,co108]
   refine rsneed_spec h4 fun s5 b5 h5 u5=>?_
   simp only[↓Zd,Zp,simprocAttr,HEx]
   exact hR _ _ _ (h5.mono oM) (((u12.trans u3).trans u4).trans u5)
theorem rsdel_spec{k n:Int}{y x:ByteArray}(h:RSAt lo s q N W)(hlo:lo≤s.next)(hN:N+4≤1000000)(hR:∀ s' W' b,RSAt lo s' q (N+4) W'→Upd s s' W W'→R (.bool b) s') :
  QC prog w0 48 #[.pointer (some ⟨q,0,none⟩),vA k n y,.string x] s R:=by
 refine wfun2 hmix ok48 func48 rfl ntmps48 results48 (by simp) ?_
 have l1:s.le (s.new (.cells [.int .i64 k,.int .i64 n,.string y] 31 true)):=lN (lR _)
 have k0:(s.new (.cells [.int .i64 k,.int .i64 n,.string y] 31 true)).at' s.next=some (.cells [.int .i64 k,.int .i64 n,.string y] 31 true):=by rw[aN,if_pos rfl]
 have kn:s.next<(s.new (.cells [.int .i64 k,.int .i64 n,.string y] 31 true)).next:=by simp only[nN];omega
 simp only[↓Zd,Zp,Zs,simprocAttr,HEx,vA,co104]
 generalize s.new (.cells [.int .i64 k,.int .i64 n,.string y] 31 true)=s1 at l1 k0 kn ⊢
 refine rsmust_spec (h.le l1) fun s2 b2 h2 u2=>?_
 have u12:=(Upd.of_le l1).trans u2
 have f0:=h.fresh (Nat.le_refl _)
 have c0:=(u2.keep s.next oM f0).trans k0
 have n2:=u2.next
 cases b2 with
 |false =>
  simp only[↓Zd,Zp,simprocAttr,HEx,vA]
  exact hR _ _ _ (h2.mono oM) u12
 |true =>
  obtain⟨D,O,p,gb,ov,tv,hin,rfl⟩:=id h2
  have hb:=hin.bl
  unfold rsC at hb
  simp only[↓Zd,Zp,simprocAttr,cld2,HEx,REx,RSx,vA,hb,c0,co110,ord48]
  refine rdel_spec hin.heap oM oM fun s3 O3 hH3 hU3=>?_
  obtain⟨h3,u3⟩:=hin.heaped oM hH3 hU3
  have d0:=(u3.keep s.next oM f0).trans c0
  have hb3:=h3.bl
  unfold rsC at hb3
  cases he:delB D.H n x with
  |false =>
   simp only[↓Zd,Zp,simprocAttr,HEx]
   exact hR _ _ _ ((h3.to rfl).mono oM) (u12.trans u3)
  |true =>
   obtain⟨s4,W4,happ,hq4,hqn,hn4,h4,u4⟩:=h3.touch (o:=n) oM
   unfold rsC at hq4
   simp only[↓Zd,Zp,Zs,simprocAttr,HEx,TAx,RSx,d0,hb3,hq4,rowInt1,happ]
   exact hR _ _ _ (h4.mono oM) ((u12.trans u3).trans u4)
theorem rsun_spec{op k n:Int}{x:ByteArray}(h:RSAt lo s q N W)(hR:∀ s' a b y t,RSAt lo s' q N W→Upd s s' W W→R (.tuple #[vA a b y,.bool t]) s') :
  QC prog w0 112 #[.pointer (some ⟨q,0,none⟩),.int .i64 op,vA k n x] s R:=by
 refine wfun2 hmix ok112 func112 rfl ntmps112 results112 (by simp) ?_
 have l1:s.le ((s.new (.cells [.int .i64 k,.int .i64 n,.string x] 31 true)).new (.cells [.int .i64 0,.int .i64 0,.string ⟨#[]⟩] 31 true)):=oL
 have k1:((s.new (.cells [.int .i64 k,.int .i64 n,.string x] 31 true)).new (.cells [.int .i64 0,.int .i64 0,.string ⟨#[]⟩] 31 true)).at' (s.next+1)=some (.cells [.int .i64 0,.int .i64 0,.string ⟨#[]⟩] 31 true):=by rw[aN,if_pos (by simp only[nN])]
 have kn:s.next+1<((s.new (.cells [.int .i64 k,.int .i64 n,.string x] 31 true)).new (.cells [.int .i64 0,.int .i64 0,.string ⟨#[]⟩] 31 true)).next:=by simp only[nN];omega
 obtain⟨a,b,y,e,hV⟩:=unV_tup op k n
 unfold vA at hV
 simp only[↓Zd,Zp,Zs,simprocAttr,HEx,vA,co187]
 generalize ((s.new (.cells [.int .i64 k,.int .i64 n,.string x] 31 true)).new (.cells [.int .i64 0,.int .i64 0,.string ⟨#[]⟩] 31 true))=s1 at l1 k1 kn ⊢
 refine run_spec fun s2 l2=>?_
 have l12:=lT l1 l2
 simp only[↓Zd,Zp,simprocAttr,vA,underlying253,hV,co103]
 refine rsmade_spec (h.le l12) fun s3 a3 b3 y3 t3 h3 u3=>?_
 have n2:=l2.1
 have f1:=h.fresh (c:=s.next+1) oM
 have k3:=((u3.keep (s.next+1) oM f1).trans (l2.2 (s.next+1) kn)).trans k1
 obtain⟨g1,g2⟩:=h3.loc (c:=s.next+1) (B := .cells [.int .i64 a3,.int .i64 b3,.string y3] 31 true) ((Upd.of_le l12).trans u3) oM f1
 unfold vA at hR ⊢
 simp only[↓Zd,Zp,Zs,simprocAttr,HEx,TAx,k3]
 exact hR _ _ _ _ _ g1 g2
theorem rsbin_spec{op k n k' n':Int}{x x':ByteArray}(h:RSAt lo s q N W)(hn:I64 n)(hx:x.size≤1000000)(hx':x'.size≤1000000)(hR:∀ s' a b y t,RSAt lo s' q N W→Upd s s' W W→R (.tuple #[vA a b y,.bool t]) s') :
  QC prog w0 113 #[.pointer (some ⟨q,0,none⟩),.int .i64 op,vA k n x,vA k' n' x'] s R:=by
 refine wfun2 hmix ok113 func113 rfl ntmps113 results113 (by simp) ?_
 have l1:s.le (((s.new (.cells [.int .i64 k,.int .i64 n,.string x] 31 true)).new (.cells [.int .i64 k',.int .i64 n',.string x'] 31 true)).new (.cells [.int .i64 0,.int .i64 0,.string ⟨#[]⟩] 31 true)):=oL
 have hc:∃ s1,s1=(((s.new (.cells [.int .i64 k,.int .i64 n,.string x] 31 true)).new (.cells [.int .i64 k',.int .i64 n',.string x'] 31 true)).new (.cells [.int .i64 0,.int .i64 0,.string ⟨#[]⟩] 31 true)):=⟨_,rfl⟩
 obtain⟨s1,hs1⟩:=hc
 have k0:s1.at' s.next=some (.cells [.int .i64 k,.int .i64 n,.string x] 31 true):=by rw[hs1];simp only[aN,nN];(repeat rw[if_neg oM]);rw[if_pos trivial]
 have k1:s1.at' (s.next+1)=some (.cells [.int .i64 k',.int .i64 n',.string x'] 31 true):=by rw[hs1];simp only[aN,nN];(repeat rw[if_neg oM]);rw[if_pos trivial]
 have k2:s1.at' (s.next+2)=some (.cells [.int .i64 0,.int .i64 0,.string ⟨#[]⟩] 31 true):=by rw[hs1];simp only[aN,nN];rw[if_pos trivial]
 have kn2:s.next+2<s1.next:=by rw[hs1];simp only[nN];omega
 obtain⟨D,O,p,gb,ov,tv,hin,rfl⟩:=id h
 have hb:=hin.bl
 unfold rsC at hb
 have hqa:¬ q=s.next:=by have:=hin.q0;omega
 have hqb:¬ q=s.next+1:=by have:=hin.q0;omega
 have hqc:¬ q=s.next+2:=by have:=hin.q0;omega
 obtain⟨a,b,y,e,hV⟩:=binV_tup op k n x k' n' x' D.l3
 unfold vA at hV
 rw[← hs1]at l1
 simp only[↓Zd,Zp,Zs,simprocAttr,HEx,TAx,RSx,vA,hb,hqa,hqb,hqc,co188,ord113]
 rw[← hs1]
 clear hs1
 refine rbin_spec hn hx hx' fun s2 l2=>?_
 have l12:=lT l1 l2
 simp only[↓Zd,Zp,simprocAttr,underlying253,hV,co103]
 refine rsmade_spec (h.le l12) fun s3 a3 b3 y3 t3 h3 u3=>?_
 have n2:=l2.1
 have f2:=h.fresh (c:=s.next+2) oM
 have k3:=((u3.keep (s.next+2) oM f2).trans (l2.2 (s.next+2) kn2)).trans k2
 obtain⟨g1,g2⟩:=h3.loc (c:=s.next+2) (B := .cells [.int .i64 a3,.int .i64 b3,.string y3] 31 true) ((Upd.of_le l12).trans u3) oM f2
 unfold vA at hR ⊢
 simp only[↓Zd,Zp,Zs,simprocAttr,HEx,TAx,k3]
 exact hR _ _ _ _ _ g1 g2
theorem rsprint_spec{vk vn:Int}{vx:ByteArray}(h:RSAt lo s q N W)(hN:N+4≤1000000)(hn : -9223372036854775808≤vn∧vn≤9223372036854775807)(hR:∀ s' W' b,RSAt lo s' q (N+1) W'→Upd s s' W W'→R (.bool b) s') :
  QC prog w0 115 #[.pointer (some ⟨q,0,none⟩),vA vk vn vx] s R:=by
 refine wfun2 hmix ok115 func115 rfl ntmps115 results115 (by simp) ?_
 have l1:s.le (s.new (.cells [.int .i64 vk,.int .i64 vn,.string vx] 31 true)):=lN (lR _)
 have k1:(s.new (.cells [.int .i64 vk,.int .i64 vn,.string vx] 31 true)).at' s.next=some (.cells [.int .i64 vk,.int .i64 vn,.string vx] 31 true):=by rw[aN,if_pos rfl]
 have kn:s.next<(s.new (.cells [.int .i64 vk,.int .i64 vn,.string vx] 31 true)).next:=by simp only[nN];omega
 have h1:=h.le l1
 obtain⟨D,O,p,gb,ov,tv,hin,rfl⟩:=id h1
 have hb:=hin.bl
 unfold rsC at hb
 by_cases hk:D.kind=0
 case neg =>
  simp only[↓Zd,Zp,Zs,simprocAttr,HEx,RSx,vA,hb,hk]
  exact hR _ _ _ (h1.mono oM) (.of_le l1)
 simp only[↓Zd,Zp,Zs,simprocAttr,HEx,TAx,RSx,vA,hb,hk,k1,co195,ord115]
 refine rShow_spec hn fun s2 l2=>?_
 have h2:=hin.le l2
 have hb2:=h2.bl
 unfold rsC at hb2
 obtain⟨s3,W3,happ,hq3,hqn,hn3,h3,u3⟩:=h2.print hk (o:=showV vk vn vx) oM
 unfold rsC at hq3
 obtain⟨D3,O3,p3,gb3,ov3,tv3,hin3,hW3⟩:=id h3
 have hb3:=hin3.bl
 unfold rsC at hb3
 rw[aP,if_pos rfl]at hb3
 simp only[↓Zd,Zp,Zs,simprocAttr,HEx,TAx,RSx,hb2,hk,hq3,rowStr,happ]
 exact hR _ _ _ h3 ((Upd.of_le (lT l1 l2)).trans u3)
end
def builtN(a:Int):Int:=if a<1∨7<a then 0 else if a=2∨a=3∨a=5 then 2 else 1
noncomputable def objS (D:StD) (op:Int) (a b:Int×Int×ByteArray):StD:=
 if op=2 then isS D (decide (b.1=2)) else if op=3 then isS D (decide (b.1=3))
 else if op=5 then chS D (decide (b.1=4) || decide (b.1=0)) a.2.1 (protoH D.H a.2.1 b.2.1) (protoE D.H a.2.1 b.2.1) else D
noncomputable def builtS (D:StD) (op:Int) (l:List (Int×Int×ByteArray)):StD:=
 let a:=l.getD 0 zV
 if builtN op=0∨(l.length:Int)≠builtN op then needS D 2
 else if op=6 then needS D (errOf (lenV a.1 a.2.2)) else if op=7 then needS D (errOf (textV a.1 a.2.1 a.2.2 D.l3))
 else if goesB (isS D (decide (a.1=4)))=true then objS D op a (l.getD 1 zV) else isS D (decide (a.1=4))
theorem val3_at{g:List (Int×Int×ByteArray)}{k:Nat}{v:Int×Int×ByteArray}(h:g[k]?=some v):(g.flatMap val3)[k*3]?=some (.int .i64 v.1)∧(g.flatMap val3)[k*3+1]?=some (.int .i64 v.2.1)∧(g.flatMap val3)[k*3+2]?=some (.string v.2.2):=by
 obtain⟨c1,c2⟩:=val3_cut h
 refine⟨?_,?_,?_⟩
 ·have:=congrArg (·[0]?) c2;simpa [List.getElem?_take,List.getElem?_drop] using this
 ·have:=congrArg (·[1]?) c2;simpa [List.getElem?_take,List.getElem?_drop] using this
 ·have:=congrArg (·[2]?) c2;simpa [List.getElem?_take,List.getElem?_drop] using this
section
variable {lo q N p gb:Nat}{D:StD}{O:Nat→Prop}{ov tv:Value}
theorem tbuilt_spec{a:Int}(hR:∀ x,(x=(⟨#[]⟩:ByteArray)↔builtN a=0)→R (.tuple #[.string x,.int .i64 (builtN a)]) s):QC prog w0 67 #[.int .i64 a] s R:=by
 refine wfun2 hmix ok67 func67 rfl ntmps67 results67 (by simp) ?_
 unfold builtN at hR
 rcases (show a=1∨a=2∨a=3∨a=4∨a=5∨a=6∨a=7∨(a<1∨7<a) by omega) with rfl|rfl|rfl|rfl|rfl|rfl|rfl|h
 case inr.inr.inr.inr.inr.inr.inr =>
  rw[if_pos h]at hR
  have a1:¬ a=1:=oM
  have a2:¬ a=2:=oM
  have a3:¬ a=3:=oM
  have a4:¬ a=4:=oM
  have a5:¬ a=5:=oM
  have a6:¬ a=6:=oM
  have a7:¬ a=7:=oM
  simp only[↓Zd,Zp,simprocAttr,a1,a2,a3,a4,a5,a6,a7]
  exact hR _ ⟨fun _=>rfl,fun _=>rfl⟩
 all_goals
  simp at hR
  simp only[↓Zd,Zp,simprocAttr]
  exact hR _ (by decide)
theorem sobj1_spec{b0 b1 b2 b o n c qn:Nat}{i k1 n1:Int}{y1:ByteArray}{own:Bool}{us:List (Int×Int×ByteArray)}(h:StIn lo s q D N O p gb ov tv)(hlo:lo≤s.next)(hN:N+3≤1000000)(hi : -9223372036854775808≤i∧i≤9223372036854775807)(hn1 : -9223372036854775808≤n1∧n1≤9223372036854775807)
  (c0:s.at' b0=some (.cells [.pointer (some ⟨q,0,none⟩)] 25 true))(c1:s.at' b1=some (.cells [.int .i64 i] 3 true))(c2:s.at' b2=some (.cells [.slice (some ⟨b,o*3,none⟩) 2 c] 48 true))(cb:s.at' b=some (.cells (us.flatMap val3) 31 own))(hu:us[o+1]?=some (k1,n1,y1))
  (hR:∀ s' O',HpAt lo s' p (protoH D.H i n1) (N+3) O'→Upd s s' O O'→R (.int .i64 (protoE D.H i n1)) s') :
  QC prog w0 152 #[.pointer (some ⟨b0,0,none⟩),.pointer (some ⟨b1,0,none⟩),.pointer (some ⟨b2,0,none⟩)] s R:=by
 refine wfun2 hmix ok152 func152 rfl ntmps152 results152 (by simp) ?_
 have hb:=h.bl
 unfold stC at hb
 obtain⟨_,u2,_⟩:=val3_at hu
 have e3:(o+1)*3+1=o*3+4:=oM
 rw[e3]at u2
 have b1':(1:Int)<((2:Nat):Int):=oM
 simp only[↓Zd,Zp,simprocAttr,cld2,HEx,TAx,hb,c0,c1,c2,cb,u2,co153,ord152]
 refine hsetproto_spec h.heap hlo hN h.num.n hi hn1 fun s2 O2 h2 u2=>?_
 simp only[↓Zd,Zp,simprocAttr,HEx]
 exact hR _ _ h2 u2
theorem hkey2_spec{H:Hp}{tg:Nat→Nat}{pf pn:Nat}{sl:Value}{bs:List Nat}{i k:Int}(h:HpIn lo s p H N O tg pf pn sl bs)(hN:N≤1000000)(hi : -9223372036854775808≤i∧i≤9223372036854775807)(hk : -9223372036854775808≤k∧k≤9223372036854775807)
  (hR:∀ s' kx kb,s.le s'→R (.tuple #[.string kx,.bool kb]) s'):QC prog w0 129 #[.pointer (some ⟨p,0,none⟩),.int .i64 i,.int .i64 k] s R:=by
 refine hkey_spec h hN hi hk fun s' l=>?_
 cases obAt H i with
 |none=>exact hR _ _ _ l
 |some o =>
  unfold keyV
  simp only
  split
  ·exact hR _ _ _ l
  ·exact hR _ _ _ l
theorem hown2_spec{H:Hp}{tg:Nat→Nat}{pf pn:Nat}{sl:Value}{bs:List Nat}{i:Int}{x:ByteArray}(h:HpIn lo s p H N O tg pf pn sl bs)(hi : -9223372036854775808≤i∧i≤9223372036854775807)
  (hR:∀ s' a b y kb,s.le s'→R (.tuple #[vA a b y,.bool kb]) s'):QC prog w0 130 #[.pointer (some ⟨p,0,none⟩),.int .i64 i,.string x] s R:=by
 refine hown_spec h hi fun s' l=>?_
 unfold gotV
 split
 ·exact hR _ _ _ _ _ l
 ·exact hR _ _ _ _ _ l
theorem sobj_spec{b o n c:Nat}{op:Int}{a a2:Int×Int×ByteArray}{own:Bool}{us:List (Int×Int×ByteArray)}(h:StIn lo s q D N O p gb ov tv)(hlo:lo≤s.next)(hN:N+4≤1000000)(hop:1≤op∧op≤5)(hnn:builtN op=(n:Int))(ha:I64 a.2.1)(ha2:n=2→I64 a2.2.1)
  (hbn:b<s.next)(hbo:¬ ownS q gb ov tv O b)(cb:s.at' b=some (.cells (us.flatMap val3) 31 own))(hu:us[o]?=some a)(hu2:n=2→us[o+1]?=some a2)(hg:goesB D=true)
  (hR:∀ s' O' tv' k m x,StIn lo s' q (objS D op a a2) (N+4) O' p gb ov tv'→Upd s s' (ownS q gb ov tv O) (ownS q gb ov tv' O')→R (.tuple #[vA k m x,.bool (goesB (objS D op a a2))]) s') :
  QC prog w0 70 #[.pointer (some ⟨q,0,none⟩),.int .i64 op,.slice (some ⟨b,o*3,none⟩) n c] s R:=by
 refine wfun2 hmix ok70 func70 rfl ntmps70 results70 (by simp) ?_
 obtain⟨k,m,x⟩:=a
 obtain⟨k2,m2,x2⟩:=a2
 have ha : -9223372036854775808≤m∧m≤9223372036854775807:=ha
 obtain⟨v1,v2,v3⟩:=val3_at hu
 obtain⟨w1,w2⟩:=val3_cut hu
 simp only at v1 v2 v3 w1 w2
 have hnb:¬ b=s.next:=oM
 have hnb1:¬ b=s.next+1:=oM
 have hnb2:¬ b=s.next+2:=oM
 have hnb3:¬ b=s.next+3:=oM
 have hnb4:¬ b=s.next+4:=oM
 have h0n:(0:Int)<((n:Nat):Int):=by rw[← hnn];unfold builtN;(repeat' split)<;>omega
 have hq0:=h.q0
 have hqn:¬ q=s.next:=oM
 have hqn1:¬ q=s.next+1:=oM
 have hqn2:¬ q=s.next+2:=oM
 have hqn3:¬ q=s.next+3:=oM
 have hqn4:¬ q=s.next+4:=oM
 have hb:=h.bl
 unfold stC at hb
 obtain⟨S,hS⟩:∃ S,S=(((((((s.new (.cells [.pointer (some ⟨q,0,none⟩)] 25 true)).new (.cells [.slice (some ⟨b,o*3,none⟩) n c] 48 true)).new (.cells [.int .i64 0,.int .i64 0,.string ⟨#[]⟩] 31 true)).new (.cells [.int .i64 0] 3 true)).new (.cells [.int .i64 0,.int .i64 0,.string ⟨#[]⟩] 31 true)).put (s.next+3) (.cells [.int .i64 m] 3 true)).put (s.next+4) (.cells [.int .i64 0,.int .i64 0,.string ⟨#[]⟩] 31 true)):=⟨_,rfl⟩
 have lS:s.le S:=by rw[hS];exact oL
 have nS:S.next=s.next+5:=by rw[hS];rfl
 have d0:S.at' s.next=some (.cells [.pointer (some ⟨q,0,none⟩)] 25 true):=by rw[hS];simp only[aN,nN,aP];(repeat rw[if_neg oM]);rw[if_pos trivial]
 have d1:S.at' (s.next+1)=some (.cells [.slice (some ⟨b,o*3,none⟩) n c] 48 true):=by rw[hS];simp only[aN,nN,aP];(repeat rw[if_neg oM]);rw[if_pos trivial]
 have d2:S.at' (s.next+2)=some (.cells [.int .i64 0,.int .i64 0,.string ⟨#[]⟩] 31 true):=by rw[hS];simp only[aN,nN,aP];(repeat rw[if_neg oM]);(first|rw[if_pos trivial]|rw[if_pos rfl])
 have d3:S.at' (s.next+3)=some (.cells [.int .i64 m] 3 true):=by rw[hS];simp only[aN,nN,aP];rw[if_neg oM,if_pos trivial]
 have d4:S.at' (s.next+4)=some (.cells [.int .i64 0,.int .i64 0,.string ⟨#[]⟩] 31 true):=by rw[hS];simp only[aP];rw[if_pos trivial]
 have hSI:=h.le lS
 have hf0:=h.fresh (c:=s.next) (Nat.le_refl _)
 have hf1:=h.fresh (c:=s.next+1) oM
 have hf2:=h.fresh (c:=s.next+2) oM
 have hf3:=h.fresh (c:=s.next+3) oM
 have hf4:=h.fresh (c:=s.next+4) oM
 have cbS:=(lS.2 b hbn).trans cb
 have hSb:=hSI.bl
 unfold stC at hSb
 have q23:¬ s.next+2=s.next+4:=oM
 have q43:¬ s.next+4=s.next+2:=oM
 have fin:∀ {s2:St M}{O2:Nat→Prop}{tv2:Value}{N2:Nat}{D2:StD}(kk mm:Int) (xx:ByteArray),D2=objS D op (k,m,x) (k2,m2,x2)→N2≤N+4→StIn lo s2 q D2 N2 O2 p gb ov tv2→Upd s s2 (ownS q gb ov tv O) (ownS q gb ov tv2 O2)→¬ ownS q gb ov tv2 O2 (s.next+2)→∀ B,R (.tuple #[vA kk mm xx,.bool (goesB D2)]) (s2.put (s.next+2) B):=fun {s2 O2 tv2 N2 D2} kk mm xx e hN2 h2 u2 f2 B=>by
  subst e
  obtain⟨g1,g2⟩:=(h2.mono hN2).loc (c:=s.next+2) (B:=B) u2 oM f2
  exact hR _ _ _ kk mm xx g1 g2
 have fin4:∀ {s2:St M}{O2:Nat→Prop}{tv2:Value}{N2:Nat}{D2:StD}(kk mm:Int) (xx:ByteArray),D2=objS D op (k,m,x) (k2,m2,x2)→N2≤N+4→StIn lo s2 q D2 N2 O2 p gb ov tv2→Upd s s2 (ownS q gb ov tv O) (ownS q gb ov tv2 O2)→¬ ownS q gb ov tv2 O2 (s.next+2)→¬ ownS q gb ov tv2 O2 (s.next+4)→∀ B B',R (.tuple #[vA kk mm xx,.bool (goesB D2)]) ((s2.put (s.next+4) B').put (s.next+2) B):=fun {s2 O2 tv2 N2 D2} kk mm xx e hN2 h2 u2 f2 f4 B B'=>by
  obtain⟨g1,g2⟩:=h2.loc (c:=s.next+4) (B:=B') u2 oM f4
  exact fin kk mm xx e hN2 g1 g2 f2 _
 unfold vA at fin fin4
 have uS:Upd s S (ownS q gb ov tv O) (ownS q gb ov tv O) := .of_le lS
 obtain⟨hpro,tg,pf,pn,sl0,bs,hin⟩:=hSI.heap
 rcases (show op=1∨op=2∨op=3∨op=4∨op=5 by omega) with rfl|rfl|rfl|rfl|rfl
 ·have eo:objS D 1 (k,m,x) (k2,m2,x2)=D:=by simp[objS]
  simp only[↓Zd,Zp,Zs,simprocAttr,HEx,TAx,cb,hb,hnb,hnb1,hnb2,hqn,hqn1,hqn2,hqn3,hqn4,v2,h0n,co128,ord70]
  rw[← hS]
  refine hcount_spec hin ha fun s2 l2=>?_
  have h2:=hSI.le l2
  have k2':=(l2.2 (s.next+2) oM).trans d2
  have k4:=(l2.2 (s.next+4) oM).trans d4
  simp only[↓Zd,Zp,Zs,simprocAttr,HEx,k2',k4,q23,bv2]
  have:=fin4 (s2:=s2) (D2:=D) 2 (countV D.H m) ⟨#[]⟩ eo.symm oM h2 (uS.trans (.of_le l2)) hf2 hf4
  rw[hg]at this
  exact this _ _
 ·have eo:objS D 2 (k,m,x) (k2,m2,x2)=isS D (decide (k2=2)):=by simp[objS]
  have hn2:n=2:=by have:builtN 2=2:=rfl;omega
  subst hn2
  obtain⟨y1,y2,y3⟩:=val3_at (hu2 rfl)
  simp only at y1 y2 y3
  rw[show (o+1)*3=o*3+3 by omega]at y1 y2 y3
  have ha2 : -9223372036854775808≤m2∧m2≤9223372036854775807:=ha2 rfl
  have l12:(1:Int)<((2:Nat):Int):=oM
  by_cases hk:k2=2
  ·rw[hk]at y1 eo
   simp only[↓Zd,Zp,Zs,simprocAttr,HEx,TAx,cb,hnb,hnb1,hnb2,hnb3,hnb4,v2,y1,co64,ord70]
   rw[← hS]
   refine sis_spec hSI fun s2 h2 u2=>?_
   have e0:=((u2.loc (c:=s.next) oM hf0).2).trans d0
   have e1:=((u2.loc (c:=s.next+1) oM hf1).2).trans d1
   obtain⟨g2,e2⟩:=u2.loc (c:=s.next+2) oM hf2
   have e2:=e2.trans d2
   have e3:=((u2.loc (c:=s.next+3) oM hf3).2).trans d3
   obtain⟨g4,e4⟩:=u2.loc (c:=s.next+4) oM hf4
   have e4:=e4.trans d4
   have eb:=(u2.keep b oM hbo).trans cbS
   have n2:=u2.next
   have i1:isS D true=D:=rfl
   rw[i1]at h2
   rw[i1,hg]
   have h2b:=h2.bl
   unfold stC at h2b
   obtain⟨_,tg2,pf2,pn2,sl2,bs2,hin2⟩:=h2.heap
   simp only[↓Zd,Zp,simprocAttr,cld2,HEx,TAx,e0,e1,e3,eb,h2b,y2,co129]
   refine hkey2_spec hin2 oM ha ha2 fun s3 kx kb l3=>?_
   have h3:=h2.le l3
   have f2:=(l3.2 (s.next+2) oM).trans e2
   have f4:=(l3.2 (s.next+4) oM).trans e4
   have u3:=(uS.trans u2).trans (.of_le l3)
   have eD:D=objS D 2 (k,m,x) (2,m2,x2):=rfl
   cases kb with
   |true =>
    simp only[↓Zd,Zp,Zs,simprocAttr,HEx,TAx,f2,f4,q23,bv3]
    have:=fin4 (s2:=s3) (D2:=D) 3 0 kx (by rw[hk];exact eD) oM h3 u3 g2 g4
    rw[hg]at this
    exact this _ _
   |false =>
    simp only[↓Zd,Zp,Zs,simprocAttr,HEx,TAx,f2,f4]
    have:=fin (s2:=s3) (D2:=D) 0 0 ⟨#[]⟩ (by rw[hk];exact eD) oM h3 u3 g2
    rw[hg]at this
    exact this _
  ·simp only[↓Zd,Zp,Zs,simprocAttr,HEx,TAx,cb,hnb,hnb1,hnb2,hnb3,hnb4,v2,y1,hk,co64,ord70]
   rw[← hS]
   refine sis_spec hSI fun s2 h2 u2=>?_
   have e0:=((u2.loc (c:=s.next) oM hf0).2).trans d0
   have e1:=((u2.loc (c:=s.next+1) oM hf1).2).trans d1
   obtain⟨g2,e2⟩:=u2.loc (c:=s.next+2) oM hf2
   have e2:=e2.trans d2
   have e3:=((u2.loc (c:=s.next+3) oM hf3).2).trans d3
   obtain⟨g4,e4⟩:=u2.loc (c:=s.next+4) oM hf4
   have e4:=e4.trans d4
   have eb:=(u2.keep b oM hbo).trans cbS
   have n2:=u2.next
   have i1:=goes_is30 (D:=D)
   rw[i1]
   simp only[↓Zd,Zp,Zs,simprocAttr,HEx,e2,e4]
   have:=fin (s2:=s2) (D2:=isS D false) 0 0 ⟨#[]⟩ (by rw[eo,decide_eq_false hk]) oM h2 (uS.trans u2) g2
   rw[i1]at this
   exact this _
 ·have eo:objS D 3 (k,m,x) (k2,m2,x2)=isS D (decide (k2=3)):=by simp[objS]
  have hn2:n=2:=by have:builtN 3=2:=rfl;omega
  subst hn2
  obtain⟨y1,y2,y3⟩:=val3_at (hu2 rfl)
  obtain⟨z1,z2⟩:=val3_cut (hu2 rfl)
  simp only at y1 y2 y3 z1 z2
  rw[show (o+1)*3=o*3+3 by omega]at y1 y2 y3 z1 z2
  have l12:(1:Int)<((2:Nat):Int):=oM
  simp only[↓Zd,Zp,Zs,simprocAttr,HEx,TAx,cb,hnb,hnb1,hnb2,hnb3,hnb4,v2,z1,z2,co151,ord70]
  rw[← hS]
  refine isKey_spec ?_
  have lT:S.le (S.new (vB k2 m2 x2)):=lN (lR _)
  have nT:(S.new (vB k2 m2 x2)).next=s.next+6:=by rw[nN,nS]
  have uT:=uS.trans (.of_le lT)
  have hTI:=hSI.le lT
  have cbT:=(lT.2 b oM).trans cbS
  have d0:=(lT.2 _ oM).trans d0
  have d1:=(lT.2 _ oM).trans d1
  have d2:=(lT.2 _ oM).trans d2
  have d3:=(lT.2 _ oM).trans d3
  have d4:=(lT.2 _ oM).trans d4
  have hTb:=hTI.bl
  unfold stC at hTb
  generalize S.new (vB k2 m2 x2)=T at lT nT uT hTI cbT d0 d1 d2 d3 d4 hTb ⊢
  simp only[↓Zd,Zp,simprocAttr,cld2,HEx,TAx,d0,co64]
  by_cases hk:k2=3
  ·rw[decide_eq_true hk]
   rw[decide_eq_true hk]at eo
   refine sis_spec hTI fun s2 h2 u2=>?_
   have e0:=((u2.loc (c:=s.next) oM hf0).2).trans d0
   have e1:=((u2.loc (c:=s.next+1) oM hf1).2).trans d1
   obtain⟨g2,e2⟩:=u2.loc (c:=s.next+2) oM hf2
   have e2:=e2.trans d2
   have e3:=((u2.loc (c:=s.next+3) oM hf3).2).trans d3
   obtain⟨g4,e4⟩:=u2.loc (c:=s.next+4) oM hf4
   have e4:=e4.trans d4
   have eb:=(u2.keep b oM hbo).trans cbT
   have n2:=u2.next
   have i1:isS D true=D:=rfl
   rw[i1]at h2 eo
   rw[i1,hg]
   have h2b:=h2.bl
   unfold stC at h2b
   obtain⟨_,tg2,pf2,pn2,sl2,bs2,hin2⟩:=h2.heap
   have hb2n:¬ b=s.next+4:=oM
   have q2n:¬ q=s.next+4:=oM
   have q04:¬ s.next=s.next+4:=oM
   have q14:¬ s.next+1=s.next+4:=oM
   have q34:¬ s.next+3=s.next+4:=oM
   simp only[↓Zd,Zp,Zs,simprocAttr,HEx,TAx,e0,e1,e3,e4,eb,h2b,y3,hb2n,q2n,q04,q14,q34,co130]
   obtain⟨p1,pu1⟩:=h2.loc (c:=s.next+4) (B := .cells [.int .i64 1,.int .i64 0,.string ⟨#[]⟩] 31 true) (uT.trans u2) oM g4
   have lP:(s2.put (s.next+4) (.cells [.int .i64 1,.int .i64 0,.string ⟨#[]⟩] 31 true)).le ((s2.put (s.next+4) (.cells [.int .i64 1,.int .i64 0,.string ⟨#[]⟩] 31 true)).new (.cells [.int .i64 0,.int .i64 0,.string ⟨#[]⟩] 31 true)):=lN (lR _)
   have p2:=p1.le lP
   have r2:((s2.put (s.next+4) (.cells [.int .i64 1,.int .i64 0,.string ⟨#[]⟩] 31 true)).new (.cells [.int .i64 0,.int .i64 0,.string ⟨#[]⟩] 31 true)).at' (s.next+2)=some (.cells [.int .i64 0,.int .i64 0,.string ⟨#[]⟩] 31 true):=by rw[aN,if_neg (by simp only[nU];omega),aP,if_neg oM];exact e2
   have r4:((s2.put (s.next+4) (.cells [.int .i64 1,.int .i64 0,.string ⟨#[]⟩] 31 true)).new (.cells [.int .i64 0,.int .i64 0,.string ⟨#[]⟩] 31 true)).at' (s.next+4)=some (.cells [.int .i64 1,.int .i64 0,.string ⟨#[]⟩] 31 true):=by rw[aN,if_neg (by simp only[nU];omega),aP,if_pos rfl]
   have r5:((s2.put (s.next+4) (.cells [.int .i64 1,.int .i64 0,.string ⟨#[]⟩] 31 true)).new (.cells [.int .i64 0,.int .i64 0,.string ⟨#[]⟩] 31 true)).at' s2.next=some (.cells [.int .i64 0,.int .i64 0,.string ⟨#[]⟩] 31 true):=by rw[aN,if_pos (by simp only[nU])]
   have nP:((s2.put (s.next+4) (.cells [.int .i64 1,.int .i64 0,.string ⟨#[]⟩] 31 true)).new (.cells [.int .i64 0,.int .i64 0,.string ⟨#[]⟩] 31 true)).next=s2.next+1:=rfl
   have g5:¬ ownS q gb ov tv O s2.next:=p1.fresh (by simp only[nU];omega)
   have uP:=pu1.trans (.of_le lP)
   generalize ((s2.put (s.next+4) (.cells [.int .i64 1,.int .i64 0,.string ⟨#[]⟩] 31 true)).new (.cells [.int .i64 0,.int .i64 0,.string ⟨#[]⟩] 31 true))=P2 at lP p2 r2 r4 r5 nP uP ⊢
   obtain⟨_,tg3,pf3,pn3,sl3,bs3,hin3⟩:=p2.heap
   refine hown2_spec hin3 ha fun s4 va vb vx kb l4=>?_
   have r2:=(l4.2 (s.next+2) oM).trans r2
   have r4:=(l4.2 (s.next+4) oM).trans r4
   have r5:=(l4.2 s2.next oM).trans r5
   have n25:¬ s.next+2=s2.next:=oM
   have n45:¬ s.next+4=s2.next:=oM
   have eD:D=objS D 3 (k,m,x) (k2,m2,x2):=eo.symm
   have w4:=fun B=>(p2.le l4).loc (c:=s2.next) (B:=B) (uP.trans (.of_le l4)) oM g5
   cases kb with
   |true =>
    unfold vA
    simp only[↓Zd,Zp,Zs,simprocAttr,HEx,TAx,r2,r4,r5,n25,n45,q23]
    have:=fin4 (s2:=s4.put s2.next (.cells [.int .i64 va,.int .i64 vb,.string vx] 31 true)) (D2:=D) 1 1 ⟨#[]⟩ eD oM (w4 _).1 (w4 _).2 g2 g4
    rw[hg]at this
    exact this _ _
   |false =>
    unfold vA
    simp only[↓Zd,Zp,Zs,simprocAttr,HEx,TAx,r2,r4,r5,n25,n45]
    have:=fin (s2:=s4.put s2.next (.cells [.int .i64 va,.int .i64 vb,.string vx] 31 true)) (D2:=D) 1 0 ⟨#[]⟩ eD oM (w4 _).1 (w4 _).2 g2
    rw[hg]at this
    exact this _
  ·rw[decide_eq_false hk]
   rw[decide_eq_false hk]at eo
   refine sis_spec hTI fun s2 h2 u2=>?_
   have e0:=((u2.loc (c:=s.next) oM hf0).2).trans d0
   have e1:=((u2.loc (c:=s.next+1) oM hf1).2).trans d1
   obtain⟨g2,e2⟩:=u2.loc (c:=s.next+2) oM hf2
   have e2:=e2.trans d2
   have e3:=((u2.loc (c:=s.next+3) oM hf3).2).trans d3
   obtain⟨g4,e4⟩:=u2.loc (c:=s.next+4) oM hf4
   have e4:=e4.trans d4
   have eb:=(u2.keep b oM hbo).trans cbT
   have n2:=u2.next
   have i1:=goes_is30 (D:=D)
   rw[i1]
   simp only[↓Zd,Zp,Zs,simprocAttr,HEx,e2,e4]
   have:=fin (s2:=s2) (D2:=isS D false) 0 0 ⟨#[]⟩ eo.symm oM h2 (uT.trans u2) g2
   rw[i1]at this
   exact this _
 ·have eo:objS D 4 (k,m,x) (k2,m2,x2)=D:=by simp[objS]
  simp only[↓Zd,Zp,Zs,simprocAttr,HEx,TAx,cb,hb,hnb,hnb1,hnb2,hqn,hqn1,hqn2,hqn3,hqn4,v2,h0n,co127,ord70]
  rw[← hS]
  refine hproto_spec hin ha ?_
  by_cases hp0:0<protoV D.H m
  ·simp only[↓Zd,Zp,Zs,simprocAttr,HEx,d2,d4,q23,hp0,bv2]
   have:=fin4 (s2:=S) (D2:=D) 4 (protoV D.H m) ⟨#[]⟩ eo.symm oM hSI uS hf2 hf4
   rw[hg]at this
   exact this _ _
  ·simp only[↓Zd,Zp,Zs,simprocAttr,HEx,d2,d4,hp0]
   have:=fin (s2:=S) (D2:=D) 0 0 ⟨#[]⟩ eo.symm oM hSI uS hf2
   rw[hg]at this
   exact this _
 ·have eo:objS D 5 (k,m,x) (k2,m2,x2)=chS D (decide (k2=4) || decide (k2=0)) m (protoH D.H m m2) (protoE D.H m m2):=by simp[objS]
  have hn2:n=2:=by have:builtN 5=2:=rfl;omega
  subst hn2
  have hu2:=hu2 rfl
  obtain⟨y1,y2,y3⟩:=val3_at hu2
  simp only at y1 y2 y3
  rw[show (o+1)*3=o*3+3 by omega]at y1 y2 y3
  have hm2 : -9223372036854775808≤m2∧m2≤9223372036854775807:=ha2 rfl
  have l12:(1:Int)<((2:Nat):Int):=oM
  rcases (show k2=4∨k2=0∨(¬ k2=4∧¬ k2=0) by omega) with hk|hk|⟨hk,hk'⟩
  ·subst hk
   simp only[↓Zd,Zp,Zs,simprocAttr,HEx,TAx,cb,hnb,hnb1,hnb2,hnb3,hnb4,v2,y1,co64,ord70]
   rw[← hS]
   refine sis_spec hSI fun s2 h2 u2=>?_
   have e0:=((u2.loc (c:=s.next) oM hf0).2).trans d0
   have e1:=((u2.loc (c:=s.next+1) oM hf1).2).trans d1
   obtain⟨g2,e2⟩:=u2.loc (c:=s.next+2) oM hf2
   have e2:=e2.trans d2
   have e3:=((u2.loc (c:=s.next+3) oM hf3).2).trans d3
   obtain⟨g4,e4⟩:=u2.loc (c:=s.next+4) oM hf4
   have e4:=e4.trans d4
   have eb:=(u2.keep b oM hbo).trans cbS
   have n2:=u2.next
   have i1:isS D true=D:=rfl
   rw[i1]at h2
   rw[i1,hg]
   have eo:=eo.trans (show _=watchS D m (protoH D.H m m2) (protoE D.H m m2) by unfold chS;rw[hg];rfl)
   simp only[↓Zd,Zp,simprocAttr,cld2,HEx,TAx,e0,e3,co73]
   refine swatch_spec (H':=protoH D.H m m2) (e:=protoE D.H m m2) co152 h2 hN ha (fun K hK=>sobj1_spec (n:=0) (qn:=0) h2 oM oM ha hm2 e0 e3 e1 eb hu2 hK) fun s3 O3 tv3 h3 u3=>?_
   have r1:=((u3.loc (c:=s.next+1) oM (u2.loc (c:=s.next+1) oM hf1).1).2).trans e1
   obtain⟨t2,r2⟩:=u3.loc (c:=s.next+2) oM g2
   have r2:=r2.trans e2
   obtain⟨t4,r4⟩:=u3.loc (c:=s.next+4) oM g4
   have r4:=r4.trans e4
   have eb3:=(u3.keep b oM (u2.loc (c:=b) oM hbo).1).trans eb
   have hu3:=(uS.trans u2).trans u3
   cases hg3:goesB (watchS D m (protoH D.H m m2) (protoE D.H m m2)) with
   |true =>
    simp only[↓Zd,Zp,Zs,simprocAttr,HEx,r1,r2,r4,eb3,w1,w2,Nat.add_zero,q23]
    have:=fin4 (s2:=s3) k m x eo.symm oM h3 hu3 t2 t4
    rw[hg3]at this
    exact this _ _
   |false =>
    simp only[↓Zd,Zp,Zs,simprocAttr,HEx,r2,r4]
    have:=fin (s2:=s3) 0 0 ⟨#[]⟩ eo.symm oM h3 hu3 t2
    rw[hg3]at this
    exact this _
  ·subst hk
   simp only[↓Zd,Zp,Zs,simprocAttr,HEx,TAx,cb,hnb,hnb1,hnb2,hnb3,hnb4,v2,y1,co64,ord70]
   rw[← hS]
   refine sis_spec hSI fun s2 h2 u2=>?_
   have e0:=((u2.loc (c:=s.next) oM hf0).2).trans d0
   have e1:=((u2.loc (c:=s.next+1) oM hf1).2).trans d1
   obtain⟨g2,e2⟩:=u2.loc (c:=s.next+2) oM hf2
   have e2:=e2.trans d2
   have e3:=((u2.loc (c:=s.next+3) oM hf3).2).trans d3
   obtain⟨g4,e4⟩:=u2.loc (c:=s.next+4) oM hf4
   have e4:=e4.trans d4
   have eb:=(u2.keep b oM hbo).trans cbS
   have n2:=u2.next
   have i1:isS D true=D:=rfl
   rw[i1]at h2
   rw[i1,hg]
   have eo:=eo.trans (show _=watchS D m (protoH D.H m m2) (protoE D.H m m2) by unfold chS;rw[hg];rfl)
   simp only[↓Zd,Zp,simprocAttr,cld2,HEx,TAx,e0,e3,co73]
   refine swatch_spec (H':=protoH D.H m m2) (e:=protoE D.H m m2) co152 h2 hN ha (fun K hK=>sobj1_spec (n:=0) (qn:=0) h2 oM oM ha hm2 e0 e3 e1 eb hu2 hK) fun s3 O3 tv3 h3 u3=>?_
   have r1:=((u3.loc (c:=s.next+1) oM (u2.loc (c:=s.next+1) oM hf1).1).2).trans e1
   obtain⟨t2,r2⟩:=u3.loc (c:=s.next+2) oM g2
   have r2:=r2.trans e2
   obtain⟨t4,r4⟩:=u3.loc (c:=s.next+4) oM g4
   have r4:=r4.trans e4
   have eb3:=(u3.keep b oM (u2.loc (c:=b) oM hbo).1).trans eb
   have hu3:=(uS.trans u2).trans u3
   cases hg3:goesB (watchS D m (protoH D.H m m2) (protoE D.H m m2)) with
   |true =>
    simp only[↓Zd,Zp,Zs,simprocAttr,HEx,r1,r2,r4,eb3,w1,w2,Nat.add_zero,q23]
    have:=fin4 (s2:=s3) k m x eo.symm oM h3 hu3 t2 t4
    rw[hg3]at this
    exact this _ _
   |false =>
    simp only[↓Zd,Zp,Zs,simprocAttr,HEx,r2,r4]
    have:=fin (s2:=s3) 0 0 ⟨#[]⟩ eo.symm oM h3 hu3 t2
    rw[hg3]at this
    exact this _
  ·rw[decide_eq_false hk,decide_eq_false hk']at eo
   simp only[↓Zd,Zp,Zs,simprocAttr,HEx,TAx,cb,hnb,hnb1,hnb2,hnb3,hnb4,v2,y1,hk,hk',co64,ord70]
   rw[← hS]
   refine sis_spec hSI fun s2 h2 u2=>?_
   have e0:=((u2.loc (c:=s.next) oM hf0).2).trans d0
   have e1:=((u2.loc (c:=s.next+1) oM hf1).2).trans d1
   obtain⟨g2,e2⟩:=u2.loc (c:=s.next+2) oM hf2
   have e2:=e2.trans d2
   have e3:=((u2.loc (c:=s.next+3) oM hf3).2).trans d3
   obtain⟨g4,e4⟩:=u2.loc (c:=s.next+4) oM hf4
   have e4:=e4.trans d4
   have eb:=(u2.keep b oM hbo).trans cbS
   have n2:=u2.next
   have i1:=goes_is30 (D:=D)
   have eo:objS D 5 (k,m,x) (k2,m2,x2)=isS D false:=eo.trans (chS_no (so:=false || false) i1)
   rw[i1]
   simp only[↓Zd,Zp,Zs,simprocAttr,HEx,e2,e4]
   have:=fin (s2:=s2) (D2:=isS D false) 0 0 ⟨#[]⟩ eo.symm oM h2 (uS.trans u2) g2
   rw[i1]at this
   exact this _
end
def BBx := (aI (aI (aI (aI (aI (aI @underlying3 (aI @sz3 @is3)) (aI (aI @ce3 @ag3) (aI @ze3 @underlying4))) (aI (aI @sz4 (aI @is4 @ce4)) (aI (aI @ag4 @ze4) (aI @be4 @bn4)))) (aI (aI (aI @underlying9 (aI @sz9 @is9)) (aI (aI @ce9 @ag9) (aI @ze9 @underlying31))) (aI (aI (aI @sz31 @is31) (aI @ce31 @ag31)) (aI (aI @ze31 @fa31x0) (aI @fa31x1 @fa31x2))))) (aI (aI (aI (aI @underlying48 (aI @sz48 @is48)) (aI (aI @ce48 @ag48) (aI @ze48 @underlying74))) (aI (aI (aI @sz74 @is74) (aI @ce74 @ag74)) (aI (aI @ze74 @fa74x0) (aI @fa74x1 @fa74x2)))) (aI (aI (aI @underlying70 (aI @sz70 @is70)) (aI (aI @ce70 @ag70) (aI @ze70 @underlying72))) (aI (aI (aI @sz72 @is72) (aI @ce72 @ag72)) (aI (aI @ze72 @fa72x0) (aI @fa72x1 @fa72x2)))))) (aI (aI (aI (aI (aI @fa72x3 (aI @fa72x4 @underlying58)) (aI (aI @sz58 @is58) (aI @ce58 @ag58))) (aI (aI (aI @ze58 @underlying60) (aI @sz60 @is60)) (aI (aI @ce60 @ag60) (aI @ze60 @fa60x0)))) (aI (aI (aI @fa60x1 (aI @fa60x2 @underlying88)) (aI (aI @sz88 @is88) (aI @ce88 @ag88))) (aI (aI (aI @ze88 @underlying39) (aI @sz39 @is39)) (aI (aI @ce39 @ag39) (aI @ze39 @underlying75))))) (aI (aI (aI (aI @sz75 (aI @is75 @ce75)) (aI (aI @ag75 @underlying122) (aI @sz122 @is122))) (aI (aI (aI @ce122 @ag122) (aI @underlying224 @sz224)) (aI (aI @is224 @ce224) (aI @ag224 @underlying62)))) (aI (aI (aI @sz62 (aI @is62 @ce62)) (aI (aI @ag62 @ze62) (aI @fa62x0 @fa62x1))) (aI (aI (aI @fa62x2 @fa62x3) (aI @fa62x4 @underlying227)) (aI (aI @sz227 @is227) (aI @ce227 @ag227)))))))
theorem rowWords : crow prog 39 7 #[(0, .string ⟨#[99, 111, 117, 110, 116]⟩), (1, .string ⟨#[107, 101, 121]⟩), (2, .string ⟨#[104, 97, 115]⟩), (3, .string ⟨#[112, 114, 111, 116, 111]⟩), (4, .string ⟨#[115, 101, 116, 112, 114, 111, 116, 111]⟩), (5, .string ⟨#[108, 101, 110]⟩), (6, .string ⟨#[115, 116, 114]⟩)] = some (.cells [.string ⟨#[99, 111, 117, 110, 116]⟩, .string ⟨#[107, 101, 121]⟩, .string ⟨#[104, 97, 115]⟩, .string ⟨#[112, 114, 111, 116, 111]⟩, .string ⟨#[115, 101, 116, 112, 114, 111, 116, 111]⟩, .string ⟨#[108, 101, 110]⟩, .string ⟨#[115, 116, 114]⟩] 9 true) := oK
section
end
section
variable {lo q N p gb : Nat} {D : StD} {O W : Nat → Prop} {ov tv : Value}
theorem rbuilt_spec {a : Int} (hR : ∀ s' x, s.le s' → R (.tuple #[.string x, .int .i64 (builtN a)]) s') : QC prog w0 92 #[.int .i64 a] s R := by
  refine wfun2 hmix ok92 func92 rfl ntmps92 results92 (by simp) ?_
  have hl : ∀ C : Blk, s.le (s.new C) := fun C => lN (lR _)
  unfold builtN at hR
  rcases (show a < 1 ∨ 7 < a ∨ a = 1 ∨ a = 2 ∨ a = 3 ∨ a = 4 ∨ a = 5 ∨ a = 6 ∨ a = 7 by omega) with h | h | rfl | rfl | rfl | rfl | rfl | rfl | rfl
  · rw [if_pos (.inl h)] at hR
    simp only [↓Zd, (Zp), if_true, if_false, Nat.reduceEqDiff, reduceCtorEq, rowWords, h]
    exact hR _ _ (hl _)
  · rw [if_pos (.inr h)] at hR
    have h1 : ¬ a < 1 := oM
    simp only [↓Zd, (Zp), if_true, if_false, Nat.reduceEqDiff, reduceCtorEq, rowWords, h, h1]
    exact hR _ _ (hl _)
  all_goals
    have w0 : IntKind.i64.wrap (1 - 1) = 0 := by decide
    have w1 : IntKind.i64.wrap (2 - 1) = 1 := by decide
    have w2 : IntKind.i64.wrap (3 - 1) = 2 := by decide
    have w3 : IntKind.i64.wrap (4 - 1) = 3 := by decide
    have w4 : IntKind.i64.wrap (5 - 1) = 4 := by decide
    have w5 : IntKind.i64.wrap (6 - 1) = 5 := by decide
    have w6 : IntKind.i64.wrap (7 - 1) = 6 := by decide
    have b0 : (0 : Int) < ((7 : Nat) : Int) := oM
    have b1 : (1 : Int) < ((7 : Nat) : Int) := oM
    have b2 : (2 : Int) < ((7 : Nat) : Int) := oM
    have b3 : (3 : Int) < ((7 : Nat) : Int) := oM
    have b4 : (4 : Int) < ((7 : Nat) : Int) := oM
    have b5 : (5 : Int) < ((7 : Nat) : Int) := oM
    have b6 : (6 : Int) < ((7 : Nat) : Int) := oM
    simp at hR
    simp only [↓Zd, (Zp), if_true, if_false, Nat.reduceEqDiff, reduceCtorEq, Int.reduceEq, Int.reduceLE, Int.reduceLT, Int.reduceToNat, cld2, (BBx), rowWords, b0, b1, b2, b3, b4, b5, b6, Int.toNat_zero, w0, w1, w2, w3, w4, w5, w6]
    exact hR _ _ (hl _)
theorem shape_abs6 {P : Program} {t : TypeId} {v : Value} {ops : Array Oper} {Q : Env → St M → Prop} {rest : List Oper} {env : Env} {d : Option Tmp} (l : List Nat) (h : ∀ env' : Env, (∀ i ∈ l, env' i = env i) → Cs.shape P t v fun v => wreg P w0 ops Q rest (wput env' d v) s) : Cs.shape P t v fun v => wreg P w0 ops Q rest (wput env d v) s := h env fun _ _ => rfl
theorem rkey2_spec {H : Hp} {tg : Nat → Nat} {pf : Nat} {sl tl : Value} {bs : List Nat} {i k : Int} (h : RHpIn lo s p H N O tg pf sl tl bs) (hR : ∀ kx kb, R (.tuple #[.string kx, .bool kb]) s) : QC prog w0 192 #[.pointer (some ⟨p, 0, none⟩), .int .i64 i, .int .i64 k] s R := by
  refine rkey_spec h ?_
  cases obAt H i with
  | none => exact hR _ _
  | some o =>
    unfold keyV
    simp only
    split
    · exact hR _ _
    · exact hR _ _
theorem rown2_spec {H : Hp} {tg : Nat → Nat} {pf : Nat} {sl tl : Value} {bs : List Nat} {i : Int} {x : ByteArray} (h : RHpIn lo s p H N O tg pf sl tl bs) (hR : ∀ s' a b z t, s.le s' → R (.tuple #[.agg #[.int .i64 a, .int .i64 b, .string z], .bool t]) s') : QC prog w0 181 #[.pointer (some ⟨p, 0, none⟩), .int .i64 i, .string x] s R := by
  refine rown_spec h fun s' l => ?_
  unfold gotV
  split
  · exact hR _ _ _ _ _ l
  · exact hR _ _ _ _ _ l
theorem lenV_tup2 (k : Int) (x : ByteArray) : ∃ (a b : Int) (x' : ByteArray) (e : Int), lenV k x = .tuple #[.agg #[.int .i64 a, .int .i64 b, .string x'], .int .i64 e] := lenV_tup k x
theorem textV_tup2 (k n : Int) (x : ByteArray) (m : Int) : ∃ (a b : Int) (x' : ByteArray) (e : Int), textV k n x m = .tuple #[.agg #[.int .i64 a, .int .i64 b, .string x'], .int .i64 e] := textV_tup k n x m
theorem rsbuilt_spec {b c : Nat} {op : Int} {l : List (Int × Int × ByteArray)} {own : Bool} (h : RSAt lo s q N W) (hlo : lo ≤ s.next) (hN : N + 4 ≤ 1000000) (hI : ∀ v ∈ l, I64 v.2.1) (hl2 : l.length ≤ 100)
    (hbn : b < s.next) (hbo : ¬ W b) (cb : s.at' b = some (.cells (l.flatMap val3) 31 own))
    (hR : ∀ s' W' k m x t, RSAt lo s' q (N + 4) W' → Upd s s' W W' → R (.tuple #[vA k m x, .bool t]) s') :
    QC prog w0 114 #[.pointer (some ⟨q, 0, none⟩), .int .i64 op, .slice (some ⟨b, 0, none⟩) l.length c] s R := by
  refine wfun2 hmix ok114 func114 rfl ntmps114 results114 (by simp) ?_
  have l1 : s.le (s.new (.cells [.int .i64 0, .int .i64 0, .string ⟨#[]⟩] 31 true)) := lN (lR _)
  have k1 : (s.new (.cells [.int .i64 0, .int .i64 0, .string ⟨#[]⟩] 31 true)).at' s.next = some (.cells [.int .i64 0, .int .i64 0, .string ⟨#[]⟩] 31 true) := by rw [aN, if_pos rfl]
  have kb := (l1.2 b hbn).trans cb
  have n1 : (s.new (.cells [.int .i64 0, .int .i64 0, .string ⟨#[]⟩] 31 true)).next = s.next + 1 := rfl
  have f1 := h.fresh (Nat.le_refl _)
  have h1 := h.le l1
  obtain ⟨D, O, p, gb, ov, tv, hin0, hW⟩ := id h
  have hb := hin0.bl
  unfold rsC at hb
  have hqn : ¬ q = s.next := by have := hin0.q0; omega
  have hin := hin0.le l1
  generalize hs1 : s.new (.cells [.int .i64 0, .int .i64 0, .string ⟨#[]⟩] 31 true) = s1 at l1 k1 kb n1 h1 hin
  have fin : ∀ {s2 : St M} {W2 : Nat → Prop} {N2 : Nat} (k m : Int) (x : ByteArray) (t : Bool), RSAt lo s2 q N2 W2 → Upd s1 s2 W W2 → N2 ≤ N + 4 → ∀ B, R (.tuple #[vA k m x, .bool t]) (s2.put s.next B) := fun {s2 W2 N2} k m x t g1 g2 g3 B => by
    have f2 : ¬ W2 s.next := fun hc => by
      rcases g2.own _ hc with h | h
      · exact f1 h
      · omega
    obtain ⟨a, b⟩ := (g1.mono g3).loc (s := s) (c := s.next) (B := B) ((Upd.of_le l1).trans g2) (Nat.le_refl _) f2
    exact hR _ _ _ _ _ _ a b
  have keep : ∀ {s2 : St M} {W2 : Nat → Prop}, Upd s1 s2 W W2 → s2.at' s.next = some (.cells [.int .i64 0, .int .i64 0, .string ⟨#[]⟩] 31 true) ∧ s2.at' b = some (.cells (l.flatMap val3) 31 own) ∧ s.next + 1 ≤ s2.next ∧ ¬ W2 s.next ∧ ¬ W2 b := fun {s2 W2} u =>
    ⟨(u.keep s.next oM f1).trans k1, (u.keep b oM hbo).trans kb, by have := u.next; omega, fun hc => by (rcases u.own _ hc with h | h; exact f1 h; omega), fun hc => by (rcases u.own _ hc with h | h; exact hbo h; omega)⟩
  unfold vA at fin
  by_cases hk : D.kind = 0
  case neg =>
    simp only [↓Zd, (Zp), if_true, if_false, Nat.reduceEqDiff, reduceCtorEq, Nat.reduceAdd, Nat.reduceLeDiff, Zs, (HEx), (RSx), hb, hk, hqn]
    rw [hs1]
    exact fin _ _ _ _ h1 .refl oM _
  simp only [↓Zd, (Zp), if_true, if_false, Nat.reduceEqDiff, reduceCtorEq, Zs, (HEx), (RSx), hb, hk, hqn, co92]
  rw [hs1]
  refine rbuilt_spec fun s2 x l2 => ?_
  refine shape_abs6 [0, 1, 2, 6] fun env he => ?_
  have t0 : env 0 = .pointer (some ⟨q, 0, none⟩) := he 0 (by simp)
  have t1 : env 1 = .int .i64 op := he 1 (by simp)
  have t2 : env 2 = .slice (some ⟨b, 0, none⟩) l.length c := he 2 (by simp)
  have t6 : env 6 = .pointer (some ⟨s.next, 0, none⟩) := he 6 (by simp)
  clear he
  have h2 := h1.le l2
  have u2 : Upd s1 s2 W W := .of_le l2
  obtain ⟨k2, kb2, n2, f2, fb2⟩ := keep u2
  have hq0 := hin.q0
  have hb2 := (hin.le l2).bl
  unfold rsC at hb2
  have bad : ∀ {K : Value → St M → Prop}, (∀ s3 a b x t, RSAt lo s3 q N W → Upd s2 s3 W W → K (.tuple #[.agg #[.int .i64 a, .int .i64 b, .string x], .bool t]) s3) → ∀ (a b e : Int) (x : ByteArray), QC prog w0 103 #[.pointer (some ⟨q, 0, none⟩), .agg #[.int .i64 a, .int .i64 b, .string x], .int .i64 e] s2 K := fun hK a b e x => rsmade_spec h2 fun s3 a b x t h3 u3 => hK s3 a b x t h3 u3
  by_cases hz : builtN op = 0
  · simp only [↓Zd, (Zp), if_true, if_false, Nat.reduceEqDiff, reduceCtorEq, (HEx), t0, underlying122, hz, co103]
    refine bad (fun s3 a3 b3 x3 t3 h3 u3 => ?_) _ _ _ _
    obtain ⟨k3, kb3, n3, f3, fb3⟩ := keep (u2.trans u3)
    simp only [↓Zd, (Zp), if_true, if_false, Nat.reduceEqDiff, Nat.reduceAdd, Nat.reduceLeDiff, Zs, (HEx), (TAx), t6, k3]
    exact fin _ _ _ _ h3 (u2.trans u3) oM _
  by_cases hl : (l.length : Int) = builtN op
  case neg =>
    simp only [↓Zd, (Zp), if_true, if_false, Nat.reduceEqDiff, reduceCtorEq, (HEx), t0, t2, underlying122, hz, hl, co103]
    refine bad (fun s3 a3 b3 x3 t3 h3 u3 => ?_) _ _ _ _
    obtain ⟨k3, kb3, n3, f3, fb3⟩ := keep (u2.trans u3)
    simp only [↓Zd, (Zp), if_true, if_false, Nat.reduceEqDiff, Nat.reduceAdd, Nat.reduceLeDiff, Zs, (HEx), (TAx), t6, k3]
    exact fin _ _ _ _ h3 (u2.trans u3) oM _
  -- what is there
  have hop : op = 1 ∨ op = 2 ∨ op = 3 ∨ op = 4 ∨ op = 5 ∨ op = 6 ∨ op = 7 := by unfold builtN at hz; split at hz <;> omega
  have hl0 : l.length = 1 ∨ l.length = 2 := by unfold builtN at hl; (repeat' split at hl) <;> omega
  obtain ⟨⟨k, m, x0⟩, r, rfl⟩ : ∃ a r, l = a :: r := by cases l with | nil => simp at hl0 | cons a r => exact ⟨a, r, rfl⟩
  have hm : I64 m := hI (k, m, x0) (by simp)
  have g0 : (0 : Int) < (((k, m, x0) :: r).length : Int) := by rw [List.length_cons]; omega
  have e0 : ((k, m, x0) :: r).flatMap val3 = .int .i64 k :: .int .i64 m :: .string x0 :: r.flatMap val3 := rfl
  rw [e0] at kb2
  generalize hlen : ((k, m, x0) :: r).length = ll at hl g0 hl0 t2 ⊢
  rcases hop with rfl | rfl | rfl | rfl | rfl | rfl | rfl
  case inr.inr.inr.inr.inr.inl =>
    have hll : ll = 1 := by have : builtN 6 = 1 := rfl; omega
    subst hll
    have hB : builtN 6 = ((1 : Nat) : Int) := rfl
    have hB0 : ¬ ((1 : Nat) : Int) = 0 := oM
    obtain ⟨va, vb, vy, e, hV⟩ := lenV_tup2 k x0
    simp only [↓Zd, (Zp), if_true, if_false, Nat.reduceEqDiff, reduceCtorEq, Int.reduceLE, Nat.reduceAdd, Nat.reduceLeDiff, Int.reduceToNat, Zs, (HEx), t0, t1, t2, underlying122, hB, hB0, kb2, g0, co189]
    refine rlen_spec fun s3 l3 => ?_
    simp only [↓Zd, (Zp), if_true, if_false, Nat.reduceEqDiff, underlying253, hV, co103]
    refine rsmade_spec (h2.le l3) fun s4 a4 b4 x4 t4 h4 u4 => ?_
    have u14 := (u2.trans (.of_le l3)).trans u4
    obtain ⟨k4, kb4, n4, f4, fb4⟩ := keep u14
    unfold vA
    simp only [↓Zd, (Zp), if_true, if_false, Nat.reduceEqDiff, Nat.reduceAdd, Nat.reduceLeDiff, Zs, (HEx), (TAx), t6, k4]
    exact fin _ _ _ _ h4 u14 oM _
  case inr.inr.inr.inr.inr.inr =>
    have hll : ll = 1 := by have : builtN 7 = 1 := rfl; omega
    subst hll
    have hB : builtN 7 = ((1 : Nat) : Int) := rfl
    have hB0 : ¬ ((1 : Nat) : Int) = 0 := oM
    obtain ⟨va, vb, vy, e, hV⟩ := textV_tup2 k m x0 D.l3
    simp only [↓Zd, (Zp), if_true, if_false, Nat.reduceEqDiff, reduceCtorEq, Int.reduceEq, Int.reduceLE, Nat.reduceAdd, Nat.reduceLeDiff, Int.reduceToNat, Zs, (HEx), (TAx), (RSx), t0, t1, t2, underlying122, hB, hB0, hb2, kb2, g0, co190, ord114]
    refine rtext_spec hm fun s3 l3 => ?_
    simp only [↓Zd, (Zp), if_true, if_false, Nat.reduceEqDiff, Nat.reduceBEq, underlying253, hV, co103]
    refine rsmade_spec (h2.le l3) fun s4 a4 b4 x4 t4 h4 u4 => ?_
    have u14 := (u2.trans (.of_le l3)).trans u4
    obtain ⟨k4, kb4, n4, f4, fb4⟩ := keep u14
    unfold vA
    simp only [↓Zd, (Zp), if_true, if_false, Nat.reduceEqDiff, Nat.reduceAdd, Nat.reduceLeDiff, Zs, (HEx), (TAx), t6, k4]
    exact fin _ _ _ _ h4 u14 oM _
  case inl =>
    have hll : ll = 1 := by have : builtN 1 = 1 := rfl; omega
    subst hll
    have hB : builtN 1 = ((1 : Nat) : Int) := rfl
    have hB0 : ¬ ((1 : Nat) : Int) = 0 := oM
    by_cases hk4 : k = 4
    all_goals
      simp only [↓Zd, (Zp), if_true, if_false, Nat.reduceEqDiff, reduceCtorEq, Int.reduceEq, Int.reduceLE, Int.reduceToNat, cld2, (HEx), t0, t1, t2, underlying122, hB, hB0, kb2, g0, hk4, co104]
      refine rsmust_spec h2 fun s3 b3 h3 u3 => ?_
      refine shape_abs6 [0, 1, 2, 6] fun env2 he2 => ?_
      have t0 := (he2 0 (by simp)).trans t0
      have t1 := (he2 1 (by simp)).trans t1
      have t2 := (he2 2 (by simp)).trans t2
      have t6 := (he2 6 (by simp)).trans t6
      clear he2
      have u13 := u2.trans u3
      obtain ⟨k3, kb3, n3, f3, fb3⟩ := keep u13
      rw [e0] at kb3
      cases b3 with
      | false =>
        simp only [↓Zd, (Zp), if_true, if_false, Nat.reduceEqDiff, Nat.reduceAdd, Nat.reduceLeDiff, Zs, (HEx), t6, k3]
        exact fin _ _ _ _ h3 u13 oM _
      | true =>
        obtain ⟨D3, O3, p3, gb3, ov3, tv3, hin3, hW3⟩ := id h3
        have hb3 := hin3.bl
        unfold rsC at hb3
        obtain ⟨_, tg, pf, sl, tl, bs, hh⟩ := hin3.heap
        simp only [↓Zd, (Zp), if_true, if_false, Nat.reduceEqDiff, reduceCtorEq, Int.reduceLE, Int.reduceToNat, cld2, (HEx), (REx), (RSx), t0, t1, t2, hb3, kb3, g0, co191]
        refine rcount_spec hh ?_
        simp only [↓Zd, (Zp), if_true, if_false, Nat.reduceEqDiff, Nat.reduceAdd, Nat.reduceLeDiff, Zs, (HEx), t6, k3, bv2]
        exact fin _ _ _ _ h3 u13 oM _
  case inr.inr.inr.inl =>
    have hll : ll = 1 := by have : builtN 4 = 1 := rfl; omega
    subst hll
    have hB : builtN 4 = ((1 : Nat) : Int) := rfl
    have hB0 : ¬ ((1 : Nat) : Int) = 0 := oM
    by_cases hk4 : k = 4
    all_goals
      simp only [↓Zd, (Zp), if_true, if_false, Nat.reduceEqDiff, reduceCtorEq, Int.reduceEq, Int.reduceLE, Int.reduceToNat, cld2, (HEx), t0, t1, t2, underlying122, hB, hB0, kb2, g0, hk4, co104]
      refine rsmust_spec h2 fun s3 b3 h3 u3 => ?_
      refine shape_abs6 [0, 1, 2, 6] fun env2 he2 => ?_
      have t0 := (he2 0 (by simp)).trans t0
      have t1 := (he2 1 (by simp)).trans t1
      have t2 := (he2 2 (by simp)).trans t2
      have t6 := (he2 6 (by simp)).trans t6
      clear he2
      have u13 := u2.trans u3
      obtain ⟨k3, kb3, n3, f3, fb3⟩ := keep u13
      rw [e0] at kb3
      cases b3 with
      | false =>
        simp only [↓Zd, (Zp), if_true, if_false, Nat.reduceEqDiff, Nat.reduceAdd, Nat.reduceLeDiff, Zs, (HEx), t6, k3]
        exact fin _ _ _ _ h3 u13 oM _
      | true =>
        obtain ⟨D3, O3, p3, gb3, ov3, tv3, hin3, hW3⟩ := id h3
        have hb3 := hin3.bl
        unfold rsC at hb3
        obtain ⟨_, tg, pf, sl, tl, bs, hh⟩ := hin3.heap
        simp only [↓Zd, (Zp), if_true, if_false, Nat.reduceEqDiff, reduceCtorEq, Int.reduceEq, Int.reduceLE, Int.reduceToNat, cld2, (HEx), (REx), (RSx), t0, t1, t2, hb3, kb3, g0, co193]
        refine rproto_spec hh ?_
        by_cases hp : 0 < protoV D3.H m
        · simp only [↓Zd, (Zp), if_true, if_false, Nat.reduceEqDiff, Nat.reduceAdd, Nat.reduceLeDiff, Zs, (HEx), t6, k3, hp, bv2]
          exact fin _ _ _ _ h3 u13 oM _
        · simp only [↓Zd, (Zp), if_true, if_false, Nat.reduceEqDiff, Nat.reduceAdd, Nat.reduceLeDiff, Zs, (HEx), t6, k3, hp]
          exact fin _ _ _ _ h3 u13 oM _
  all_goals
    have hl22 : ll = 2 := by have : builtN 2 = 2 := rfl; have : builtN 3 = 2 := rfl; have : builtN 5 = 2 := rfl; omega
    subst hl22
    obtain ⟨⟨kk, mm, xx⟩, r2, rfl⟩ : ∃ a r2, r = a :: r2 := by cases r with | nil => simp at hlen | cons a r => exact ⟨a, r, rfl⟩
    have hmm : I64 mm := hI (kk, mm, xx) (by simp)
    have e2 : ((kk, mm, xx) :: r2).flatMap val3 = .int .i64 kk :: .int .i64 mm :: .string xx :: r2.flatMap val3 := rfl
    rw [e2] at kb2
    have g1 : (1 : Int) < ((2 : Nat) : Int) := oM
  case inr.inl =>
    have hB : builtN 2 = ((2 : Nat) : Int) := rfl
    have hB0 : ¬ ((2 : Nat) : Int) = 0 := oM
    by_cases hk4 : k = 4 <;> by_cases hk2 : kk = 2
    all_goals
      simp only [↓Zd, (Zp), if_true, if_false, Nat.reduceEqDiff, reduceCtorEq, Int.reduceEq, Int.reduceLE, Nat.reduceAdd, Int.reduceToNat, Nat.reduceMul, cld2, (HEx), t0, t1, t2, underlying122, hB, hB0, kb2, g0, g1, hk4, hk2, co104]
      refine rsmust_spec h2 fun s3 b3 h3 u3 => ?_
      refine shape_abs6 [0, 1, 2, 6] fun env2 he2 => ?_
      have t0 := (he2 0 (by simp)).trans t0
      have t1 := (he2 1 (by simp)).trans t1
      have t2 := (he2 2 (by simp)).trans t2
      have t6 := (he2 6 (by simp)).trans t6
      clear he2
      have u13 := u2.trans u3
      obtain ⟨k3, kb3, n3, f3, fb3⟩ := keep u13
      rw [e0, e2] at kb3
      cases b3 with
      | false =>
        simp only [↓Zd, (Zp), if_true, if_false, Nat.reduceEqDiff, Nat.reduceAdd, Nat.reduceLeDiff, Zs, (HEx), t6, k3]
        exact fin _ _ _ _ h3 u13 oM _
      | true =>
        obtain ⟨D3, O3, p3, gb3, ov3, tv3, hin3, hW3⟩ := id h3
        have hb3 := hin3.bl
        unfold rsC at hb3
        obtain ⟨_, tg, pf, sl, tl, bs, hh⟩ := hin3.heap
        simp only [↓Zd, (Zp), if_true, if_false, Nat.reduceEqDiff, reduceCtorEq, Int.reduceEq, Int.reduceLE, Nat.reduceAdd, Int.reduceToNat, Nat.reduceMul, cld2, (HEx), (REx), (RSx), t0, t1, t2, hb3, kb3, g0, g1, co192, ord114]
        refine rkey2_spec hh fun kx kt => ?_
        cases kt with
        | true =>
          simp only [↓Zd, (Zp), if_true, if_false, Nat.reduceEqDiff, Nat.reduceAdd, Nat.reduceLeDiff, Nat.reduceBEq, Zs, (HEx), (TAx), t6, k3, bv3]
          exact fin _ _ _ _ h3 u13 oM _
        | false =>
          simp only [↓Zd, (Zp), if_true, if_false, Nat.reduceEqDiff, Nat.reduceAdd, Nat.reduceLeDiff, Nat.reduceBEq, Zs, (HEx), (TAx), t6, k3]
          exact fin _ _ _ _ h3 u13 oM _
  case inr.inr.inl =>
    have hB : builtN 3 = ((2 : Nat) : Int) := rfl
    have hB0 : ¬ ((2 : Nat) : Int) = 0 := oM
    by_cases hk4 : k = 4 <;> by_cases hk2 : kk = 3
    all_goals
      simp only [↓Zd, (Zp), if_true, if_false, Nat.reduceEqDiff, reduceCtorEq, Int.reduceEq, Int.reduceLE, Nat.reduceAdd, Int.reduceToNat, Nat.reduceMul, cld2, (HEx), t0, t1, t2, underlying122, hB, hB0, kb2, g0, g1, hk4, hk2, co104]
      refine rsmust_spec h2 fun s3 b3 h3 u3 => ?_
      refine shape_abs6 [0, 1, 2, 6] fun env2 he2 => ?_
      have t0 := (he2 0 (by simp)).trans t0
      have t1 := (he2 1 (by simp)).trans t1
      have t2 := (he2 2 (by simp)).trans t2
      have t6 := (he2 6 (by simp)).trans t6
      clear he2
      have u13 := u2.trans u3
      obtain ⟨k3, kb3, n3, f3, fb3⟩ := keep u13
      rw [e0, e2] at kb3
      cases b3 with
      | false =>
        simp only [↓Zd, (Zp), if_true, if_false, Nat.reduceEqDiff, Nat.reduceAdd, Nat.reduceLeDiff, Zs, (HEx), t6, k3]
        exact fin _ _ _ _ h3 u13 oM _
      | true =>
        obtain ⟨D3, O3, p3, gb3, ov3, tv3, hin3, hW3⟩ := id h3
        have hb3 := hin3.bl
        unfold rsC at hb3
        obtain ⟨_, tg, pf, sl, tl, bs, hh⟩ := hin3.heap
        have l3 : s3.le (s3.new (.cells [.int .i64 0, .int .i64 0, .string ⟨#[]⟩] 31 true)) := lN (lR _)
        have hbn3 : ¬ b = s3.next := oM
        have hqn3 : ¬ q = s3.next := by have := hin3.q0; omega
        simp only [↓Zd, (Zp), if_true, if_false, Nat.reduceEqDiff, reduceCtorEq, Int.reduceEq, Int.reduceLE, Nat.reduceAdd, Int.reduceToNat, Nat.reduceMul, Zs, (HEx), (REx), (TAx), (RSx), t0, t1, t2, hb3, kb3, g0, g1, co181, ord114]
        refine rown2_spec (hh.le l3) fun s4 ya yb yx yt l4 => ?_
        have c13 : s4.at' s3.next = some (.cells [.int .i64 0, .int .i64 0, .string ⟨#[]⟩] 31 true) := by rw [l4.2 _ (by simp only [nN]; omega), aN, if_pos rfl]
        have u14 := u13.trans (.of_le (lT l3 l4))
        obtain ⟨k4, kb4, n4, f4, fb4⟩ := keep u14
        have h4 := h3.le (lT l3 l4)
        have hne : ¬ s.next = s3.next := oM
        have hfin : ∀ (kx : Int) (mx : Int) (B B2 : Blk), R (.tuple #[.agg #[.int .i64 kx, .int .i64 mx, .string ⟨#[]⟩], .bool true]) ((s4.put s3.next B).put s.next B2) := fun kx mx B B2 => by
          obtain ⟨a1, a2⟩ := h4.loc (s := s1) (c := s3.next) (B := B) u14 (by have := u13.next; omega) (fun hc => by have := (h3.own _ hc).2; omega)
          exact fin _ _ _ _ a1 a2 oM _
        cases yt with
        | true =>
          simp only [↓Zd, (Zp), if_true, if_false, Nat.reduceEqDiff, Nat.reduceAdd, Nat.reduceLeDiff, Nat.reduceBEq, Zs, (HEx), (TAx), t6, c13, k4, hne, bv2]
          exact hfin _ _ _ _
        | false =>
          simp only [↓Zd, (Zp), if_true, if_false, Nat.reduceEqDiff, Nat.reduceAdd, Nat.reduceLeDiff, Nat.reduceBEq, Zs, (HEx), (TAx), t6, c13, k4, hne, bv1]
          exact hfin _ _ _ _
  case inr.inr.inr.inr.inl =>
    have hB : builtN 5 = ((2 : Nat) : Int) := rfl
    have hB0 : ¬ ((2 : Nat) : Int) = 0 := oM
    by_cases hk4 : k = 4 <;> by_cases hk2 : kk = 4 <;> by_cases hk0 : kk = 0
    all_goals
      (try (exfalso; omega))
    all_goals
      simp only [↓Zd, (Zp), if_true, if_false, Nat.reduceEqDiff, reduceCtorEq, Int.reduceEq, Int.reduceLE, Nat.reduceAdd, Int.reduceToNat, Nat.reduceMul, cld2, (HEx), t0, t1, t2, underlying122, hB, hB0, kb2, g0, g1, hk4, hk2, hk0, co104]
      refine rsmust_spec h2 fun s3 b3 h3 u3 => ?_
      refine shape_abs6 [0, 1, 2, 6] fun env2 he2 => ?_
      have t0 := (he2 0 (by simp)).trans t0
      have t1 := (he2 1 (by simp)).trans t1
      have t2 := (he2 2 (by simp)).trans t2
      have t6 := (he2 6 (by simp)).trans t6
      clear he2
      have u13 := u2.trans u3
      obtain ⟨k3, kb3, n3, f3, fb3⟩ := keep u13
      rw [e0, e2] at kb3
      cases b3 with
      | false =>
        simp only [↓Zd, (Zp), if_true, if_false, Nat.reduceEqDiff, Nat.reduceAdd, Nat.reduceLeDiff, Zs, (HEx), t6, k3]
        exact fin _ _ _ _ h3 u13 oM _
      | true =>
        obtain ⟨D3, O3, p3, gb3, ov3, tv3, hin3, hW3⟩ := id h3
        subst hW3
        have hb3 := hin3.bl
        unfold rsC at hb3
        simp only [↓Zd, (Zp), if_true, if_false, Nat.reduceEqDiff, reduceCtorEq, Int.reduceEq, Int.reduceLE, Nat.reduceAdd, Int.reduceToNat, Nat.reduceMul, cld2, (HEx), (REx), (RSx), t0, t1, t2, hb3, kb3, g0, g1, co194, ord114]
        refine rsetproto_spec hin3.heap oM oM fun s4 O4 hH4 hU4 => ?_
        obtain ⟨h4, u4⟩ := hin3.heaped oM hH4 hU4
        have u14 := u13.trans u4
        obtain ⟨k4, kb4, n4, f4, fb4⟩ := keep u14
        rw [e0, e2] at kb4
        have hb4 := h4.bl
        unfold rsC at hb4
        by_cases he : protoE D3.H m mm = 0
        · obtain ⟨s5, W5, happ, hq5, hqn, hn5, h5, u5⟩ := h4.touch (o := m) oM
          obtain ⟨k5, kb5, n5, f5, fb5⟩ := keep (u14.trans u5)
          rw [aP, if_neg (fun e : b = q => fb4 (e ▸ .inl rfl)), e0, e2] at kb5
          have hbq : ¬ b = q := fun e => fb4 (e ▸ .inl rfl)
          unfold rsC at hq5
          simp only [↓Zd, (Zp), if_true, if_false, Nat.reduceEqDiff, reduceCtorEq, Int.reduceLE, Nat.reduceAdd, Nat.reduceLeDiff, Int.reduceToNat, Zs, (HEx), (TAx), (RSx), t0, t2, he, hb4, hq5, hbq, kb5, g0, rowInt1, happ, co103]
          refine rsmade_spec h5 fun s6 a6 b6 x6 tt6 h6 u6 => ?_
          have u16 := (u14.trans u5).trans u6
          obtain ⟨k6, kb6, n6, f6, fb6⟩ := keep u16
          unfold vA
          simp only [↓Zd, (Zp), if_true, if_false, Nat.reduceEqDiff, Nat.reduceAdd, Nat.reduceLeDiff, Zs, (HEx), (TAx), t6, k6]
          exact fin _ _ _ _ h6 u16 oM _
        · simp only [↓Zd, (Zp), if_true, if_false, Nat.reduceEqDiff, reduceCtorEq, Int.reduceLE, Nat.reduceAdd, Nat.reduceLeDiff, Int.reduceToNat, Zs, (HEx), t0, t2, he, kb4, g0, co103]
          refine rsmade_spec (h4.to rfl) fun s6 a6 b6 x6 tt6 h6 u6 => ?_
          have u16 := u14.trans u6
          obtain ⟨k6, kb6, n6, f6, fb6⟩ := keep u16
          unfold vA
          simp only [↓Zd, (Zp), if_true, if_false, Nat.reduceEqDiff, Nat.reduceAdd, Nat.reduceLeDiff, Zs, (HEx), (TAx), t6, k6]
          exact fin _ _ _ _ h6 u16 oM _
end
section
variable {lo q N p gb:Nat}{D:StD}{O:Nat→Prop}{ov tv:Value}
theorem sbuilt_spec{b o c:Nat}{op:Int}{l us:List (Int×Int×ByteArray)}{own:Bool}(h:StIn lo s q D N O p gb ov tv)(hlo:lo≤s.next)(hN:N+4≤1000000)(hl:(l.length:Int)=builtN op∨True)(hI:∀ v∈l,I64 v.2.1)(hl2:l.length≤100)
  (hbn:b<s.next)(hbo:¬ ownS q gb ov tv O b)(cb:s.at' b=some (.cells (us.flatMap val3) 31 own))(hu:∀ i,i<l.length→us[o+i]?=l[i]?)
  (hR:∀ s' O' tv' k m x,StIn lo s' q (builtS D op l) (N+4) O' p gb ov tv'→Upd s s' (ownS q gb ov tv O) (ownS q gb ov tv' O')→R (.tuple #[vA k m x,.bool (goesB (builtS D op l))]) s') :
  QC prog w0 16 #[.pointer (some ⟨q,0,none⟩),.int .i64 op,.slice (some ⟨b,o*3,none⟩) l.length c] s R:=by
 refine wfun2 hmix ok16 func16 rfl ntmps16 results16 (by simp) ?_
 have l1:s.le (s.new (.cells [.int .i64 0,.int .i64 0,.string ⟨#[]⟩] 31 true)):=lN (lR _)
 have h1:=h.le l1
 have u1:Upd s (s.new (.cells [.int .i64 0,.int .i64 0,.string ⟨#[]⟩] 31 true)) (ownS q gb ov tv O) (ownS q gb ov tv O) := .of_le l1
 have k1:(s.new (.cells [.int .i64 0,.int .i64 0,.string ⟨#[]⟩] 31 true)).at' s.next=some (.cells [.int .i64 0,.int .i64 0,.string ⟨#[]⟩] 31 true):=by rw[aN,if_pos rfl]
 have kb:=(l1.2 b hbn).trans cb
 have n1:(s.new (.cells [.int .i64 0,.int .i64 0,.string ⟨#[]⟩] 31 true)).next=s.next+1:=rfl
 have hf:=h.fresh (c:=s.next) (Nat.le_refl _)
 have hlim:=h.num.lim
 simp only[↓Zd,Zp,Zs,simprocAttr,HEx,co26]
 generalize s.new (.cells [.int .i64 0,.int .i64 0,.string ⟨#[]⟩] 31 true)=s1 at l1 h1 u1 k1 kb n1 ⊢
 have fin:∀ {s2:St M}{O2:Nat→Prop}{tv2:Value}{N2:Nat}{D2:StD}(kk mm:Int) (xx:ByteArray),D2=builtS D op l→N2≤N+4→StIn lo s2 q D2 N2 O2 p gb ov tv2→Upd s s2 (ownS q gb ov tv O) (ownS q gb ov tv2 O2)→¬ ownS q gb ov tv2 O2 s.next→∀ B,R (.tuple #[vA kk mm xx,.bool (goesB D2)]) (s2.put s.next B):=fun {s2 O2 tv2 N2 D2} kk mm xx e hN2 h2 u2 f2 B=>by
  subst e
  obtain⟨g1,g2⟩:=(h2.mono hN2).loc (c:=s.next) (B:=B) u2 (Nat.le_refl _) f2
  exact hR _ _ _ kk mm xx g1 g2
 unfold vA at fin
 refine sover_spec h1 ?_
 cases hg:goesB D with
 |false =>
  have eD:D=builtS D op l:=by
   unfold builtS
   simp only[goes_need hg,goes_is hg,hg,Bool.false_eq_true,if_false,ite_self]
  simp only[↓Zd,Zp,Zs,simprocAttr,HEx,k1]
  have:=fin (s2:=s1) (D2:=D) 0 0 ⟨#[]⟩ eD oM h1 u1 hf
  rw[hg]at this
  exact this _
 |true =>
  simp only[↓Zd,Zp,simprocAttr,HEx,co67]
  refine tbuilt_spec fun x hx=>?_
  by_cases hbad:builtN op=0∨(l.length:Int)≠builtN op
  ·have eD:needS D 2=builtS D op l:=by unfold builtS;simp only;rw[if_pos hbad]
   by_cases hx0:x=(⟨#[]⟩:ByteArray)
   case' pos=>simp only[↓Zd,Zp,simprocAttr,HEx,hx0,underlying122,co63]
   case' neg =>
    have hne:¬ (l.length:Int)=builtN op:=by
     rcases hbad with h0|h0
     ·exact absurd (hx.2 h0) hx0
     ·exact h0
    simp only[↓Zd,Zp,simprocAttr,HEx,hx0,hne,underlying122,co63]
   all_goals
    refine smade2_spec h1 fun s2 a b2 y h2 u2=>?_
    obtain⟨f2,k2⟩:=u2.loc (c:=s.next) oM hf
    have k2:=k2.trans k1
    unfold vA
    simp only[↓Zd,Zp,Zs,simprocAttr,HEx,TAx,k2]
    exact fin _ _ _ eD oM h2 (u1.trans u2) f2 _
  ·have hb0:¬ builtN op=0:=fun e=>hbad (.inl e)
   have hlb:(l.length:Int)=builtN op:=Decidable.byContradiction fun e=>hbad (.inr e)
   have hx0:¬ x=(⟨#[]⟩:ByteArray):=fun e=>hb0 (hx.1 e)
   have hop:1≤op∧op≤7:=by
    unfold builtN at hb0
    split at hb0
    ·exact absurd rfl hb0
    ·omega
   have h0n:0<l.length:=by unfold builtN at hlb;(repeat' split at hlb)<;>omega
   have h0i:(0:Int)<(l.length:Int):=oM
   obtain⟨v,hv⟩:∃ v,l[0]?=some v:=⟨_,List.getElem?_eq_getElem h0n⟩
   have hv0:us[o]?=some v:=by have:=hu 0 h0n;rw[Nat.add_zero]at this;rw[this,hv]
   have eV:l.getD 0 zV=v:=by rw[List.getD_eq_getElem?_getD,hv];rfl
   have eS:builtS D op l=(if op=6 then needS D (errOf (lenV v.1 v.2.2)) else if op=7 then needS D (errOf (textV v.1 v.2.1 v.2.2 D.l3)) else if goesB (isS D (decide (v.1=4)))=true then objS D op v (l.getD 1 zV) else isS D (decide (v.1=4))):=by
    unfold builtS
    simp only
    rw[if_neg hbad,eV]
   have hIv:I64 v.2.1:=hI v (List.mem_of_getElem? hv)
   obtain⟨k,m,y⟩:=v
   obtain⟨v1,v2,v3⟩:=val3_at hv0
   obtain⟨w1,w2⟩:=val3_cut hv0
   simp only at v1 v2 v3 w1 w2 eS hIv
   have h0b:(0:Int)<builtN op:=oM
   by_cases h6:op=6
   ·rw[if_pos h6]at eS
    subst h6
    obtain⟨a,b2,z,e,hV⟩:=lenV_tup k y
    have he:errOf (lenV k y)=e:=by rw[hV];rfl
    rw[he]at eS
    unfold vA at hV
    simp only[↓Zd,Zp,Zs,simprocAttr,HEx,hx0,hlb,kb,w1,w2,h0b,Nat.add_zero,underlying122,co68]
    refine len_spec fun s2 l2=>?_
    have h2:=h1.le l2
    have n2:=l2.1
    have k2:=(l2.2 s.next oM).trans k1
    simp only[↓Zd,Zp,simprocAttr,TAx,hV,co63]
    refine smade2_spec h2 fun s3 a3 b3 y3 h3 u3=>?_
    obtain⟨f3,k3⟩:=u3.loc (c:=s.next) oM hf
    have k3:=k3.trans k2
    unfold vA
    simp only[↓Zd,Zp,Zs,simprocAttr,HEx,TAx,k3]
    exact fin _ _ _ eS.symm oM h3 ((u1.trans (.of_le l2)).trans u3) f3 _
   rw[if_neg h6]at eS
   by_cases h7:op=7
   ·rw[if_pos h7]at eS
    subst h7
    obtain⟨a,b2,z,e,hV⟩:=textV_tup k m y D.l3
    have he:errOf (textV k m y D.l3)=e:=by rw[hV];rfl
    rw[he]at eS
    unfold vA at hV
    have hb:=h1.bl
    unfold stC at hb
    simp only[↓Zd,Zp,Zs,simprocAttr,HEx,TAx,hb,hx0,hlb,kb,w1,w2,h0b,Nat.add_zero,underlying122,co69,ord16]
    refine otext_spec hIv fun s2 l2=>?_
    have h2:=h1.le l2
    have n2:=l2.1
    have k2:=(l2.2 s.next oM).trans k1
    simp only[↓Zd,Zp,simprocAttr,TAx,hV,co63]
    refine smade2_spec h2 fun s3 a3 b3 y3 h3 u3=>?_
    obtain⟨f3,k3⟩:=u3.loc (c:=s.next) oM hf
    have k3:=k3.trans k2
    unfold vA
    simp only[↓Zd,Zp,Zs,simprocAttr,HEx,TAx,k3]
    exact fin _ _ _ eS.symm oM h3 ((u1.trans (.of_le l2)).trans u3) f3 _
   rw[if_neg h7]at eS
   by_cases hk:k=4
   ·subst hk
    have i1:isS D (decide ((4:Int)=4))=D:=rfl
    rw[i1,hg,if_pos rfl]at eS
    simp only[↓Zd,Zp,simprocAttr,cld2,HEx,hx0,hlb,h6,h7,kb,v1,h0b,Nat.add_zero,underlying122,co64]
    refine sis_spec h1 fun s2 h2 u2=>?_
    have i2:isS D true=D:=rfl
    rw[i2]at h2
    rw[i2,hg]
    obtain⟨f2,k2⟩:=u2.loc (c:=s.next) oM hf
    have k2:=k2.trans k1
    have n2:=u2.next
    simp only[↓Zd,Zp,simprocAttr,HEx,co70]
    refine sobj_spec (a:=(4,m,y)) (a2:=l.getD 1 zV) (us:=us) (own:=own) h2 oM hN oM hlb.symm hIv (fun e=>?_) oM hbo ((u2.keep b oM hbo).trans kb) hv0 (fun e=>?_) hg fun s3 O3 tv3 kk mm xx h3 u3=>?_
    ·have:l[1]?=some l[1]:=List.getElem?_eq_getElem oM
     rw[List.getD_eq_getElem?_getD,this]
     exact hI _ (List.mem_of_getElem? this)
    ·have:l[1]?=some l[1]:=List.getElem?_eq_getElem oM
     rw[List.getD_eq_getElem?_getD,this,hu 1 oM,this]
     rfl
    ·obtain⟨f3,k3⟩:=u3.loc (c:=s.next) oM f2
     have k3:=k3.trans k2
     unfold vA
     simp only[↓Zd,Zp,Zs,simprocAttr,HEx,TAx,k3]
     exact fin _ _ _ eS.symm oM h3 ((u1.trans u2).trans u3) f3 _
   ·have i1:isS D (decide (k=4))=isS D false:=by rw[decide_eq_false hk]
    rw[i1,goes_is30,if_neg Bool.false_ne_true]at eS
    simp only[↓Zd,Zp,simprocAttr,cld2,HEx,hx0,hlb,h6,h7,hk,kb,v1,h0b,Nat.add_zero,underlying122,co64]
    refine sis_spec h1 fun s2 h2 u2=>?_
    have i2:=goes_is30 (D:=D)
    rw[i2]
    obtain⟨f2,k2⟩:=u2.loc (c:=s.next) oM hf
    have k2:=k2.trans k1
    simp only[↓Zd,Zp,Zs,simprocAttr,HEx,k2]
    have:=fin 0 0 ⟨#[]⟩ eS.symm oM h2 (u1.trans u2) f2
    rw[i2]at this
    exact this _
end
section
theorem QRow.le{α:Type}{e:TypeId}{cellsA:α→List Value}{s':St M}{a:Option Addr}{A:List α}(h:QRow e cellsA s a A)(hs:s.le s'):QRow e cellsA s' a A:=by
 rcases h with h|⟨j,us,h1,h2,h3,h4⟩
 ·exact .inl h
 ·exact .inr ⟨j,us,h1,by have:=hs.1;omega,(hs.2 j h2).trans h3,h4⟩
structure PAt(s:St M)(pl:Option Addr)(pool:List ByteArray)(cl:Option Addr)(C:List CodeV):Prop where
 strs:QRow 9 strC s pl pool
 codes:C=[]∨∃ (j n:Nat) (cc:Nat→List Value),cl=some ⟨j,0,none⟩∧j<s.next∧s.at' j=some (.cells (rowsN cc n) 72 false)∧(∀ i,(cc i).length=5)∧C.length≤n∧∀ i c,C[i]?=some c→cc i=codeC c
 ins:∀ c∈C,QRow 74 actIC s c.ad c.ins
 ok:∀ c∈C,CodeOk c
 plen:pool.length≤9223372036854775807
 clen:C.length≤9223372036854775807
theorem PAt.le{s':St M}{pl cl:Option Addr}{pool:List ByteArray}{C:List CodeV}(h:PAt s pl pool cl C)(hs:s.le s'):PAt s' pl pool cl C:=by
 refine⟨h.strs.le hs,?_,fun c hc=>(h.ins c hc).le hs,h.ok,h.plen,h.clen⟩
 rcases h.codes with h|⟨j,n,cc,h1,h2,h3,h4⟩
 ·exact .inl h
 ·exact .inr ⟨j,n,cc,h1,by have:=hs.1;omega,(hs.2 j h2).trans h3,h4⟩
end
end Go.Proofs.Tryz
section
namespace Go.Cs
section
variable {M:Type}[Mem M]{P:Program}{w0:World}{s:St M}{ev:Operand→Value}{d:Option Tmp}{ty t:TypeId}{pos:String}{af:Array Edge}{g:Option (Nat×Bool)}{K:Value→St M→Prop}{F:Value→St M→Option Value→Prop}{args:Array Operand}{ats:Array TypeId}
end
end Go.Cs
namespace Go.Proofs.Tryz
open Go.Cs
open Go.RowKit (Below)
set_option maxRecDepth 100000
attribute [local irreducible] QC WLoop WScope CRound WRange
theorem mkV0:cmks Tryz.prog 48 (.int .i64 ((0:Nat):Int)) (.int .i64 ((0:Nat):Int))=some (.cells ((List.replicate 0 ((0,0,⟨#[]⟩):Int×Int×ByteArray)).flatMap val3) 31 true,fun b => .slice (some ⟨b,0,none⟩) 0 0):=oK
theorem mkV1:cmks Tryz.prog 48 (.int .i64 ((1:Nat):Int)) (.int .i64 ((1:Nat):Int))=some (.cells ((List.replicate 1 ((0,0,⟨#[]⟩):Int×Int×ByteArray)).flatMap val3) 31 true,fun b => .slice (some ⟨b,0,none⟩) 1 1):=oK
theorem mkV2:cmks Tryz.prog 48 (.int .i64 ((2:Nat):Int)) (.int .i64 ((2:Nat):Int))=some (.cells ((List.replicate 2 ((0,0,⟨#[]⟩):Int×Int×ByteArray)).flatMap val3) 31 true,fun b => .slice (some ⟨b,0,none⟩) 2 2):=oK
theorem mkV3:cmks Tryz.prog 48 (.int .i64 ((3:Nat):Int)) (.int .i64 ((3:Nat):Int))=some (.cells ((List.replicate 3 ((0,0,⟨#[]⟩):Int×Int×ByteArray)).flatMap val3) 31 true,fun b => .slice (some ⟨b,0,none⟩) 3 3):=oK
theorem mkV4:cmks Tryz.prog 48 (.int .i64 ((4:Nat):Int)) (.int .i64 ((4:Nat):Int))=some (.cells ((List.replicate 4 ((0,0,⟨#[]⟩):Int×Int×ByteArray)).flatMap val3) 31 true,fun b => .slice (some ⟨b,0,none⟩) 4 4):=oK
theorem mkV5:cmks Tryz.prog 48 (.int .i64 ((5:Nat):Int)) (.int .i64 ((5:Nat):Int))=some (.cells ((List.replicate 5 ((0,0,⟨#[]⟩):Int×Int×ByteArray)).flatMap val3) 31 true,fun b => .slice (some ⟨b,0,none⟩) 5 5):=oK
theorem mkV6:cmks Tryz.prog 48 (.int .i64 ((6:Nat):Int)) (.int .i64 ((6:Nat):Int))=some (.cells ((List.replicate 6 ((0,0,⟨#[]⟩):Int×Int×ByteArray)).flatMap val3) 31 true,fun b => .slice (some ⟨b,0,none⟩) 6 6):=oK
theorem mkV7:cmks Tryz.prog 48 (.int .i64 ((7:Nat):Int)) (.int .i64 ((7:Nat):Int))=some (.cells ((List.replicate 7 ((0,0,⟨#[]⟩):Int×Int×ByteArray)).flatMap val3) 31 true,fun b => .slice (some ⟨b,0,none⟩) 7 7):=oK
theorem mkV8:cmks Tryz.prog 48 (.int .i64 ((8:Nat):Int)) (.int .i64 ((8:Nat):Int))=some (.cells ((List.replicate 8 ((0,0,⟨#[]⟩):Int×Int×ByteArray)).flatMap val3) 31 true,fun b => .slice (some ⟨b,0,none⟩) 8 8):=oK
theorem mkV9:cmks Tryz.prog 48 (.int .i64 ((9:Nat):Int)) (.int .i64 ((9:Nat):Int))=some (.cells ((List.replicate 9 ((0,0,⟨#[]⟩):Int×Int×ByteArray)).flatMap val3) 31 true,fun b => .slice (some ⟨b,0,none⟩) 9 9):=oK
theorem mkV10:cmks Tryz.prog 48 (.int .i64 ((10:Nat):Int)) (.int .i64 ((10:Nat):Int))=some (.cells ((List.replicate 10 ((0,0,⟨#[]⟩):Int×Int×ByteArray)).flatMap val3) 31 true,fun b => .slice (some ⟨b,0,none⟩) 10 10):=oK
theorem mkV11:cmks Tryz.prog 48 (.int .i64 ((11:Nat):Int)) (.int .i64 ((11:Nat):Int))=some (.cells ((List.replicate 11 ((0,0,⟨#[]⟩):Int×Int×ByteArray)).flatMap val3) 31 true,fun b => .slice (some ⟨b,0,none⟩) 11 11):=oK
theorem mkV12:cmks Tryz.prog 48 (.int .i64 ((12:Nat):Int)) (.int .i64 ((12:Nat):Int))=some (.cells ((List.replicate 12 ((0,0,⟨#[]⟩):Int×Int×ByteArray)).flatMap val3) 31 true,fun b => .slice (some ⟨b,0,none⟩) 12 12):=oK
theorem mkV13:cmks Tryz.prog 48 (.int .i64 ((13:Nat):Int)) (.int .i64 ((13:Nat):Int))=some (.cells ((List.replicate 13 ((0,0,⟨#[]⟩):Int×Int×ByteArray)).flatMap val3) 31 true,fun b => .slice (some ⟨b,0,none⟩) 13 13):=oK
theorem mkV14:cmks Tryz.prog 48 (.int .i64 ((14:Nat):Int)) (.int .i64 ((14:Nat):Int))=some (.cells ((List.replicate 14 ((0,0,⟨#[]⟩):Int×Int×ByteArray)).flatMap val3) 31 true,fun b => .slice (some ⟨b,0,none⟩) 14 14):=oK
theorem mkV15:cmks Tryz.prog 48 (.int .i64 ((15:Nat):Int)) (.int .i64 ((15:Nat):Int))=some (.cells ((List.replicate 15 ((0,0,⟨#[]⟩):Int×Int×ByteArray)).flatMap val3) 31 true,fun b => .slice (some ⟨b,0,none⟩) 15 15):=oK
theorem mkV16:cmks Tryz.prog 48 (.int .i64 ((16:Nat):Int)) (.int .i64 ((16:Nat):Int))=some (.cells ((List.replicate 16 ((0,0,⟨#[]⟩):Int×Int×ByteArray)).flatMap val3) 31 true,fun b => .slice (some ⟨b,0,none⟩) 16 16):=oK
theorem mkV17:cmks Tryz.prog 48 (.int .i64 ((17:Nat):Int)) (.int .i64 ((17:Nat):Int))=some (.cells ((List.replicate 17 ((0,0,⟨#[]⟩):Int×Int×ByteArray)).flatMap val3) 31 true,fun b => .slice (some ⟨b,0,none⟩) 17 17):=oK
theorem mkV18:cmks Tryz.prog 48 (.int .i64 ((18:Nat):Int)) (.int .i64 ((18:Nat):Int))=some (.cells ((List.replicate 18 ((0,0,⟨#[]⟩):Int×Int×ByteArray)).flatMap val3) 31 true,fun b => .slice (some ⟨b,0,none⟩) 18 18):=oK
theorem mkV19:cmks Tryz.prog 48 (.int .i64 ((19:Nat):Int)) (.int .i64 ((19:Nat):Int))=some (.cells ((List.replicate 19 ((0,0,⟨#[]⟩):Int×Int×ByteArray)).flatMap val3) 31 true,fun b => .slice (some ⟨b,0,none⟩) 19 19):=oK
theorem mkV20:cmks Tryz.prog 48 (.int .i64 ((20:Nat):Int)) (.int .i64 ((20:Nat):Int))=some (.cells ((List.replicate 20 ((0,0,⟨#[]⟩):Int×Int×ByteArray)).flatMap val3) 31 true,fun b => .slice (some ⟨b,0,none⟩) 20 20):=oK
theorem mkV21:cmks Tryz.prog 48 (.int .i64 ((21:Nat):Int)) (.int .i64 ((21:Nat):Int))=some (.cells ((List.replicate 21 ((0,0,⟨#[]⟩):Int×Int×ByteArray)).flatMap val3) 31 true,fun b => .slice (some ⟨b,0,none⟩) 21 21):=oK
theorem mkV22:cmks Tryz.prog 48 (.int .i64 ((22:Nat):Int)) (.int .i64 ((22:Nat):Int))=some (.cells ((List.replicate 22 ((0,0,⟨#[]⟩):Int×Int×ByteArray)).flatMap val3) 31 true,fun b => .slice (some ⟨b,0,none⟩) 22 22):=oK
theorem mkV23:cmks Tryz.prog 48 (.int .i64 ((23:Nat):Int)) (.int .i64 ((23:Nat):Int))=some (.cells ((List.replicate 23 ((0,0,⟨#[]⟩):Int×Int×ByteArray)).flatMap val3) 31 true,fun b => .slice (some ⟨b,0,none⟩) 23 23):=oK
theorem mkV24:cmks Tryz.prog 48 (.int .i64 ((24:Nat):Int)) (.int .i64 ((24:Nat):Int))=some (.cells ((List.replicate 24 ((0,0,⟨#[]⟩):Int×Int×ByteArray)).flatMap val3) 31 true,fun b => .slice (some ⟨b,0,none⟩) 24 24):=oK
theorem mkVals(n:Nat)(hn:n≤24):cmks Tryz.prog 48 (.int .i64 (n:Int)) (.int .i64 (n:Int))=some (.cells ((List.replicate n ((0,0,⟨#[]⟩):Int×Int×ByteArray)).flatMap val3) 31 true,fun b => .slice (some ⟨b,0,none⟩) n n):=by
 match n,hn with
 |0,_=>exact mkV0
 |1,_=>exact mkV1
 |2,_=>exact mkV2
 |3,_=>exact mkV3
 |4,_=>exact mkV4
 |5,_=>exact mkV5
 |6,_=>exact mkV6
 |7,_=>exact mkV7
 |8,_=>exact mkV8
 |9,_=>exact mkV9
 |10,_=>exact mkV10
 |11,_=>exact mkV11
 |12,_=>exact mkV12
 |13,_=>exact mkV13
 |14,_=>exact mkV14
 |15,_=>exact mkV15
 |16,_=>exact mkV16
 |17,_=>exact mkV17
 |18,_=>exact mkV18
 |19,_=>exact mkV19
 |20,_=>exact mkV20
 |21,_=>exact mkV21
 |22,_=>exact mkV22
 |23,_=>exact mkV23
 |24,_=>exact mkV24
 |n+25,h=>exact absurd h oM
section
variable {M:Type}[Mem M]{w0:World}{s:St M}{R:Value→St M→Prop}{g:Int}{pl cl:Option Addr}{cpp ccp:Nat}{pool:List ByteArray}{C:List CodeV}
end
end Go.Proofs.Tryz
end
namespace Go.Proofs.Tryz
open Go.Cs
open Go.RowKit (Below)
set_option maxRecDepth 100000
attribute [local irreducible] QC WLoop WScope CRound WRange
set_option maxHeartbeats 32000000
variable {M:Type}[Mem M]{w0:World}{s:St M}{R:Value→St M→Prop}
def cl(x m:Int):Int:=max 0 (min x m)
def newD(g f a b c d n:Int):StD:={ H:=newH (cl a 200) (cl c 32) n,g:=List.replicate (cl g 24).toNat zV,l0:=cl a 200,l1:=cl b 50,l2:=cl c 32,l3:=cl d 256,fuel:=cl f 1048576,taken:=0,depth:=0,out:=[],tch:=[],kind:=0,err:=0,vk:=0,vn:=0,vx:=⟨#[]⟩ }
theorem newD_num(g f a b c d n:Int):StN (newD g f a b c d n) 32:=by
 refine⟨?_,?_,?_,by show 0≤32;omega,by show 0≤32;omega,?_,Nat.le_refl _⟩
 ·show 0≤(0:Int)∧0≤cl f 1048576∧cl f 1048576≤1048576
  unfold cl;omega
 ·show 0≤(0:Int)∧(0:Int)≤1000000;omega
 ·show 0≤cl b 50∧cl b 50≤1000000∧0≤cl d 256∧cl d 256≤1000000
  unfold cl;omega
 ·show (List.replicate (cl g 24).toNat zV).length≤24
  rw[List.length_replicate];unfold cl;omega
theorem bLim(a b c d:Int):cbuild prog 24 #[(0,.int .i64 a),(1,.int .i64 b),(2,.int .i64 c),(3,.int .i64 d)]=some (.agg #[.int .i64 a,.int .i64 b,.int .i64 c,.int .i64 d]):=oK
theorem bState(p gb m:Nat)(a b c d f:Int):cbuild prog 90 #[(0,.pointer (some ⟨p,0,none⟩)),(1,.pointer none),(2,.agg #[.int .i64 a,.int .i64 b,.int .i64 c,.int .i64 d]),(3,.slice (some ⟨gb,0,none⟩) m m),(4,.int .i64 f)] =
  some (.agg #[.pointer (some ⟨p,0,none⟩),.pointer none,.int .i64 a,.int .i64 b,.int .i64 c,.int .i64 d,.slice (some ⟨gb,0,none⟩) m m,.int .i64 f,.int .i64 0,.int .i64 0,.slice none 0 0,.slice none 0 0,.int .i64 0,.int .i64 0,.int .i64 0,.int .i64 0,.string ⟨#[]⟩]):=oK
section
variable {lo q N p gb:Nat}{D:StD}{O:Nat→Prop}{ov tv:Value}
theorem wbetween_spec{a b:Int}(h:R (.int .i64 (cl a b)) s):QC prog w0 93 #[.int .i64 a,.int .i64 b] s R:=by
 refine wfun2 hmix ok93 func93 rfl ntmps93 results93 (by simp) ?_
 have hmx:(if (if b<a then b else a)>0 then (if b<a then b else a) else 0)=cl a b:=by unfold cl;omega
 simp only[↓Zd,Zp,simprocAttr,o_min,o_max,bi_min,bi_max,hmx]
 exact h
theorem sbetween_spec{a b:Int}(h:R (.int .i64 (cl a b)) s):QC prog w0 35 #[.int .i64 a,.int .i64 b] s R:=by
 refine wfun2 hmix ok35 func35 rfl ntmps35 results35 (by simp) ?_
 have hmx:(if (if b<a then b else a)>0 then (if b<a then b else a) else 0)=cl a b:=by unfold cl;omega
 simp only[↓Zd,Zp,simprocAttr,o_min,o_max,bi_min,bi_max,hmx]
 exact h
theorem wcut_spec{a b c d:Int}(h:∀ s',s.le s'→R (.agg #[.int .i64 (cl a 200),.int .i64 (cl b 50),.int .i64 (cl c 32),.int .i64 (cl d 256)]) s'):QC prog w0 33 #[.agg #[.int .i64 a,.int .i64 b,.int .i64 c,.int .i64 d]] s R:=by
 refine wfun2 hmix ok33 func33 rfl ntmps33 results33 (by simp) ?_
 have hz:=ze24
 simp only[↓Zd,Zp,Zs,simprocAttr,HEx,TAx,hz,co93,ord33]
 refine wbetween_spec ?_
 simp only[↓Zd,Zp,simprocAttr,cld2,HEx,co93]
 refine wbetween_spec ?_
 simp only[↓Zd,Zp,simprocAttr,cld2,HEx,co93]
 refine wbetween_spec ?_
 simp only[↓Zd,Zp,simprocAttr,cld2,HEx,co93]
 refine wbetween_spec ?_
 simp only[↓Zd,Zp,Zs,simprocAttr,HEx,TAx,bLim]
 exact h _ oL
theorem snew_spec{g f a b c d n:Int}(hR:∀ lo s' q p gb O,s.next≤lo→lo≤s'.next→StIn lo s' q (newD g f a b c d n) 32 O p gb (.slice none 0 0) (.slice none 0 0)→s.le s'→R (.pointer (some ⟨q,0,none⟩)) s') :
  QC prog w0 5 #[.int .i64 g,.int .i64 f,.agg #[.int .i64 a,.int .i64 b,.int .i64 c,.int .i64 d],.int .i64 n,.pointer none] s R:=by
 refine wfun2 hmix ok5 func5 rfl ntmps5 results5 (by simp) ?_
 have l1:s.le (s.new (.cells [.int .i64 a,.int .i64 b,.int .i64 c,.int .i64 d] 24 true)):=lN (lR _)
 have k1:(s.new (.cells [.int .i64 a,.int .i64 b,.int .i64 c,.int .i64 d] 24 true)).at' s.next=some (.cells [.int .i64 a,.int .i64 b,.int .i64 c,.int .i64 d] 24 true):=by rw[aN,if_pos rfl]
 have n1:(s.new (.cells [.int .i64 a,.int .i64 b,.int .i64 c,.int .i64 d] 24 true)).next=s.next+1:=rfl
 simp only[↓Zd,Zp,Zs,simprocAttr,TAx,co33]
 generalize s.new (.cells [.int .i64 a,.int .i64 b,.int .i64 c,.int .i64 d] 24 true)=s1 at l1 k1 n1 ⊢
 refine wcut_spec fun s2 l2=>?_
 have n2:=l2.1
 have k2:=(l2.2 s.next oM).trans k1
 simp only[↓Zd,Zp,Zs,simprocAttr,TAx,k2,co34,ord5]
 have l3:s2.le (s2.put s.next (.cells [.int .i64 (cl a 200),.int .i64 (cl b 50),.int .i64 (cl c 32),.int .i64 (cl d 256)] 24 true))∨True := .inr trivial
 have hk3:∀ e,e<s.next→(s2.put s.next (.cells [.int .i64 (cl a 200),.int .i64 (cl b 50),.int .i64 (cl c 32),.int .i64 (cl d 256)] 24 true)).at' e=s.at' e:=fun e he=>by
  rw[aP,if_neg oM,l2.2 e oM,l1.2 e he]
 have k3:(s2.put s.next (.cells [.int .i64 (cl a 200),.int .i64 (cl b 50),.int .i64 (cl c 32),.int .i64 (cl d 256)] 24 true)).at' s.next=some (.cells [.int .i64 (cl a 200),.int .i64 (cl b 50),.int .i64 (cl c 32),.int .i64 (cl d 256)] 24 true):=by rw[aP,if_pos rfl]
 have n3:(s2.put s.next (.cells [.int .i64 (cl a 200),.int .i64 (cl b 50),.int .i64 (cl c 32),.int .i64 (cl d 256)] 24 true)).next=s2.next:=rfl
 generalize s2.put s.next (.cells [.int .i64 (cl a 200),.int .i64 (cl b 50),.int .i64 (cl c 32),.int .i64 (cl d 256)] 24 true)=s3 at hk3 k3 n3 ⊢
 refine hnew_spec fun s4 p h4 l4=>?_
 have n4:=l4.1
 have k4:=(l4.2 s.next oM).trans k3
 obtain⟨m,hm⟩:∃ m:Nat,cl g 24=(m:Int):=⟨(cl g 24).toNat,by unfold cl;omega⟩
 have hm24:m≤24:=by unfold cl at hm;omega
 have hsn:¬ s.next=s4.next:=oM
 simp only[↓Zd,Zp,Zs,simprocAttr,HEx,TAx,k4,co35]
 refine sbetween_spec ?_
 rw[hm]
 simp only[↓Zd,Zp,Zs,simprocAttr,HEx,TAx,k4,mkVals m hm24,↓f_mks,co35]
 refine sbetween_spec ?_
 simp only[↓Zd,Zp,Zs,simprocAttr,HEx,TAx,k4,hsn,bState]
 have hO:∀ e,(s3.next≤e∧e<s4.next)→e<s4.next:=fun e he=>he.2
 refine hR s3.next _ (s4.next+1) p s4.next (fun e=>s3.next≤e∧e<s4.next) oM ?zm ⟨?zA,?zB,newD_num _ _ _ _ _ _ _,⟨oM,?zn,oM⟩,⟨oM,?zo,oM,oM⟩,?zC,.inl ⟨rfl,rfl,rfl⟩,.inl ⟨rfl,rfl,rfl⟩,(fun e he=>by cases he),(fun e he=>by cases he)⟩ ?zD
 case zm=>simp only[nN];omega
 case zn=>simp only[nN];omega
 case zo=>simp only[nN];omega
 ·exact (h4.le (lN (lN (lR _)))).mono oM
 ·rw[aN,if_pos (by simp only[nN])]
  unfold stC newD
  simp only[List.length_replicate,hm,Int.toNat_natCast]
 ·rw[aN,if_neg (by simp only[nN];omega),aN,if_pos rfl]
  unfold newD
  simp only[hm,Int.toNat_natCast]
  rfl
 ·refine⟨by simp only[nN];omega,fun e he=>?_⟩
  rw[aN,if_neg (by simp only[nN];omega),aN,if_neg oM,l4.2 e oM,hk3 e he]
end
section
variable {lo q N p gb:Nat}{D:StD}{O W:Nat→Prop}{ov tv:Value}
theorem rssetix_spec{k n kk kn vk vn:Int}{y x vx:ByteArray}(h:RSAt lo s q N W)(hlo:lo≤s.next)(hN:N+4≤1000000)(hR:∀ s' W' b,RSAt lo s' q (N+4) W'→Upd s s' W W'→R (.bool b) s') :
  QC prog w0 47 #[.pointer (some ⟨q,0,none⟩),vA k n y,vA kk kn x,vA vk vn vx] s R:=by
 refine wfun2 hmix ok47 func47 rfl ntmps47 results47 (by simp) ?_
 have hc:∃ s1,s1=(((s.new (.cells [.int .i64 k,.int .i64 n,.string y] 31 true)).new (.cells [.int .i64 kk,.int .i64 kn,.string x] 31 true)).new (.cells [.int .i64 vk,.int .i64 vn,.string vx] 31 true)):=⟨_,rfl⟩
 obtain⟨s1,hs1⟩:=hc
 have l1:s.le s1:=by rw[hs1];exact oL
 have k0:s1.at' s.next=some (.cells [.int .i64 k,.int .i64 n,.string y] 31 true):=by rw[hs1];simp only[aN,nN];(repeat rw[if_neg oM]);rw[if_pos trivial]
 have k1:s1.at' (s.next+1)=some (.cells [.int .i64 kk,.int .i64 kn,.string x] 31 true):=by rw[hs1];simp only[aN,nN];(repeat rw[if_neg oM]);rw[if_pos trivial]
 have k2:s1.at' (s.next+2)=some (.cells [.int .i64 vk,.int .i64 vn,.string vx] 31 true):=by rw[hs1];simp only[aN,nN];rw[if_pos trivial]
 have kn2:s.next+2<s1.next:=by rw[hs1];simp only[nN];omega
 have h1:=h.le l1
 have go:∀ so,QC prog w0 104 #[.pointer (some ⟨q,0,none⟩),.bool so] s1 (fun v s2=>∃ b,v = .bool b∧RSAt lo s2 q N W∧Upd s1 s2 W W):=fun so=>rsmust_spec h1 fun s2 b h2 u2=>⟨b,rfl,h2,u2⟩
 by_cases e1:k=4<;>by_cases e2:kk=3
 all_goals
  (try (have e9:=e1;subst e9))
  (try (have e9:=e2;subst e9))
  simp only[↓Zd,Zp,Zs,simprocAttr,HEx,vA,e1,e2,co104]
  rw[← hs1]
  refine QC.mono (go _) ?_
  rintro _ s2 ⟨b2,rfl,h2,u2⟩
  have u12:=(Upd.of_le l1).trans u2
  have c0:=(u2.keep s.next oM (h.fresh (Nat.le_refl _))).trans k0
  have c1:=(u2.keep (s.next+1) oM (h.fresh oM)).trans k1
  have c2:=(u2.keep (s.next+2) kn2 (h.fresh oM)).trans k2
  have n2:=u2.next
  cases b2 with
  |false =>
   simp only[↓Zd,Zp,simprocAttr,HEx,vA]
   exact hR _ _ _ (h2.mono oM) u12
  |true =>
   simp only[↓Zd,Zp,Zs,simprocAttr,HEx,TAx,vA,c0,c1,c2,co44]
   refine rsset_spec h2 oM hN fun s3 W3 b3 h3 u3=>?_
   simp only[↓Zd,Zp,simprocAttr,HEx,vA]
   exact hR _ _ _ h3 (u12.trans u3)
theorem rsdelix_spec{k n kk kn:Int}{y x:ByteArray}(h:RSAt lo s q N W)(hlo:lo≤s.next)(hN:N+4≤1000000)(hR:∀ s' W' b,RSAt lo s' q (N+4) W'→Upd s s' W W'→R (.bool b) s') :
  QC prog w0 50 #[.pointer (some ⟨q,0,none⟩),vA k n y,vA kk kn x] s R:=by
 refine wfun2 hmix ok50 func50 rfl ntmps50 results50 (by simp) ?_
 have hc:∃ s1,s1=((s.new (.cells [.int .i64 k,.int .i64 n,.string y] 31 true)).new (.cells [.int .i64 kk,.int .i64 kn,.string x] 31 true)):=⟨_,rfl⟩
 obtain⟨s1,hs1⟩:=hc
 have l1:s.le s1:=by rw[hs1];exact oL
 have k0:s1.at' s.next=some (.cells [.int .i64 k,.int .i64 n,.string y] 31 true):=by rw[hs1];simp only[aN,nN];(repeat rw[if_neg oM]);rw[if_pos trivial]
 have k1:s1.at' (s.next+1)=some (.cells [.int .i64 kk,.int .i64 kn,.string x] 31 true):=by rw[hs1];simp only[aN,nN];rw[if_pos trivial]
 have kn2:s.next+1<s1.next:=by rw[hs1];simp only[nN];omega
 have h1:=h.le l1
 have go:∀ so,QC prog w0 104 #[.pointer (some ⟨q,0,none⟩),.bool so] s1 (fun v s2=>∃ b,v = .bool b∧RSAt lo s2 q N W∧Upd s1 s2 W W):=fun so=>rsmust_spec h1 fun s2 b h2 u2=>⟨b,rfl,h2,u2⟩
 by_cases e1:k=4<;>by_cases e2:kk=3
 all_goals
  (try (have e9:=e1;subst e9))
  (try (have e9:=e2;subst e9))
  simp only[↓Zd,Zp,Zs,simprocAttr,HEx,vA,e1,e2,co104]
  rw[← hs1]
  refine QC.mono (go _) ?_
  rintro _ s2 ⟨b2,rfl,h2,u2⟩
  have u12:=(Upd.of_le l1).trans u2
  have c0:=(u2.keep s.next oM (h.fresh (Nat.le_refl _))).trans k0
  have c1:=(u2.keep (s.next+1) kn2 (h.fresh oM)).trans k1
  have n2:=u2.next
  cases b2 with
  |false =>
   simp only[↓Zd,Zp,simprocAttr,HEx,vA]
   exact hR _ _ _ (h2.mono oM) u12
  |true =>
   simp only[↓Zd,Zp,Zs,simprocAttr,HEx,TAx,vA,c0,c1,co48]
   refine rsdel_spec h2 oM hN fun s3 W3 b3 h3 u3=>?_
   simp only[↓Zd,Zp,simprocAttr,HEx,vA]
   exact hR _ _ _ h3 (u12.trans u3)
theorem r13cut_spec{a b:Int}(hb:0≤b)(h:R (.int .i64 (cl a b)) s):QC prog w0 97 #[.int .i64 a,.int .i64 b] s R:=by
 refine wfun2 hmix ok97 func97 rfl ntmps97 results97 (by simp) ?_
 unfold cl at h
 by_cases h1:a<0
 ·rw[show max 0 (min a b)=0 by omega]at h
  simp only[↓Zd,Zp,simprocAttr,h1]
  exact h
 ·by_cases h2:b<a
  ·rw[show max 0 (min a b)=b by omega]at h
   simp only[↓Zd,Zp,simprocAttr,h1,h2]
   exact h
  ·rw[show max 0 (min a b)=a by omega]at h
   simp only[↓Zd,Zp,simprocAttr,h1,h2]
   exact h
theorem r18cut_spec{a b:Int}(hb:0≤b)(h:R (.int .i64 (cl a b)) s):QC prog w0 38 #[.int .i64 a,.int .i64 b] s R:=by
 refine wfun2 hmix ok38 func38 rfl ntmps38 results38 (by simp) ?_
 unfold cl at h
 by_cases h1:a<0
 ·rw[show max 0 (min a b)=0 by omega]at h
  simp only[↓Zd,Zp,simprocAttr,h1]
  exact h
 ·by_cases h2:b<a
  ·rw[show max 0 (min a b)=b by omega]at h
   simp only[↓Zd,Zp,simprocAttr,h1,h2]
   exact h
  ·rw[show max 0 (min a b)=a by omega]at h
   simp only[↓Zd,Zp,simprocAttr,h1,h2]
   exact h
theorem r13Cut_spec{a b c d:Int}(h:∀ s',s.le s'→R (.agg #[.int .i64 (cl a 200),.int .i64 (cl b 50),.int .i64 (cl c 32),.int .i64 (cl d 256)]) s'):QC prog w0 36 #[.agg #[.int .i64 a,.int .i64 b,.int .i64 c,.int .i64 d]] s R:=by
 refine wfun2 hmix ok36 func36 rfl ntmps36 results36 (by simp) ?_
 have hz:=ze24
 simp only[↓Zd,Zp,Zs,simprocAttr,HEx,TAx,hz,co97,ord36]
 refine r13cut_spec oM ?_
 simp only[↓Zd,Zp,simprocAttr,cld2,HEx,co97]
 refine r13cut_spec oM ?_
 simp only[↓Zd,Zp,simprocAttr,cld2,HEx,co97]
 refine r13cut_spec oM ?_
 simp only[↓Zd,Zp,simprocAttr,cld2,HEx,co97]
 refine r13cut_spec oM ?_
 simp only[↓Zd,Zp,Zs,simprocAttr,HEx,TAx,bLim]
 exact h _ oL
theorem bRState(p gb m:Nat)(a b c d f:Int):cbuild prog 94 #[(0,.pointer (some ⟨p,0,none⟩)),(1,.agg #[.int .i64 a,.int .i64 b,.int .i64 c,.int .i64 d]),(2,.slice (some ⟨gb,0,none⟩) m m),(3,.int .i64 f)] =
  some (.agg #[.pointer (some ⟨p,0,none⟩),.int .i64 a,.int .i64 b,.int .i64 c,.int .i64 d,.slice (some ⟨gb,0,none⟩) m m,.int .i64 f,.int .i64 0,.int .i64 0,.slice none 0 0,.slice none 0 0,.int .i64 0,.int .i64 0,.int .i64 0,.int .i64 0,.string ⟨#[]⟩]):=oK
theorem rsnew_spec{g f a b c d n:Int}(hR:∀ lo s' q W,s.next≤lo→lo≤s'.next→RSAt lo s' q 32 W→s.le s'→R (.pointer (some ⟨q,0,none⟩)) s') :
  QC prog w0 6 #[.int .i64 g,.int .i64 f,.agg #[.int .i64 a,.int .i64 b,.int .i64 c,.int .i64 d],.int .i64 n] s R:=by
 refine wfun2 hmix ok6 func6 rfl ntmps6 results6 (by simp) ?_
 have l1:s.le (s.new (.cells [.int .i64 a,.int .i64 b,.int .i64 c,.int .i64 d] 24 true)):=lN (lR _)
 have k1:(s.new (.cells [.int .i64 a,.int .i64 b,.int .i64 c,.int .i64 d] 24 true)).at' s.next=some (.cells [.int .i64 a,.int .i64 b,.int .i64 c,.int .i64 d] 24 true):=by rw[aN,if_pos rfl]
 have n1:(s.new (.cells [.int .i64 a,.int .i64 b,.int .i64 c,.int .i64 d] 24 true)).next=s.next+1:=rfl
 simp only[↓Zd,Zp,Zs,simprocAttr,TAx,co36]
 generalize s.new (.cells [.int .i64 a,.int .i64 b,.int .i64 c,.int .i64 d] 24 true)=s1 at l1 k1 n1 ⊢
 refine r13Cut_spec fun s2 l2=>?_
 have n2:=l2.1
 have k2:=(l2.2 s.next oM).trans k1
 simp only[↓Zd,Zp,Zs,simprocAttr,TAx,k2,co37,ord6]
 have hk3:∀ e,e<s.next→(s2.put s.next (.cells [.int .i64 (cl a 200),.int .i64 (cl b 50),.int .i64 (cl c 32),.int .i64 (cl d 256)] 24 true)).at' e=s.at' e:=fun e he=>by
  rw[aP,if_neg oM,l2.2 e oM,l1.2 e he]
 have k3:(s2.put s.next (.cells [.int .i64 (cl a 200),.int .i64 (cl b 50),.int .i64 (cl c 32),.int .i64 (cl d 256)] 24 true)).at' s.next=some (.cells [.int .i64 (cl a 200),.int .i64 (cl b 50),.int .i64 (cl c 32),.int .i64 (cl d 256)] 24 true):=by rw[aP,if_pos rfl]
 have n3:(s2.put s.next (.cells [.int .i64 (cl a 200),.int .i64 (cl b 50),.int .i64 (cl c 32),.int .i64 (cl d 256)] 24 true)).next=s2.next:=rfl
 generalize s2.put s.next (.cells [.int .i64 (cl a 200),.int .i64 (cl b 50),.int .i64 (cl c 32),.int .i64 (cl d 256)] 24 true)=s3 at hk3 k3 n3 ⊢
 refine rnew_spec fun s4 p h4 l4=>?_
 have n4:=l4.1
 have k4:=(l4.2 s.next oM).trans k3
 obtain⟨m,hm⟩:∃ m:Nat,cl g 24=(m:Int):=⟨(cl g 24).toNat,by unfold cl;omega⟩
 have hm24:m≤24:=by unfold cl at hm;omega
 have hsn:¬ s.next=s4.next:=oM
 simp only[↓Zd,Zp,Zs,simprocAttr,REx,TAx,k4,co38]
 refine r18cut_spec oM ?_
 rw[hm]
 simp only[↓Zd,Zp,Zs,simprocAttr,HEx,TAx,k4,mkVals m hm24,↓f_mks,co38]
 refine r18cut_spec oM ?_
 simp only[↓Zd,Zp,Zs,simprocAttr,HEx,TAx,RSx,k4,hsn,bRState]
 refine hR s3.next _ (s4.next+1) _ oM ?zm ((show RSIn s3.next _ (s4.next+1) (newD g f a b c d n) 32 (fun e=>s3.next≤e∧e<s4.next) p s4.next (.slice none 0 0) (.slice none 0 0) from ⟨?zA,?zB,newD_num _ _ _ _ _ _ _,⟨oM,?zn,oM⟩,⟨oM,?zo,oM,oM⟩,?zC,.inl ⟨rfl,rfl,rfl⟩,.inl ⟨rfl,rfl,rfl⟩,(fun e he=>by cases he),(fun e he=>by cases he)⟩).to rfl) ?zD
 case zm=>simp only[nN];omega
 case zn=>simp only[nN];omega
 case zo=>simp only[nN];omega
 ·exact (h4.le (lN (lN (lR _)))).mono oM
 ·rw[aN,if_pos (by simp only[nN])]
  unfold rsC newD
  simp only[List.length_replicate,hm,Int.toNat_natCast]
 ·rw[aN,if_neg (by simp only[nN];omega),aN,if_pos rfl]
  unfold newD
  simp only[hm,Int.toNat_natCast]
  rfl
 ·refine⟨by simp only[nN];omega,fun e he=>?_⟩
  rw[aN,if_neg (by simp only[nN];omega),aN,if_neg oM,l4.2 e oM,hk3 e he]
end
section
variable {n0 q r N p gb:Nat}{D:StD}{O W L:Nat→Prop}{ov tv:Value}
structure SoAt(L:Nat→Prop)(n0:Nat)(s:St M)(q r:Nat)(D:StD)(N:Nat)(O:Nat→Prop)(p gb:Nat)(ov tv:Value)(W:Nat→Prop):Prop where
 st:StIn n0 s q D N O p gb ov tv
 rs:RSAt n0 s r N W
 dis:∀ b,ownS q gb ov tv O b→¬ W b
 lo:n0≤s.next
 fr:∀ c,L c→c<s.next∧¬ ownS q gb ov tv O c∧¬ W c
 sz:DSz 1000000 D
theorem SoAt.real{s1:St M}{D1:StD}{N1:Nat}{O1:Nat→Prop}{ov1 tv1:Value}(h:SoAt L n0 s q r D N O p gb ov tv W)(hN:N≤N1)(h1:StIn n0 s1 q D1 N1 O1 p gb ov1 tv1)(hU:Upd s s1 (ownS q gb ov tv O) (ownS q gb ov1 tv1 O1))(hz:DSz 1000000 D1) :
  SoAt L n0 s1 q r D1 N1 O1 p gb ov1 tv1 W∧∀ c,L c→s1.at' c=s.at' c:=by
 have hn:=hU.next
 have ho:∀ c,c<s.next→¬ ownS q gb ov tv O c→¬ ownS q gb ov1 tv1 O1 c:=fun c hc hc2 hc3=>by rcases hU.own c hc3 with h|h;exact hc2 h;omega
 refine⟨⟨h1,(h.rs.same hn fun b hb=>hU.keep b (h.rs.own b hb).2 fun hb2=>h.dis b hb2 hb).mono hN,fun b hb hb2=>?_,by have:=h.lo;omega,fun c hc=>?_,hz⟩,fun c hc=>?_⟩
 ·exact ho b (h.rs.own b hb2).2 (fun hb3=>h.dis b hb3 hb2) hb
 ·have:=h.fr c hc
  exact⟨oM,ho c this.1 this.2.1,this.2.2⟩
 ·have:=h.fr c hc
  exact hU.keep c this.1 this.2.1
theorem SoAt.ref{s1:St M}{N1:Nat}{W1:Nat→Prop}(h:SoAt L n0 s q r D N O p gb ov tv W)(hN:N≤N1)(h1:RSAt n0 s1 r N1 W1)(hU:Upd s s1 W W1) :
  SoAt L n0 s1 q r D N1 O p gb ov tv W1∧∀ c,L c→s1.at' c=s.at' c:=by
 have hn:=hU.next
 have ho:∀ c,c<s.next→¬ W c→¬ W1 c:=fun c hc hc2 hc3=>by rcases hU.own c hc3 with h|h;exact hc2 h;omega
 refine⟨⟨(h.st.same hn fun b hb=>hU.keep b (h.st.own b hb).2 (h.dis b hb)).mono hN,h1,fun b hb hb2=>ho b (h.st.own b hb).2 (h.dis b hb) hb2,by have:=h.lo;omega,fun c hc=>?_,h.sz⟩,fun c hc=>?_⟩
 ·have:=h.fr c hc
  exact⟨oM,this.2.1,ho c this.1 this.2.2⟩
 ·have:=h.fr c hc
  exact hU.keep c this.1 this.2.2
theorem SoAt.le{s1:St M}{k:Nat}(h:SoAt L n0 s q r D N O p gb ov tv W)(hs:s.le s1)(hk:k≤s1.next):SoAt (fun c=>L c∨(s.next≤c∧c<k)) n0 s1 q r D N O p gb ov tv W:=by
 have hn:=hs.1
 refine⟨h.st.le hs,h.rs.le hs,h.dis,by have:=h.lo;omega,fun c hc=>?_,h.sz⟩
 rcases hc with hc|hc
 ·have:=h.fr c hc
  exact⟨oM,this.2⟩
 ·exact⟨oM,fun hb=>by have:=(h.st.own c hb).2;omega,fun hb=>by have:=(h.rs.own c hb).2;omega⟩
theorem SoAt.put{c:Nat}{B:Blk}(h:SoAt L n0 s q r D N O p gb ov tv W)(hc:L c):SoAt L n0 (s.put c B) q r D N O p gb ov tv W:=by
 have hf:=h.fr c hc
 exact⟨h.st.same (Nat.le_refl _) fun b hb=>by rw[aP,if_neg (fun e:b=c=>hf.2.1 (e▸hb))],h.rs.same (Nat.le_refl _) fun b hb=>by rw[aP,if_neg (fun e:b=c=>hf.2.2 (e▸hb))],h.dis,h.lo,h.fr,h.sz⟩
theorem SoAt.sub{L':Nat→Prop}(h:SoAt L n0 s q r D N O p gb ov tv W)(hL:∀ c,L' c→L c):SoAt L' n0 s q r D N O p gb ov tv W:=⟨h.st,h.rs,h.dis,h.lo,fun c hc=>h.fr c (hL c hc),h.sz⟩
theorem SoAt.mono{N':Nat}(h:SoAt L n0 s q r D N O p gb ov tv W)(hN:N≤N'):SoAt L n0 s q r D N' O p gb ov tv W:=⟨h.st.mono hN,h.rs.mono hN,h.dis,h.lo,h.fr,h.sz⟩
end
theorem DSz.endS{B:Nat}{D:StD}(h:DSz B D){k e:Int}{v:Int×Int×ByteArray}(hv:VSz B v):DSz B (endS D k e v):=by
 unfold Go.Proofs.Tryz.endS
 split
 ·exact⟨h.H,h.T,h.g,h.o,hv⟩
 ·exact h
theorem VSz.z(B:Nat):VSz B zV:=⟨Nat.zero_le _,by decide,by decide⟩
theorem DSz.need{B:Nat}{D:StD}(h:DSz B D)(e:Int):DSz B (needS D e):=by
 unfold needS
 split
 ·exact h
 ·split<;>exact h.endS (VSz.z B)
theorem DSz.is{B:Nat}{D:StD}(h:DSz B D)(so:Bool):DSz B (isS D so):=by
 unfold isS
 split
 ·exact h
 ·exact h.need 30
theorem DSz.tick{B:Nat}{D:StD}(h:DSz B D)(n:Int):DSz B (tickS D n):=by
 unfold tickS
 split
 ·exact h
 ·split
  ·exact (show DSz B { D with taken:=D.fuel } from ⟨h.H,h.T,h.g,h.o,h.v⟩).endS (VSz.z B)
  ·split
   ·exact⟨h.H,h.T,h.g,h.o,h.v⟩
   ·exact h
theorem DSz.make{B:Nat}{D:StD}(h:DSz B D):DSz B (makeS D):=by
 unfold makeS
 split
 ·exact (show DSz B { D with H:=makeH D.H } from ⟨h.H.make,h.T.same (make_T _),h.g,h.o,h.v⟩).need _
 ·exact h
theorem DSz.ch{B:Nat}{D:StD}(h:DSz B D){so:Bool}{o e:Int}{H':Hp}(hH:HSz B H')(hT:TSz B H'):DSz B (chS D so o H' e):=by
 unfold chS
 split
 ·unfold watchS touchS
  refine DSz.need ?_ e
  split
  ·exact⟨hH,hT,h.g,h.o,h.v⟩
  ·exact⟨hH,hT,h.g,h.o,h.v⟩
 ·exact h.is so
theorem DSz.print{B:Nat}{D:StD}(h:DSz B D){v:Int×Int×ByteArray}(hv:(showV v.1 v.2.1 v.2.2).size≤B):DSz B (printS D v):=by
 unfold printS
 split
 ·refine⟨h.H,h.T,h.g,fun x hx=>?_,h.v⟩
  rcases List.mem_append.1 hx with hx|hx
  ·exact h.o x hx
  ·rw[List.mem_singleton.1 hx];exact hv
 ·exact h
theorem DSz.setg{B:Nat}{D:StD}(h:DSz B D){i:Int}{v:Int×Int×ByteArray}(hv:VSz B v):DSz B (setgT D i v):=by
 unfold setgT
 split
 ·refine⟨h.H,h.T,fun x hx=>?_,h.o,h.v⟩
  rcases List.mem_or_eq_of_mem_set hx with hx|hx
  ·exact h.g x hx
  ·rw[hx];exact hv
 ·exact h
theorem DSz.enter{B:Nat}{D:StD}(h:DSz B D)(so:Bool):DSz B (enterS D so):=by
 unfold enterS
 split
 ·split
  ·exact h.need 41
  ·exact⟨h.H,h.T,h.g,h.o,h.v⟩
 ·exact h.is so
theorem DSz.leave{B:Nat}{D:StD}(h:DSz B D):DSz B (leaveS D):=by
 unfold leaveS
 split
 ·split
  ·exact⟨h.H,h.T,h.g,h.o,h.v⟩
  ·exact h
 ·exact h
theorem DSz.built{B:Nat}{D:StD}(h:DSz B D)(op:Int)(l:List (Int×Int×ByteArray)):DSz B (builtS D op l):=by
 unfold builtS
 simp only
 split
 ·exact h.need 2
 ·split
  ·exact h.need _
  ·split
   ·exact h.need _
   ·split
    ·unfold objS
     split
     ·exact h.is _
     ·split
      ·exact h.is _
      ·split
       ·exact h.ch (h.H.protoH _ _) (h.T.same (proto_T _ _ _))
       ·exact h
    ·exact h.is _
theorem showV_len{k n:Int}{x:ByteArray}(hn : -9223372036854775808≤n∧n≤9223372036854775807):(showV k n x).size≤x.size+30:=by
 have hd:=digS_len hn
 rcases kinds k with rfl|rfl|rfl|rfl|rfl|rfl|⟨h0,h1,h2,h3,h4,h5⟩
 ·show 4≤_;omega
 ·by_cases hz:n=0
  ·simp only[showV,hz];show 5≤_;omega
  ·simp only[showV,hz];show 4≤_;omega
 ·simp only[showV];show (digS n).size≤_;omega
 ·simp only[showV];show x.size≤_;omega
 ·show _≤_;(first|(show 6≤_;omega)|(show 8≤_;omega))
 ·show _≤_;(first|(show 6≤_;omega)|(show 8≤_;omega))
 ·simp only[showV,h0,h1,h2,h3,h4,h5,if_false];show 0≤_;omega
def A8x:=(aI (aI (aI (aI @underlying33 (aI @sz33 @is33)) (aI @ce33 (aI @ag33 @ze33))) (aI (aI @fa33x0 (aI @fa33x1 @fa33x2)) (aI @fa33x3 (aI @fa33x4 @fa33x5)))) (aI (aI (aI @fa33x6 (aI @underlying22 @sz22)) (aI @is22 (aI @ce22 @ag22))) (aI (aI @ze22 (aI @underlying43 @sz43)) (aI @is43 (aI @ce43 @ag43)))))
def act8V(a0 a1 a2:Int)(a3:ByteArray)(k4 n4:Int)(x4:ByteArray)(k5 n5:Int)(x5:ByteArray)(k6 n6:Int)(x6:ByteArray):Value := .agg #[.int .i64 a0,.int .i64 a1,.int .i64 a2,.string a3,.int .i64 k4,.int .i64 n4,.string x4,.int .i64 k5,.int .i64 n5,.string x5,.int .i64 k6,.int .i64 n6,.string x6]
def act8L(a0 a1 a2:Int)(a3:ByteArray)(k4 n4:Int)(x4:ByteArray)(k5 n5:Int)(x5:ByteArray)(k6 n6:Int)(x6:ByteArray):List Value:=[.int .i64 a0,.int .i64 a1,.int .i64 a2,.string a3,.int .i64 k4,.int .i64 n4,.string x4,.int .i64 k5,.int .i64 n5,.string x5,.int .i64 k6,.int .i64 n6,.string x6]
structure Ok8(a0 a1 a2:Int)(a3:ByteArray)(k4 n4:Int)(x4:ByteArray)(k5 n5:Int)(x5:ByteArray)(k6 n6:Int)(x6:ByteArray):Prop where
 a : -9223372036854775808≤a1∧a1≤9223372036854775807
 b : -9223372036854775808≤a2∧a2≤9223372036854775807
 x : -9223372036854775808≤n4∧n4≤9223372036854775807
 y : -9223372036854775808≤n5∧n5≤9223372036854775807
 z : -9223372036854775808≤n6∧n6≤9223372036854775807
 s3:a3.size≤300
 s4:x4.size≤300
 s5:x5.size≤300
 s6:x6.size≤300
def L3(L:Nat→Prop)(n:Nat):Nat→Prop:=fun c=>L c∨(n≤c∧c<n+3)
def z3:List Value:=[.int .i64 0,.int .i64 0,.string ⟨#[]⟩]
def v3(a b:Int)(x:ByteArray):List Value:=[.int .i64 a,.int .i64 b,.string x]
section
variable {M:Type}[Mem M]{s:St M}{n0 q r N p gb:Nat}{D:StD}{O W L:Nat→Prop}{ov tv:Value}
structure Pre8(L:Nat→Prop)(s s1:St M)(A:List Value)(k l:List Value):Prop where
 le:s.next+3≤s1.next
 k0:s1.at' s.next=some (.cells A 33 true)
 k1:s1.at' (s.next+1)=some (.cells k 31 true)
 k2:s1.at' (s.next+2)=some (.cells l 31 true)
 keep:∀ c,L c→s1.at' c=s.at' c
theorem pre8(h:SoAt L n0 s q r D N O p gb ov tv W)(A:List Value):∃ s1,s1=(((s.new (.cells A 33 true)).new (.cells z3 31 true)).new (.cells z3 31 true))∧SoAt (L3 L s.next) n0 s1 q r D N O p gb ov tv W∧Pre8 L s s1 A z3 z3:=by
 obtain⟨s1,hs1⟩:∃ s1,s1=(((s.new (.cells A 33 true)).new (.cells z3 31 true)).new (.cells z3 31 true)):=⟨_,rfl⟩
 have l1:s.le s1:=by rw[hs1];exact oL
 have n1:s1.next=s.next+3:=by rw[hs1];rfl
 refine⟨s1,hs1,h.le l1 (k:=s.next+3) oM,oM,?_,?_,?_,fun c hc=>l1.2 c (h.fr c hc).1⟩
 ·rw[hs1];simp only[aN,nN];(repeat rw[if_neg oM]);rw[if_pos trivial]
 ·rw[hs1];simp only[aN,nN];(repeat rw[if_neg oM]);rw[if_pos trivial]
 ·rw[hs1];simp only[aN,nN];rw[if_pos trivial]
variable {s1 s2:St M}{D1:StD}{N1:Nat}{O1 W1:Nat→Prop}{ov1 tv1:Value}{A k l:List Value}
theorem Pre8.go(h:Pre8 L s s1 A k l)(e:∀ c,L3 L s.next c→s2.at' c=s1.at' c)(hn:s1.next≤s2.next):Pre8 L s s2 A k l:=
 ⟨by have:=h.le;omega,(e _ (.inr oM)).trans h.k0,(e _ (.inr oM)).trans h.k1,(e _ (.inr oM)).trans h.k2,fun c hc=>(e c (.inl hc)).trans (h.keep c hc)⟩
theorem Pre8.real(h:Pre8 L s s1 A k l)(g:SoAt (L3 L s.next) n0 s1 q r D N O p gb ov tv W)(hN:N≤N1)(h1:StIn n0 s2 q D1 N1 O1 p gb ov1 tv1)(hU:Upd s1 s2 (ownS q gb ov tv O) (ownS q gb ov1 tv1 O1))(hz:DSz 1000000 D1) :
  SoAt (L3 L s.next) n0 s2 q r D1 N1 O1 p gb ov1 tv1 W∧Pre8 L s s2 A k l:=
 let ⟨a,b⟩:=g.real hN h1 hU hz
 ⟨a,h.go b hU.next⟩
theorem Pre8.ref(h:Pre8 L s s1 A k l)(g:SoAt (L3 L s.next) n0 s1 q r D N O p gb ov tv W)(hN:N≤N1)(h1:RSAt n0 s2 r N1 W1)(hU:Upd s1 s2 W W1) :
  SoAt (L3 L s.next) n0 s2 q r D N1 O p gb ov tv W1∧Pre8 L s s2 A k l:=
 let ⟨a,b⟩:=g.ref hN h1 hU
 ⟨a,h.go b hU.next⟩
theorem Pre8.put1(h:Pre8 L s s1 A k l)(hs:∀ c,L c→c<s.next)(g:SoAt (L3 L s.next) n0 s1 q r D N O p gb ov tv W)(k':List Value) :
  ∃ s2,s2=s1.put (s.next+1) (.cells k' 31 true)∧SoAt (L3 L s.next) n0 s2 q r D N O p gb ov tv W∧Pre8 L s s2 A k' l:=
 ⟨_,rfl,g.put (.inr oM),by have:=h.le;simp only[nU];omega,by rw[aP,if_neg oM];exact h.k0,by rw[aP,if_pos rfl],by rw[aP,if_neg oM];exact h.k2,fun c hc=>by have:=hs c hc;rw[aP,if_neg oM];exact h.keep c hc⟩
theorem Pre8.put2(h:Pre8 L s s1 A k l)(hs:∀ c,L c→c<s.next)(g:SoAt (L3 L s.next) n0 s1 q r D N O p gb ov tv W)(l':List Value) :
  SoAt (L3 L s.next) n0 (s1.put (s.next+2) (.cells l' 31 true)) q r D N O p gb ov tv W∧∀ c,L c→(s1.put (s.next+2) (.cells l' 31 true)).at' c=s.at' c:=
 ⟨g.put (.inr oM),fun c hc=>by have:=hs c hc;rw[aP,if_neg oM];exact h.keep c hc⟩
end
theorem veq8(k n:Int)(x:ByteArray)(k' n':Int)(x':ByteArray):∃ t,∀ ox oy,cbin prog .eql 31 ox oy (.agg #[.int .i64 k,.int .i64 n,.string x]) (.agg #[.int .i64 k',.int .i64 n',.string x'])=some (.bool t):=⟨_,fun ox oy=>Vsame31⟩
section
variable {n0 q r N p gb:Nat}{D:StD}{O W L:Nat→Prop}{ov tv:Value}
theorem done8_0{a1 a2:Int}{a3:ByteArray}{k4 n4:Int}{x4:ByteArray}{k5 n5:Int}{x5:ByteArray}{k6 n6:Int}{x6:ByteArray}(h:SoAt L n0 s q r D N O p gb ov tv W)(hx:Ok8 0 a1 a2 a3 k4 n4 x4 k5 n5 x5 k6 n6 x6)(hN:N+8≤10000)
  (hR:∀ s' D' O' ov' tv' W' b,SoAt L n0 s' q r D' (N+8) O' p gb ov' tv' W'→(∀ c,L c→s'.at' c=s.at' c)→R (.bool b) s') :
  QC prog w0 9 #[.pointer (some ⟨q,0,none⟩),.pointer (some ⟨r,0,none⟩),act8V 0 a1 a2 a3 k4 n4 x4 k5 n5 x5 k6 n6 x6] s R:=by
 refine wfun2 hmix ok9 func9 rfl ntmps9 results9 (by simp) ?_
 obtain⟨s1,hs1,g1,p1⟩:=pre8 h (act8L 0 a1 a2 a3 k4 n4 x4 k5 n5 x5 k6 n6 x6)
 have hs:∀ c,L c→c<s.next:=fun c hc=>(h.fr c hc).1
 have q12:¬ s.next+1=s.next+2:=oM
 obtain⟨b1,b2,b3,b4,b5,b6,b7,b8,b9⟩:=hx
 unfold act8L z3 at hs1 p1
 unfold act8V
 simp only[↓Zd,Zp,Zs,simprocAttr,HEx,(A8x),co18]
 rw[← hs1]
 clear hs1
 refine stick_spec g1.st b1 fun s2 h2 u2=>?_
 obtain⟨g2,p2⟩:=p1.real g1 oM h2 u2 (h.sz.tick _)
 have d0:=p2.k0
 simp only[↓Zd,Zp,simprocAttr,cld2,HEx,(A8x),d0,co41]
 have g3:=g2
 have p3:=p2
 refine rstick_spec g3.rs b1 fun s4 t4 h4 u4=>?_
 obtain⟨g4,p4⟩:=p3.ref g3 oM h4 u4
 have f1:=p4.k1
 have f2:=p4.k2
 obtain⟨t,hV⟩:=veq8 0 0 ⟨#[]⟩ 0 0 ⟨#[]⟩
 cases t
 all_goals
  simp only[↓Zd,Zp,Zs,simprocAttr,HEx,f1,f2,hV]
  exact hR _ _ _ _ _ _ _ ((g4.mono oM).sub fun c hc => .inl hc) p4.keep
theorem done8_1{a1 a2:Int}{a3:ByteArray}{k4 n4:Int}{x4:ByteArray}{k5 n5:Int}{x5:ByteArray}{k6 n6:Int}{x6:ByteArray}(h:SoAt L n0 s q r D N O p gb ov tv W)(hx:Ok8 1 a1 a2 a3 k4 n4 x4 k5 n5 x5 k6 n6 x6)(hN:N+8≤10000)
  (hR:∀ s' D' O' ov' tv' W' b,SoAt L n0 s' q r D' (N+8) O' p gb ov' tv' W'→(∀ c,L c→s'.at' c=s.at' c)→R (.bool b) s') :
  QC prog w0 9 #[.pointer (some ⟨q,0,none⟩),.pointer (some ⟨r,0,none⟩),act8V 1 a1 a2 a3 k4 n4 x4 k5 n5 x5 k6 n6 x6] s R:=by
 refine wfun2 hmix ok9 func9 rfl ntmps9 results9 (by simp) ?_
 obtain⟨s1,hs1,g1,p1⟩:=pre8 h (act8L 1 a1 a2 a3 k4 n4 x4 k5 n5 x5 k6 n6 x6)
 have hs:∀ c,L c→c<s.next:=fun c hc=>(h.fr c hc).1
 have q12:¬ s.next+1=s.next+2:=oM
 obtain⟨b1,b2,b3,b4,b5,b6,b7,b8,b9⟩:=hx
 unfold act8L z3 at hs1 p1
 unfold act8V
 simp only[↓Zd,Zp,Zs,simprocAttr,HEx,(A8x),co13]
 rw[← hs1]
 clear hs1
 refine smake_spec g1.st g1.lo fun s2 O2 va vb vx h2 u2=>?_
 obtain⟨g2,p2⟩:=p1.real g1 oM h2 u2 (h.sz.make)
 obtain⟨s3,hs3,g3,p3⟩:=p2.put1 hs g2 (v3 va vb vx)
 have d0:=p2.k0
 have d1:=p2.k1
 unfold v3 at hs3 p3
 unfold vA
 simp only[↓Zd,Zp,Zs,simprocAttr,HEx,(A8x),d1,co42]
 rw[← hs3]
 clear hs3
 refine rsmake_spec g3.rs g3.lo fun s4 W4 wa wb wx t4 h4 u4=>?_
 obtain⟨g4,p4⟩:=p3.ref g3 oM h4 u4
 have f1:=p4.k1
 have f2:=p4.k2
 obtain⟨g5,p5⟩:=p4.put2 hs g4 (v3 wa wb wx)
 unfold v3 at g5 p5
 unfold vA
 obtain⟨t,hV⟩:=veq8 va vb vx wa wb wx
 cases t
 all_goals
  simp only[↓Zd,Zp,Zs,simprocAttr,HEx,(A8x),f1,f2,hV,q12]
  exact hR _ _ _ _ _ _ _ ((g5.mono oM).sub fun c hc => .inl hc) p5
theorem done8_2{a1 a2:Int}{a3:ByteArray}{k4 n4:Int}{x4:ByteArray}{k5 n5:Int}{x5:ByteArray}{k6 n6:Int}{x6:ByteArray}(h:SoAt L n0 s q r D N O p gb ov tv W)(hx:Ok8 2 a1 a2 a3 k4 n4 x4 k5 n5 x5 k6 n6 x6)(hN:N+8≤10000)
  (hR:∀ s' D' O' ov' tv' W' b,SoAt L n0 s' q r D' (N+8) O' p gb ov' tv' W'→(∀ c,L c→s'.at' c=s.at' c)→R (.bool b) s') :
  QC prog w0 9 #[.pointer (some ⟨q,0,none⟩),.pointer (some ⟨r,0,none⟩),act8V 2 a1 a2 a3 k4 n4 x4 k5 n5 x5 k6 n6 x6] s R:=by
 refine wfun2 hmix ok9 func9 rfl ntmps9 results9 (by simp) ?_
 obtain⟨s1,hs1,g1,p1⟩:=pre8 h (act8L 2 a1 a2 a3 k4 n4 x4 k5 n5 x5 k6 n6 x6)
 have hs:∀ c,L c→c<s.next:=fun c hc=>(h.fr c hc).1
 have q12:¬ s.next+1=s.next+2:=oM
 obtain⟨b1,b2,b3,b4,b5,b6,b7,b8,b9⟩:=hx
 unfold act8L z3 at hs1 p1
 unfold act8V
 simp only[↓Zd,Zp,Zs,simprocAttr,HEx,TAx,(A8x),co14]
 rw[← hs1]
 clear hs1
 refine stget_spec g1.st b3 fun s2 va vb vx h2 u2=>?_
 obtain⟨g2,p2⟩:=p1.real g1 oM h2 u2 (h.sz.is _)
 obtain⟨s3,hs3,g3,p3⟩:=p2.put1 hs g2 (v3 va vb vx)
 have d0:=p2.k0
 have d1:=p2.k1
 unfold v3 at hs3 p3
 unfold vA
 simp only[↓Zd,Zp,Zs,simprocAttr,HEx,TAx,(A8x),d0,d1,co43]
 rw[← hs3]
 clear hs3
 refine rsget_spec g3.rs fun s4 wa wb wx t4 h4 u4=>?_
 obtain⟨g4,p4⟩:=p3.ref g3 oM h4 u4
 have f1:=p4.k1
 have f2:=p4.k2
 obtain⟨g5,p5⟩:=p4.put2 hs g4 (v3 wa wb wx)
 unfold v3 at g5 p5
 unfold vA
 obtain⟨t,hV⟩:=veq8 va vb vx wa wb wx
 cases t
 all_goals
  simp only[↓Zd,Zp,Zs,simprocAttr,HEx,(A8x),f1,f2,hV,q12]
  exact hR _ _ _ _ _ _ _ ((g5.mono oM).sub fun c hc => .inl hc) p5
theorem done8_3{a1 a2:Int}{a3:ByteArray}{k4 n4:Int}{x4:ByteArray}{k5 n5:Int}{x5:ByteArray}{k6 n6:Int}{x6:ByteArray}(h:SoAt L n0 s q r D N O p gb ov tv W)(hx:Ok8 3 a1 a2 a3 k4 n4 x4 k5 n5 x5 k6 n6 x6)(hN:N+8≤10000)
  (hR:∀ s' D' O' ov' tv' W' b,SoAt L n0 s' q r D' (N+8) O' p gb ov' tv' W'→(∀ c,L c→s'.at' c=s.at' c)→R (.bool b) s') :
  QC prog w0 9 #[.pointer (some ⟨q,0,none⟩),.pointer (some ⟨r,0,none⟩),act8V 3 a1 a2 a3 k4 n4 x4 k5 n5 x5 k6 n6 x6] s R:=by
 refine wfun2 hmix ok9 func9 rfl ntmps9 results9 (by simp) ?_
 obtain⟨s1,hs1,g1,p1⟩:=pre8 h (act8L 3 a1 a2 a3 k4 n4 x4 k5 n5 x5 k6 n6 x6)
 have hs:∀ c,L c→c<s.next:=fun c hc=>(h.fr c hc).1
 have q12:¬ s.next+1=s.next+2:=oM
 obtain⟨b1,b2,b3,b4,b5,b6,b7,b8,b9⟩:=hx
 unfold act8L z3 at hs1 p1
 unfold act8V
 simp only[↓Zd,Zp,Zs,simprocAttr,HEx,TAx,(A8x),co19]
 rw[← hs1]
 clear hs1
 refine stset_spec g1.st g1.lo oM b3 fun s2 O2 tv2 h2 u2=>?_
 obtain⟨g2,p2⟩:=p1.real g1 oM h2 u2 (h.sz.ch (h.sz.H.set _ ⟨by show a3.size≤_;omega,by show x5.size≤_;omega,b4⟩) (h.sz.T.set _ _ oM))
 have d0:=p2.k0
 simp only[↓Zd,Zp,Zs,simprocAttr,HEx,TAx,(A8x),d0,co44]
 have g3:=g2
 have p3:=p2
 refine rsset_spec g3.rs g3.lo oM fun s4 W4 t4 h4 u4=>?_
 obtain⟨g4,p4⟩:=p3.ref g3 oM h4 u4
 have f1:=p4.k1
 have f2:=p4.k2
 obtain⟨t,hV⟩:=veq8 0 0 ⟨#[]⟩ 0 0 ⟨#[]⟩
 cases t
 all_goals
  simp only[↓Zd,Zp,Zs,simprocAttr,HEx,f1,f2,hV]
  exact hR _ _ _ _ _ _ _ ((g4.mono oM).sub fun c hc => .inl hc) p4.keep
theorem done8_4{a1 a2:Int}{a3:ByteArray}{k4 n4:Int}{x4:ByteArray}{k5 n5:Int}{x5:ByteArray}{k6 n6:Int}{x6:ByteArray}(h:SoAt L n0 s q r D N O p gb ov tv W)(hx:Ok8 4 a1 a2 a3 k4 n4 x4 k5 n5 x5 k6 n6 x6)(hN:N+8≤10000)
  (hR:∀ s' D' O' ov' tv' W' b,SoAt L n0 s' q r D' (N+8) O' p gb ov' tv' W'→(∀ c,L c→s'.at' c=s.at' c)→R (.bool b) s') :
  QC prog w0 9 #[.pointer (some ⟨q,0,none⟩),.pointer (some ⟨r,0,none⟩),act8V 4 a1 a2 a3 k4 n4 x4 k5 n5 x5 k6 n6 x6] s R:=by
 refine wfun2 hmix ok9 func9 rfl ntmps9 results9 (by simp) ?_
 obtain⟨s1,hs1,g1,p1⟩:=pre8 h (act8L 4 a1 a2 a3 k4 n4 x4 k5 n5 x5 k6 n6 x6)
 have hs:∀ c,L c→c<s.next:=fun c hc=>(h.fr c hc).1
 have q12:¬ s.next+1=s.next+2:=oM
 obtain⟨b1,b2,b3,b4,b5,b6,b7,b8,b9⟩:=hx
 unfold act8L z3 at hs1 p1
 unfold act8V
 simp only[↓Zd,Zp,Zs,simprocAttr,HEx,(A8x),co45]
 rw[← hs1]
 clear hs1
 refine sgetix_spec g1.st b3 fun s2 va vb vx h2 u2=>?_
 obtain⟨g2,p2⟩:=p1.real g1 oM h2 u2 (h.sz.is _)
 obtain⟨s3,hs3,g3,p3⟩:=p2.put1 hs g2 (v3 va vb vx)
 have d0:=p2.k0
 have d1:=p2.k1
 unfold v3 at hs3 p3
 unfold vA
 simp only[↓Zd,Zp,Zs,simprocAttr,HEx,(A8x),d0,d1,co46]
 rw[← hs3]
 clear hs3
 refine rsgetix_spec g3.rs fun s4 wa wb wx t4 h4 u4=>?_
 obtain⟨g4,p4⟩:=p3.ref g3 oM h4 u4
 have f1:=p4.k1
 have f2:=p4.k2
 obtain⟨g5,p5⟩:=p4.put2 hs g4 (v3 wa wb wx)
 unfold v3 at g5 p5
 unfold vA
 obtain⟨t,hV⟩:=veq8 va vb vx wa wb wx
 cases t
 all_goals
  simp only[↓Zd,Zp,Zs,simprocAttr,HEx,(A8x),f1,f2,hV,q12]
  exact hR _ _ _ _ _ _ _ ((g5.mono oM).sub fun c hc => .inl hc) p5
theorem done8_5{a1 a2:Int}{a3:ByteArray}{k4 n4:Int}{x4:ByteArray}{k5 n5:Int}{x5:ByteArray}{k6 n6:Int}{x6:ByteArray}(h:SoAt L n0 s q r D N O p gb ov tv W)(hx:Ok8 5 a1 a2 a3 k4 n4 x4 k5 n5 x5 k6 n6 x6)(hN:N+8≤10000)
  (hR:∀ s' D' O' ov' tv' W' b,SoAt L n0 s' q r D' (N+8) O' p gb ov' tv' W'→(∀ c,L c→s'.at' c=s.at' c)→R (.bool b) s') :
  QC prog w0 9 #[.pointer (some ⟨q,0,none⟩),.pointer (some ⟨r,0,none⟩),act8V 5 a1 a2 a3 k4 n4 x4 k5 n5 x5 k6 n6 x6] s R:=by
 refine wfun2 hmix ok9 func9 rfl ntmps9 results9 (by simp) ?_
 obtain⟨s1,hs1,g1,p1⟩:=pre8 h (act8L 5 a1 a2 a3 k4 n4 x4 k5 n5 x5 k6 n6 x6)
 have hs:∀ c,L c→c<s.next:=fun c hc=>(h.fr c hc).1
 have q12:¬ s.next+1=s.next+2:=oM
 obtain⟨b1,b2,b3,b4,b5,b6,b7,b8,b9⟩:=hx
 unfold act8L z3 at hs1 p1
 unfold act8V
 simp only[↓Zd,Zp,Zs,simprocAttr,HEx,(A8x),co20]
 rw[← hs1]
 clear hs1
 refine ssetix_spec g1.st g1.lo oM b3 fun s2 O2 tv2 h2 u2=>?_
 obtain⟨g2,p2⟩:=p1.real g1 oM h2 u2 (h.sz.ch (h.sz.H.set _ ⟨by show x5.size≤_;omega,by show x6.size≤_;omega,b5⟩) (h.sz.T.set _ _ oM))
 have d0:=p2.k0
 simp only[↓Zd,Zp,Zs,simprocAttr,HEx,(A8x),d0,co47]
 have g3:=g2
 have p3:=p2
 refine rssetix_spec g3.rs g3.lo oM fun s4 W4 t4 h4 u4=>?_
 obtain⟨g4,p4⟩:=p3.ref g3 oM h4 u4
 have f1:=p4.k1
 have f2:=p4.k2
 obtain⟨t,hV⟩:=veq8 0 0 ⟨#[]⟩ 0 0 ⟨#[]⟩
 cases t
 all_goals
  simp only[↓Zd,Zp,Zs,simprocAttr,HEx,f1,f2,hV]
  exact hR _ _ _ _ _ _ _ ((g4.mono oM).sub fun c hc => .inl hc) p4.keep
theorem done8_6{a1 a2:Int}{a3:ByteArray}{k4 n4:Int}{x4:ByteArray}{k5 n5:Int}{x5:ByteArray}{k6 n6:Int}{x6:ByteArray}(h:SoAt L n0 s q r D N O p gb ov tv W)(hx:Ok8 6 a1 a2 a3 k4 n4 x4 k5 n5 x5 k6 n6 x6)(hN:N+8≤10000)
  (hR:∀ s' D' O' ov' tv' W' b,SoAt L n0 s' q r D' (N+8) O' p gb ov' tv' W'→(∀ c,L c→s'.at' c=s.at' c)→R (.bool b) s') :
  QC prog w0 9 #[.pointer (some ⟨q,0,none⟩),.pointer (some ⟨r,0,none⟩),act8V 6 a1 a2 a3 k4 n4 x4 k5 n5 x5 k6 n6 x6] s R:=by
 refine wfun2 hmix ok9 func9 rfl ntmps9 results9 (by simp) ?_
 obtain⟨s1,hs1,g1,p1⟩:=pre8 h (act8L 6 a1 a2 a3 k4 n4 x4 k5 n5 x5 k6 n6 x6)
 have hs:∀ c,L c→c<s.next:=fun c hc=>(h.fr c hc).1
 have q12:¬ s.next+1=s.next+2:=oM
 obtain⟨b1,b2,b3,b4,b5,b6,b7,b8,b9⟩:=hx
 unfold act8L z3 at hs1 p1
 unfold act8V
 simp only[↓Zd,Zp,Zs,simprocAttr,HEx,TAx,(A8x),co21]
 rw[← hs1]
 clear hs1
 refine sdel_spec g1.st g1.lo oM b3 fun s2 O2 tv2 h2 u2=>?_
 obtain⟨g2,p2⟩:=p1.real g1 oM h2 u2 (h.sz.ch (h.sz.H.del _ _) (h.sz.T.same (del_T _ _ _)))
 have d0:=p2.k0
 simp only[↓Zd,Zp,Zs,simprocAttr,HEx,TAx,(A8x),d0,co48]
 have g3:=g2
 have p3:=p2
 refine rsdel_spec g3.rs g3.lo oM fun s4 W4 t4 h4 u4=>?_
 obtain⟨g4,p4⟩:=p3.ref g3 oM h4 u4
 have f1:=p4.k1
 have f2:=p4.k2
 obtain⟨t,hV⟩:=veq8 0 0 ⟨#[]⟩ 0 0 ⟨#[]⟩
 cases t
 all_goals
  simp only[↓Zd,Zp,Zs,simprocAttr,HEx,f1,f2,hV]
  exact hR _ _ _ _ _ _ _ ((g4.mono oM).sub fun c hc => .inl hc) p4.keep
theorem done8_7{a1 a2:Int}{a3:ByteArray}{k4 n4:Int}{x4:ByteArray}{k5 n5:Int}{x5:ByteArray}{k6 n6:Int}{x6:ByteArray}(h:SoAt L n0 s q r D N O p gb ov tv W)(hx:Ok8 7 a1 a2 a3 k4 n4 x4 k5 n5 x5 k6 n6 x6)(hN:N+8≤10000)
  (hR:∀ s' D' O' ov' tv' W' b,SoAt L n0 s' q r D' (N+8) O' p gb ov' tv' W'→(∀ c,L c→s'.at' c=s.at' c)→R (.bool b) s') :
  QC prog w0 9 #[.pointer (some ⟨q,0,none⟩),.pointer (some ⟨r,0,none⟩),act8V 7 a1 a2 a3 k4 n4 x4 k5 n5 x5 k6 n6 x6] s R:=by
 refine wfun2 hmix ok9 func9 rfl ntmps9 results9 (by simp) ?_
 obtain⟨s1,hs1,g1,p1⟩:=pre8 h (act8L 7 a1 a2 a3 k4 n4 x4 k5 n5 x5 k6 n6 x6)
 have hs:∀ c,L c→c<s.next:=fun c hc=>(h.fr c hc).1
 have q12:¬ s.next+1=s.next+2:=oM
 obtain⟨b1,b2,b3,b4,b5,b6,b7,b8,b9⟩:=hx
 unfold act8L z3 at hs1 p1
 unfold act8V
 simp only[↓Zd,Zp,Zs,simprocAttr,HEx,(A8x),co49]
 rw[← hs1]
 clear hs1
 refine sdelix_spec g1.st g1.lo oM b3 fun s2 O2 tv2 h2 u2=>?_
 obtain⟨g2,p2⟩:=p1.real g1 oM h2 u2 (h.sz.ch (h.sz.H.del _ _) (h.sz.T.same (del_T _ _ _)))
 have d0:=p2.k0
 simp only[↓Zd,Zp,Zs,simprocAttr,HEx,(A8x),d0,co50]
 have g3:=g2
 have p3:=p2
 refine rsdelix_spec g3.rs g3.lo oM fun s4 W4 t4 h4 u4=>?_
 obtain⟨g4,p4⟩:=p3.ref g3 oM h4 u4
 have f1:=p4.k1
 have f2:=p4.k2
 obtain⟨t,hV⟩:=veq8 0 0 ⟨#[]⟩ 0 0 ⟨#[]⟩
 cases t
 all_goals
  simp only[↓Zd,Zp,Zs,simprocAttr,HEx,f1,f2,hV]
  exact hR _ _ _ _ _ _ _ ((g4.mono oM).sub fun c hc => .inl hc) p4.keep
end
section
variable {n0 q r N p gb:Nat}{D:StD}{O W L:Nat→Prop}{ov tv:Value}
theorem more8_8{a1 a2:Int}{a3:ByteArray}{k4 n4:Int}{x4:ByteArray}{k5 n5:Int}{x5:ByteArray}{k6 n6:Int}{x6:ByteArray}(h:SoAt L n0 s q r D N O p gb ov tv W)(hx:Ok8 8 a1 a2 a3 k4 n4 x4 k5 n5 x5 k6 n6 x6)(hN:N+8≤10000)
  (hR:∀ s' D' O' ov' tv' W' b,SoAt L n0 s' q r D' (N+8) O' p gb ov' tv' W'→(∀ c,L c→s'.at' c=s.at' c)→R (.bool b) s') :
  QC prog w0 51 #[.pointer (some ⟨q,0,none⟩),.pointer (some ⟨r,0,none⟩),act8V 8 a1 a2 a3 k4 n4 x4 k5 n5 x5 k6 n6 x6] s R:=by
 refine wfun2 hmix ok51 func51 rfl ntmps51 results51 (by simp) ?_
 obtain⟨s1,hs1,g1,p1⟩:=pre8 h (act8L 8 a1 a2 a3 k4 n4 x4 k5 n5 x5 k6 n6 x6)
 have hs:∀ c,L c→c<s.next:=fun c hc=>(h.fr c hc).1
 have q12:¬ s.next+1=s.next+2:=oM
 obtain⟨b1,b2,b3,b4,b5,b6,b7,b8,b9⟩:=hx
 unfold act8L z3 at hs1 p1
 unfold act8V
 simp only[↓Zd,Zp,Zs,simprocAttr,HEx,(A8x),co111]
 rw[← hs1]
 clear hs1
 refine sun_spec g1.st fun s2 va vb vx h2 u2=>?_
 obtain⟨g2,p2⟩:=p1.real g1 oM h2 u2 (h.sz.need _)
 obtain⟨s3,hs3,g3,p3⟩:=p2.put1 hs g2 (v3 va vb vx)
 have d0:=p2.k0
 have d1:=p2.k1
 unfold v3 at hs3 p3
 unfold vA
 simp only[↓Zd,Zp,Zs,simprocAttr,HEx,(A8x),d0,d1,co112]
 rw[← hs3]
 clear hs3
 refine rsun_spec g3.rs fun s4 wa wb wx t4 h4 u4=>?_
 obtain⟨g4,p4⟩:=p3.ref g3 oM h4 u4
 have f1:=p4.k1
 have f2:=p4.k2
 obtain⟨g5,p5⟩:=p4.put2 hs g4 (v3 wa wb wx)
 unfold v3 at g5 p5
 unfold vA
 obtain⟨t,hV⟩:=veq8 va vb vx wa wb wx
 cases t
 all_goals
  simp only[↓Zd,Zp,Zs,simprocAttr,HEx,(A8x),f1,f2,hV,q12]
  exact hR _ _ _ _ _ _ _ ((g5.mono oM).sub fun c hc => .inl hc) p5
theorem more8_9{a1 a2:Int}{a3:ByteArray}{k4 n4:Int}{x4:ByteArray}{k5 n5:Int}{x5:ByteArray}{k6 n6:Int}{x6:ByteArray}(h:SoAt L n0 s q r D N O p gb ov tv W)(hx:Ok8 9 a1 a2 a3 k4 n4 x4 k5 n5 x5 k6 n6 x6)(hN:N+8≤10000)
  (hR:∀ s' D' O' ov' tv' W' b,SoAt L n0 s' q r D' (N+8) O' p gb ov' tv' W'→(∀ c,L c→s'.at' c=s.at' c)→R (.bool b) s') :
  QC prog w0 51 #[.pointer (some ⟨q,0,none⟩),.pointer (some ⟨r,0,none⟩),act8V 9 a1 a2 a3 k4 n4 x4 k5 n5 x5 k6 n6 x6] s R:=by
 refine wfun2 hmix ok51 func51 rfl ntmps51 results51 (by simp) ?_
 obtain⟨s1,hs1,g1,p1⟩:=pre8 h (act8L 9 a1 a2 a3 k4 n4 x4 k5 n5 x5 k6 n6 x6)
 have hs:∀ c,L c→c<s.next:=fun c hc=>(h.fr c hc).1
 have q12:¬ s.next+1=s.next+2:=oM
 obtain⟨b1,b2,b3,b4,b5,b6,b7,b8,b9⟩:=hx
 unfold act8L z3 at hs1 p1
 unfold act8V
 simp only[↓Zd,Zp,Zs,simprocAttr,HEx,(A8x),co15]
 rw[← hs1]
 clear hs1
 refine sbin_spec g1.st b3 fun s2 va vb vx h2 u2=>?_
 obtain⟨g2,p2⟩:=p1.real g1 oM h2 u2 (h.sz.need _)
 obtain⟨s3,hs3,g3,p3⟩:=p2.put1 hs g2 (v3 va vb vx)
 have d0:=p2.k0
 have d1:=p2.k1
 unfold v3 at hs3 p3
 unfold vA
 simp only[↓Zd,Zp,Zs,simprocAttr,HEx,(A8x),d0,d1,co113]
 rw[← hs3]
 clear hs3
 refine rsbin_spec g3.rs b3 oM oM fun s4 wa wb wx t4 h4 u4=>?_
 obtain⟨g4,p4⟩:=p3.ref g3 oM h4 u4
 have f1:=p4.k1
 have f2:=p4.k2
 obtain⟨g5,p5⟩:=p4.put2 hs g4 (v3 wa wb wx)
 unfold v3 at g5 p5
 unfold vA
 obtain⟨t,hV⟩:=veq8 va vb vx wa wb wx
 cases t
 all_goals
  simp only[↓Zd,Zp,Zs,simprocAttr,HEx,(A8x),f1,f2,hV,q12]
  exact hR _ _ _ _ _ _ _ ((g5.mono oM).sub fun c hc => .inl hc) p5
theorem more8_11{a1 a2:Int}{a3:ByteArray}{k4 n4:Int}{x4:ByteArray}{k5 n5:Int}{x5:ByteArray}{k6 n6:Int}{x6:ByteArray}(h:SoAt L n0 s q r D N O p gb ov tv W)(hx:Ok8 11 a1 a2 a3 k4 n4 x4 k5 n5 x5 k6 n6 x6)(hN:N+8≤10000)
  (hR:∀ s' D' O' ov' tv' W' b,SoAt L n0 s' q r D' (N+8) O' p gb ov' tv' W'→(∀ c,L c→s'.at' c=s.at' c)→R (.bool b) s') :
  QC prog w0 51 #[.pointer (some ⟨q,0,none⟩),.pointer (some ⟨r,0,none⟩),act8V 11 a1 a2 a3 k4 n4 x4 k5 n5 x5 k6 n6 x6] s R:=by
 refine wfun2 hmix ok51 func51 rfl ntmps51 results51 (by simp) ?_
 obtain⟨s1,hs1,g1,p1⟩:=pre8 h (act8L 11 a1 a2 a3 k4 n4 x4 k5 n5 x5 k6 n6 x6)
 have hs:∀ c,L c→c<s.next:=fun c hc=>(h.fr c hc).1
 have q12:¬ s.next+1=s.next+2:=oM
 obtain⟨b1,b2,b3,b4,b5,b6,b7,b8,b9⟩:=hx
 unfold act8L z3 at hs1 p1
 unfold act8V
 simp only[↓Zd,Zp,Zs,simprocAttr,HEx,(A8x),co22]
 rw[← hs1]
 clear hs1
 refine sprint_spec g1.st oM b3 fun s2 ov2 h2 u2=>?_
 obtain⟨g2,p2⟩:=p1.real g1 oM h2 u2 (h.sz.print (by have:=showV_len (k:=k4) (x:=x4) b3;show (showV k4 n4 x4).size≤_;omega))
 have d0:=p2.k0
 simp only[↓Zd,Zp,Zs,simprocAttr,HEx,(A8x),d0,co115]
 have g3:=g2
 have p3:=p2
 refine rsprint_spec g3.rs oM b3 fun s4 W4 t4 h4 u4=>?_
 obtain⟨g4,p4⟩:=p3.ref g3 oM h4 u4
 have f1:=p4.k1
 have f2:=p4.k2
 obtain⟨t,hV⟩:=veq8 0 0 ⟨#[]⟩ 0 0 ⟨#[]⟩
 cases t
 all_goals
  simp only[↓Zd,Zp,Zs,simprocAttr,HEx,f1,f2,hV]
  exact hR _ _ _ _ _ _ _ ((g4.mono oM).sub fun c hc => .inl hc) p4.keep
theorem more8_13{a1 a2:Int}{a3:ByteArray}{k4 n4:Int}{x4:ByteArray}{k5 n5:Int}{x5:ByteArray}{k6 n6:Int}{x6:ByteArray}(h:SoAt L n0 s q r D N O p gb ov tv W)(hx:Ok8 13 a1 a2 a3 k4 n4 x4 k5 n5 x5 k6 n6 x6)(hN:N+8≤10000)
  (hR:∀ s' D' O' ov' tv' W' b,SoAt L n0 s' q r D' (N+8) O' p gb ov' tv' W'→(∀ c,L c→s'.at' c=s.at' c)→R (.bool b) s') :
  QC prog w0 51 #[.pointer (some ⟨q,0,none⟩),.pointer (some ⟨r,0,none⟩),act8V 13 a1 a2 a3 k4 n4 x4 k5 n5 x5 k6 n6 x6] s R:=by
 refine wfun2 hmix ok51 func51 rfl ntmps51 results51 (by simp) ?_
 obtain⟨s1,hs1,g1,p1⟩:=pre8 h (act8L 13 a1 a2 a3 k4 n4 x4 k5 n5 x5 k6 n6 x6)
 have hs:∀ c,L c→c<s.next:=fun c hc=>(h.fr c hc).1
 have q12:¬ s.next+1=s.next+2:=oM
 obtain⟨b1,b2,b3,b4,b5,b6,b7,b8,b9⟩:=hx
 unfold act8L z3 at hs1 p1
 unfold act8V
 simp only[↓Zd,Zp,Zs,simprocAttr,HEx,(A8x),co23]
 rw[← hs1]
 clear hs1
 refine ssetg_spec g1.st fun s2 h2 u2=>?_
 obtain⟨g2,p2⟩:=p1.real g1 oM h2 u2 (h.sz.setg ⟨by show x4.size≤_;omega,b3⟩)
 have d0:=p2.k0
 simp only[↓Zd,Zp,Zs,simprocAttr,HEx,(A8x),d0,co117]
 have g3:=g2
 have p3:=p2
 refine rssetg_spec g3.rs fun s4 t4 h4 u4=>?_
 obtain⟨g4,p4⟩:=p3.ref g3 oM h4 u4
 have f1:=p4.k1
 have f2:=p4.k2
 obtain⟨t,hV⟩:=veq8 0 0 ⟨#[]⟩ 0 0 ⟨#[]⟩
 cases t
 all_goals
  simp only[↓Zd,Zp,Zs,simprocAttr,HEx,f1,f2,hV]
  exact hR _ _ _ _ _ _ _ ((g4.mono oM).sub fun c hc => .inl hc) p4.keep
theorem more8_14{a1 a2:Int}{a3:ByteArray}{k4 n4:Int}{x4:ByteArray}{k5 n5:Int}{x5:ByteArray}{k6 n6:Int}{x6:ByteArray}(h:SoAt L n0 s q r D N O p gb ov tv W)(hx:Ok8 14 a1 a2 a3 k4 n4 x4 k5 n5 x5 k6 n6 x6)(hN:N+8≤10000)
  (hR:∀ s' D' O' ov' tv' W' b,SoAt L n0 s' q r D' (N+8) O' p gb ov' tv' W'→(∀ c,L c→s'.at' c=s.at' c)→R (.bool b) s') :
  QC prog w0 51 #[.pointer (some ⟨q,0,none⟩),.pointer (some ⟨r,0,none⟩),act8V 14 a1 a2 a3 k4 n4 x4 k5 n5 x5 k6 n6 x6] s R:=by
 refine wfun2 hmix ok51 func51 rfl ntmps51 results51 (by simp) ?_
 obtain⟨s1,hs1,g1,p1⟩:=pre8 h (act8L 14 a1 a2 a3 k4 n4 x4 k5 n5 x5 k6 n6 x6)
 have hs:∀ c,L c→c<s.next:=fun c hc=>(h.fr c hc).1
 have q12:¬ s.next+1=s.next+2:=oM
 obtain⟨b1,b2,b3,b4,b5,b6,b7,b8,b9⟩:=hx
 unfold act8L z3 at hs1 p1
 unfold act8V
 simp only[↓Zd,Zp,Zs,simprocAttr,HEx,(A8x),co24]
 rw[← hs1]
 clear hs1
 refine senter_spec g1.st fun s2 h2 u2=>?_
 obtain⟨g2,p2⟩:=p1.real g1 oM h2 u2 (h.sz.enter _)
 have d0:=p2.k0
 simp only[↓Zd,Zp,Zs,simprocAttr,HEx,(A8x),d0,co118]
 have g3:=g2
 have p3:=p2
 refine rsenter_spec g3.rs fun s4 t4 h4 u4=>?_
 obtain⟨g4,p4⟩:=p3.ref g3 oM h4 u4
 have f1:=p4.k1
 have f2:=p4.k2
 obtain⟨t,hV⟩:=veq8 0 0 ⟨#[]⟩ 0 0 ⟨#[]⟩
 cases t
 all_goals
  simp only[↓Zd,Zp,Zs,simprocAttr,HEx,f1,f2,hV]
  exact hR _ _ _ _ _ _ _ ((g4.mono oM).sub fun c hc => .inl hc) p4.keep
theorem more8_15{a1 a2:Int}{a3:ByteArray}{k4 n4:Int}{x4:ByteArray}{k5 n5:Int}{x5:ByteArray}{k6 n6:Int}{x6:ByteArray}(h:SoAt L n0 s q r D N O p gb ov tv W)(hx:Ok8 15 a1 a2 a3 k4 n4 x4 k5 n5 x5 k6 n6 x6)(hN:N+8≤10000)
  (hR:∀ s' D' O' ov' tv' W' b,SoAt L n0 s' q r D' (N+8) O' p gb ov' tv' W'→(∀ c,L c→s'.at' c=s.at' c)→R (.bool b) s') :
  QC prog w0 51 #[.pointer (some ⟨q,0,none⟩),.pointer (some ⟨r,0,none⟩),act8V 15 a1 a2 a3 k4 n4 x4 k5 n5 x5 k6 n6 x6] s R:=by
 refine wfun2 hmix ok51 func51 rfl ntmps51 results51 (by simp) ?_
 obtain⟨s1,hs1,g1,p1⟩:=pre8 h (act8L 15 a1 a2 a3 k4 n4 x4 k5 n5 x5 k6 n6 x6)
 have hs:∀ c,L c→c<s.next:=fun c hc=>(h.fr c hc).1
 have q12:¬ s.next+1=s.next+2:=oM
 obtain⟨b1,b2,b3,b4,b5,b6,b7,b8,b9⟩:=hx
 unfold act8L z3 at hs1 p1
 unfold act8V
 simp only[↓Zd,Zp,Zs,simprocAttr,HEx,(A8x),co119]
 rw[← hs1]
 clear hs1
 refine sleave_spec g1.st fun s2 h2 u2=>?_
 obtain⟨g2,p2⟩:=p1.real g1 oM h2 u2 (h.sz.leave)
 have d0:=p2.k0
 simp only[↓Zd,Zp,simprocAttr,HEx,co120]
 have g3:=g2
 have p3:=p2
 refine rsleave_spec g3.rs fun s4 h4 u4=>?_
 obtain⟨g4,p4⟩:=p3.ref g3 oM h4 u4
 have f1:=p4.k1
 have f2:=p4.k2
 obtain⟨t,hV⟩:=veq8 0 0 ⟨#[]⟩ 0 0 ⟨#[]⟩
 cases t
 all_goals
  simp only[↓Zd,Zp,Zs,simprocAttr,HEx,f1,f2,hV]
  exact hR _ _ _ _ _ _ _ ((g4.mono oM).sub fun c hc => .inl hc) p4.keep
theorem more8_16{a1 a2:Int}{a3:ByteArray}{k4 n4:Int}{x4:ByteArray}{k5 n5:Int}{x5:ByteArray}{k6 n6:Int}{x6:ByteArray}(h:SoAt L n0 s q r D N O p gb ov tv W)(hx:Ok8 16 a1 a2 a3 k4 n4 x4 k5 n5 x5 k6 n6 x6)(hN:N+8≤10000)
  (hR:∀ s' D' O' ov' tv' W' b,SoAt L n0 s' q r D' (N+8) O' p gb ov' tv' W'→(∀ c,L c→s'.at' c=s.at' c)→R (.bool b) s') :
  QC prog w0 51 #[.pointer (some ⟨q,0,none⟩),.pointer (some ⟨r,0,none⟩),act8V 16 a1 a2 a3 k4 n4 x4 k5 n5 x5 k6 n6 x6] s R:=by
 refine wfun2 hmix ok51 func51 rfl ntmps51 results51 (by simp) ?_
 obtain⟨s1,hs1,g1,p1⟩:=pre8 h (act8L 16 a1 a2 a3 k4 n4 x4 k5 n5 x5 k6 n6 x6)
 have hs:∀ c,L c→c<s.next:=fun c hc=>(h.fr c hc).1
 have q12:¬ s.next+1=s.next+2:=oM
 obtain⟨b1,b2,b3,b4,b5,b6,b7,b8,b9⟩:=hx
 unfold act8L z3 at hs1 p1
 unfold act8V
 simp only[↓Zd,Zp,Zs,simprocAttr,HEx,(A8x),co10]
 rw[← hs1]
 clear hs1
 refine sfin_spec g1.st fun s2 h2 u2=>?_
 obtain⟨g2,p2⟩:=p1.real g1 oM h2 u2 (h.sz.endS ⟨by show x4.size≤_;omega,b3⟩)
 have d0:=p2.k0
 simp only[↓Zd,Zp,Zs,simprocAttr,HEx,(A8x),d0,co121]
 have g3:=g2
 have p3:=p2
 refine rsfin_spec g3.rs fun s4 h4 u4=>?_
 obtain⟨g4,p4⟩:=p3.ref g3 oM h4 u4
 have f1:=p4.k1
 have f2:=p4.k2
 obtain⟨t,hV⟩:=veq8 0 0 ⟨#[]⟩ 0 0 ⟨#[]⟩
 cases t
 all_goals
  simp only[↓Zd,Zp,Zs,simprocAttr,HEx,f1,f2,hV]
  exact hR _ _ _ _ _ _ _ ((g4.mono oM).sub fun c hc => .inl hc) p4.keep
theorem more8_18{a1 a2:Int}{a3:ByteArray}{k4 n4:Int}{x4:ByteArray}{k5 n5:Int}{x5:ByteArray}{k6 n6:Int}{x6:ByteArray}(h:SoAt L n0 s q r D N O p gb ov tv W)(hx:Ok8 18 a1 a2 a3 k4 n4 x4 k5 n5 x5 k6 n6 x6)(hN:N+8≤10000)
  (hR:∀ s' D' O' ov' tv' W' b,SoAt L n0 s' q r D' (N+8) O' p gb ov' tv' W'→(∀ c,L c→s'.at' c=s.at' c)→R (.bool b) s') :
  QC prog w0 51 #[.pointer (some ⟨q,0,none⟩),.pointer (some ⟨r,0,none⟩),act8V 18 a1 a2 a3 k4 n4 x4 k5 n5 x5 k6 n6 x6] s R:=by
 refine wfun2 hmix ok51 func51 rfl ntmps51 results51 (by simp) ?_
 obtain⟨s1,hs1,g1,p1⟩:=pre8 h (act8L 18 a1 a2 a3 k4 n4 x4 k5 n5 x5 k6 n6 x6)
 have hs:∀ c,L c→c<s.next:=fun c hc=>(h.fr c hc).1
 have q12:¬ s.next+1=s.next+2:=oM
 obtain⟨b1,b2,b3,b4,b5,b6,b7,b8,b9⟩:=hx
 unfold act8L z3 at hs1 p1
 unfold act8V
 simp only[↓Zd,Zp,Zs,simprocAttr,HEx,(A8x),co123]
 rw[← hs1]
 clear hs1
 refine sgrow_spec g1.st g1.lo oM b3 b1 fun s2 O2 tv2 h2 u2=>?_
 obtain⟨g2,p2⟩:=p1.real g1 oM h2 u2 (h.sz.ch (h.sz.H.grow h.sz.T _ _ ⟨by show x5.size≤_;omega,b4⟩) (h.sz.T.same (grow_T _ _ _ _)))
 have d0:=p2.k0
 simp only[↓Zd,Zp,Zs,simprocAttr,HEx,(A8x),d0,co124]
 have g3:=g2
 have p3:=p2
 refine rsgrow_spec g3.rs g3.lo oM b1 fun s4 W4 t4 h4 u4=>?_
 obtain⟨g4,p4⟩:=p3.ref g3 oM h4 u4
 have f1:=p4.k1
 have f2:=p4.k2
 obtain⟨t,hV⟩:=veq8 0 0 ⟨#[]⟩ 0 0 ⟨#[]⟩
 cases t
 all_goals
  simp only[↓Zd,Zp,Zs,simprocAttr,HEx,f1,f2,hV]
  exact hR _ _ _ _ _ _ _ ((g4.mono oM).sub fun c hc => .inl hc) p4.keep
end
theorem rowV1(a b:Int)(x:ByteArray):crow prog 48 1 #[(0,.agg #[.int .i64 a,.int .i64 b,.string x])]=some (.cells [.int .i64 a,.int .i64 b,.string x] 31 true):=oK
theorem rowV2(a b:Int)(x:ByteArray)(a' b':Int)(x':ByteArray):crow prog 48 2 #[(0,.agg #[.int .i64 a,.int .i64 b,.string x]),(1,.agg #[.int .i64 a',.int .i64 b',.string x'])]=some (.cells [.int .i64 a,.int .i64 b,.string x,.int .i64 a',.int .i64 b',.string x'] 31 true):=oK
section
variable {n0 q r N p gb:Nat}{D:StD}{O W L:Nat→Prop}{ov tv:Value}
theorem args8_spec{a0 a1 a2:Int}{a3:ByteArray}{k4 n4:Int}{x4:ByteArray}{k5 n5:Int}{x5:ByteArray}{k6 n6:Int}{x6:ByteArray}(hx:Ok8 a0 a1 a2 a3 k4 n4 x4 k5 n5 x5 k6 n6 x6)
  (hR:∀ (s':St M) (b:Nat) (l:List (Int×Int×ByteArray)),s.le s'→s.next≤b→b<s'.next→s'.at' b=some (.cells (l.flatMap val3) 31 true)→(∀ v∈l,I64 v.2.1)→l.length≤2→R (.slice (some ⟨b,0,none⟩) l.length l.length) s') :
  QC prog w0 17 #[act8V a0 a1 a2 a3 k4 n4 x4 k5 n5 x5 k6 n6 x6] s R:=by
 refine wfun2 hmix ok17 func17 rfl ntmps17 results17 (by simp) ?_
 obtain⟨b1,b2,b3,b4,b5,b6,b7,b8,b9⟩:=hx
 unfold act8V
 have w2:IntKind.i64.wrap (a2.tmod 2)=a2.tmod 2:=wrap_i64 (by have:=Int.tmod_lt_of_pos a2 (show (0:Int)<2 by omega);have:=Int.lt_tmod_of_pos a2 (show (0:Int)<2 by omega);omega)
 by_cases h2:a2.tmod 2=0
 ·simp only[↓Zd,Zp,Zr,Zs,simprocAttr,HEx,(A8x),h2,rowV2]
  have:=hR ((s.new (.cells (act8L a0 a1 a2 a3 k4 n4 x4 k5 n5 x5 k6 n6 x6) 33 true)).new (.cells [.int .i64 k4,.int .i64 n4,.string x4,.int .i64 k5,.int .i64 n5,.string x5] 31 true)) (s.next+1) [(k4,n4,x4),(k5,n5,x5)] oL oM (by simp only[nN];omega) (by rw[aN,if_pos (by simp only[nN])];rfl) (by intro v hv;simp only[List.mem_cons,List.not_mem_nil,or_false]at hv;rcases hv with rfl|rfl;exact b3;exact b4) (by simp)
  exact this
 ·simp only[↓Zd,Zp,Zr,Zs,simprocAttr,HEx,(A8x),h2,rowV1]
  have:=hR ((s.new (.cells (act8L a0 a1 a2 a3 k4 n4 x4 k5 n5 x5 k6 n6 x6) 33 true)).new (.cells [.int .i64 k4,.int .i64 n4,.string x4] 31 true)) (s.next+1) [(k4,n4,x4)] oL oM (by simp only[nN];omega) (by rw[aN,if_pos (by simp only[nN])];rfl) (by intro v hv;simp only[List.mem_cons,List.not_mem_nil,or_false]at hv;rcases hv with rfl;exact b3) (by simp)
  exact this
theorem numbers8_spec{A B:List Int}{va vb:Value}(ha:SlC 3 1 s va (A.map (.int .i64)) A.length)(hb:SlC 3 1 s vb (B.map (.int .i64)) B.length)(hla:A.length≤1000000)(hlb:B.length≤1000000)(hR:∀ b,R (.bool b) s) :
  QC prog w0 122 #[va,vb] s R:=by
 obtain⟨aa,ca,rfl⟩:∃ aa ca,va = .slice aa A.length ca:=by
  rcases ha with ⟨h1,h2,h3⟩|⟨b,c,h3,_⟩
  ·exact⟨none,0,by rw[h3,h1]⟩
  ·exact⟨_,_,h3⟩
 obtain⟨ab,cb,rfl⟩:∃ ab cb,vb = .slice ab B.length cb:=by
  rcases hb with ⟨h1,h2,h3⟩|⟨b,c,h3,_⟩
  ·exact⟨none,0,by rw[h3,h1]⟩
  ·exact⟨_,_,h3⟩
 refine wfun2 hmix ok122 func122 rfl ntmps122 results122 (by simp) ?_
 by_cases hl:(A.length:Int)=(B.length:Int)
 case neg =>
  simp only[↓Zd,Zp,simprocAttr,TAx,hl]
  exact hR _
 have hl:A.length=B.length:=oM
 have hl2:(A.length:Int)=(B.length:Int):=oM
 simp only[↓Zd,Zp,simprocAttr,TAx,hl2]
 refine wloop_inv hmix (fun fuel env s'=>env 0 = .slice aa A.length ca∧env 1 = .slice ab B.length cb∧s'=s∧∃ k:Nat,fuel=A.length - k∧k≤A.length∧env 5 = .int .i64 (k:Int)) A.length ⟨rfl,rfl,rfl,0,rfl,oM,rfl⟩ ?_
 rintro fuel env s2 ⟨e0,e1,rfl,k,rfl,hk,e5⟩
 by_cases hkn:(k:Int)<(A.length:Int)
 ·have hkA:(0:Int)≤(k:Int)∧(k:Int)<(A.length:Int):=oM
  have hkB:(0:Int)≤(k:Int)∧(k:Int)<(B.length:Int):=oM
  rcases ha with ⟨h1,h2,h3⟩|⟨b,c,h3,_,hba,_⟩
  ·omega
  rcases hb with ⟨h1,h2,h4⟩|⟨b',c',h4,_,hbb,_⟩
  ·omega
  cases h3
  cases h4
  have hA:(A.map (Value.int .i64))[k]?=some (.int .i64 A[k]):=by rw[List.getElem?_map,List.getElem?_eq_getElem oM];rfl
  have hB:(B.map (Value.int .i64))[k]?=some (.int .i64 B[k]):=by rw[List.getElem?_map,List.getElem?_eq_getElem oM];rfl
  generalize A[k]=x at hA
  generalize B[k]=y at hB
  have w1:IntKind.i64.wrap ((k:Int)+1)=((k+1:Nat):Int):=by rw[wrap_i64 oM];omega
  by_cases hxy:x=y
  ·simp only[↓Zd,Zp,simprocAttr,cld2,HEx,TAx,e0,e1,e5,hkn,hkA,hkB,hba,hbb,hA,hB,hxy,ord122,w1]
   exact⟨A.length - (k+1),oM,k+1,rfl,oM,rfl⟩
  ·simp only[↓Zd,Zp,simprocAttr,cld2,HEx,TAx,e0,e1,e5,hkn,hkA,hkB,hba,hbb,hA,hB,hxy,ord122]
   exact hR _
 ·simp only[↓Zd,Zp,simprocAttr,TAx,e0,e5,hkn]
  exact hR _
theorem more8_10{a1 a2:Int}{a3:ByteArray}{k4 n4:Int}{x4:ByteArray}{k5 n5:Int}{x5:ByteArray}{k6 n6:Int}{x6:ByteArray}(h:SoAt L n0 s q r D N O p gb ov tv W)(hx:Ok8 10 a1 a2 a3 k4 n4 x4 k5 n5 x5 k6 n6 x6)(hN:N+8≤10000)
  (hR:∀ s' D' O' ov' tv' W' b,SoAt L n0 s' q r D' (N+8) O' p gb ov' tv' W'→(∀ c,L c→s'.at' c=s.at' c)→R (.bool b) s') :
  QC prog w0 51 #[.pointer (some ⟨q,0,none⟩),.pointer (some ⟨r,0,none⟩),act8V 10 a1 a2 a3 k4 n4 x4 k5 n5 x5 k6 n6 x6] s R:=by
 refine wfun2 hmix ok51 func51 rfl ntmps51 results51 (by simp) ?_
 obtain⟨s1,hs1,g1,p1⟩:=pre8 h (act8L 10 a1 a2 a3 k4 n4 x4 k5 n5 x5 k6 n6 x6)
 have hs:∀ c,L c→c<s.next:=fun c hc=>(h.fr c hc).1
 have q12:¬ s.next+1=s.next+2:=oM
 have hx0:=hx
 obtain⟨b1,b2,b3,b4,b5,b6,b7,b8,b9⟩:=hx
 unfold act8L z3 at hs1 p1
 unfold act8V
 simp only[↓Zd,Zp,Zs,simprocAttr,HEx,(A8x),co17,ord51]
 rw[← hs1]
 clear hs1
 refine args8_spec hx0 fun s2 ab l l12 ha1 ha2 hab hI hl=>?_
 have u12:Upd s1 s2 (ownS q gb ov tv O) (ownS q gb ov tv O) := .of_le l12
 obtain⟨g2,p2⟩:=p1.real g1 (Nat.le_refl _) (g1.st.le l12) u12 h.sz
 have d0:=p2.k0
 simp only[↓Zd,Zp,simprocAttr,cld2,HEx,d0,co16]
 refine sbuilt_spec (o:=0) g2.st g2.lo oM (.inr trivial) hI oM ha2 (fun hb=>by have:=(g1.st.own ab hb).2;omega) hab (fun i hi=>by rw[Nat.zero_add]) fun s3 O3 tv3 va vb vx h3 u3=>?_
 obtain⟨g3,p3⟩:=p2.real g2 oM h3 u3 (h.sz.built _ _)
 obtain⟨s4,hs4,g4,p4⟩:=p3.put1 hs g3 (v3 va vb vx)
 have d0:=p3.k0
 have d1:=p3.k1
 unfold v3 at hs4 p4
 unfold vA
 simp only[↓Zd,Zp,Zs,simprocAttr,HEx,(A8x),d0,d1,co17]
 rw[← hs4]
 clear hs4
 refine args8_spec hx0 fun s5 ab2 l2 l45 hb1 hb2 hab2 hI2 hl2=>?_
 have u45:Upd s4 s5 W W := .of_le l45
 obtain⟨g5,p5⟩:=p4.ref g4 (Nat.le_refl _) (g4.rs.le l45) u45
 have d0:=p5.k0
 simp only[↓Zd,Zp,simprocAttr,cld2,HEx,d0,co114]
 refine rsbuilt_spec g5.rs g5.lo oM hI2 oM hb2 (fun hb=>by have:=(g4.rs.own ab2 hb).2;omega) hab2 fun s6 W6 wa wb wx t6 h6 u6=>?_
 obtain⟨g6,p6⟩:=p5.ref g5 oM h6 u6
 have f1:=p6.k1
 have f2:=p6.k2
 obtain⟨g7,p7⟩:=p6.put2 hs g6 (v3 wa wb wx)
 unfold v3 at g7 p7
 unfold vA
 obtain⟨t,hV⟩:=veq8 va vb vx wa wb wx
 cases t
 all_goals
  simp only[↓Zd,Zp,Zs,simprocAttr,HEx,(A8x),f1,f2,hV,q12]
  exact hR _ _ _ _ _ _ _ ((g7.mono oM).sub fun c hc => .inl hc) p7
theorem more8_12{a1 a2:Int}{a3:ByteArray}{k4 n4:Int}{x4:ByteArray}{k5 n5:Int}{x5:ByteArray}{k6 n6:Int}{x6:ByteArray}(h:SoAt L n0 s q r D N O p gb ov tv W)(hx:Ok8 12 a1 a2 a3 k4 n4 x4 k5 n5 x5 k6 n6 x6)(hN:N+8≤10000)
  (hR:∀ s' D' O' ov' tv' W' b,SoAt L n0 s' q r D' (N+8) O' p gb ov' tv' W'→(∀ c,L c→s'.at' c=s.at' c)→R (.bool b) s') :
  QC prog w0 51 #[.pointer (some ⟨q,0,none⟩),.pointer (some ⟨r,0,none⟩),act8V 12 a1 a2 a3 k4 n4 x4 k5 n5 x5 k6 n6 x6] s R:=by
 refine wfun2 hmix ok51 func51 rfl ntmps51 results51 (by simp) ?_
 obtain⟨s1,hs1,g1,p1⟩:=pre8 h (act8L 12 a1 a2 a3 k4 n4 x4 k5 n5 x5 k6 n6 x6)
 have hs:∀ c,L c→c<s.next:=fun c hc=>(h.fr c hc).1
 have q12:¬ s.next+1=s.next+2:=oM
 have hx0:=hx
 obtain⟨b1,b2,b3,b4,b5,b6,b7,b8,b9⟩:=hx
 unfold act8L z3 at hs1 p1
 unfold act8V
 simp only[↓Zd,Zp,Zs,simprocAttr,HEx,(A8x),co25]
 rw[← hs1]
 clear hs1
 have hgl:∀ (K:Value→St M→Prop),(∀ s' a b x,s1.le s'→K (vA a b x) s')→QC prog w0 25 #[.pointer (some ⟨q,0,none⟩),.int .i64 a1] s1 K:=fun K hK=>sglob_spec g1.st fun s' l=>hK s' _ _ _ l
 refine hgl _ fun s2 va vb vx l12=>?_
 have u12:Upd s1 s2 (ownS q gb ov tv O) (ownS q gb ov tv O) := .of_le l12
 obtain⟨g2,p2⟩:=p1.real g1 (Nat.le_refl _) (g1.st.le l12) u12 h.sz
 obtain⟨s3,hs3,g3,p3⟩:=p2.put1 hs g2 (v3 va vb vx)
 have d0:=p2.k0
 have d1:=p2.k1
 unfold v3 at hs3 p3
 unfold vA
 simp only[↓Zd,Zp,Zs,simprocAttr,HEx,(A8x),d0,d1,co116]
 rw[← hs3]
 clear hs3
 refine rsglob_spec g3.rs fun s4 wa wb wx l34=>?_
 obtain⟨g4,p4⟩:=p3.ref g3 (Nat.le_refl _) (g3.rs.le l34) (.of_le l34)
 have f1:=p4.k1
 have f2:=p4.k2
 obtain⟨g5,p5⟩:=p4.put2 hs g4 (v3 wa wb wx)
 unfold v3 at g5 p5
 unfold vA
 obtain⟨t,hV⟩:=veq8 va vb vx wa wb wx
 cases t
 all_goals
  simp only[↓Zd,Zp,Zs,simprocAttr,HEx,f1,f2,hV,q12]
  exact hR _ _ _ _ _ _ _ ((g5.mono oM).sub fun c hc => .inl hc) p5
theorem more8_17{a1 a2:Int}{a3:ByteArray}{k4 n4:Int}{x4:ByteArray}{k5 n5:Int}{x5:ByteArray}{k6 n6:Int}{x6:ByteArray}(h:SoAt L n0 s q r D N O p gb ov tv W)(hx:Ok8 17 a1 a2 a3 k4 n4 x4 k5 n5 x5 k6 n6 x6)(hN:N+8≤10000)
  (hR:∀ s' D' O' ov' tv' W' b,SoAt L n0 s' q r D' (N+8) O' p gb ov' tv' W'→(∀ c,L c→s'.at' c=s.at' c)→R (.bool b) s') :
  QC prog w0 51 #[.pointer (some ⟨q,0,none⟩),.pointer (some ⟨r,0,none⟩),act8V 17 a1 a2 a3 k4 n4 x4 k5 n5 x5 k6 n6 x6] s R:=by
 refine wfun2 hmix ok51 func51 rfl ntmps51 results51 (by simp) ?_
 obtain⟨s1,hs1,g1,p1⟩:=pre8 h (act8L 17 a1 a2 a3 k4 n4 x4 k5 n5 x5 k6 n6 x6)
 have hs:∀ c,L c→c<s.next:=fun c hc=>(h.fr c hc).1
 have q12:¬ s.next+1=s.next+2:=oM
 have hx0:=hx
 obtain⟨b1,b2,b3,b4,b5,b6,b7,b8,b9⟩:=hx
 unfold act8L z3 at hs1 p1
 unfold act8V
 simp only[↓Zd,Zp,Zs,simprocAttr,HEx,(A8x),co39]
 rw[← hs1]
 clear hs1
 have hst:=g1.st.st
 refine stouch_spec g1.st fun s2 h2 u2 hsl=>?_
 obtain⟨g2,p2⟩:=p1.real g1 (Nat.le_refl _) h2 u2 ⟨h.sz.H,h.sz.T,h.sz.g,h.sz.o,h.sz.v⟩
 obtain⟨D2,O2,p2',gb2,ov2,tv2,hin,hW⟩:=id g2.rs
 have hb:=hin.bl
 unfold rsC at hb
 simp only[↓Zd,Zp,simprocAttr,cld2,TAx,RSx,hb,co122]
 refine numbers8_spec hsl hin.st (by have:=h.st.num.tch;omega) (by have:=hin.num.tch;omega) fun t=>?_
 have d1:=p2.k1
 have d2:=p2.k2
 have hqr:∀ c,c=s.next+1∨c=s.next+2→¬ c=r:=fun c hc e=>(g2.fr c (.inr oM)).2.2 (by rw[hW];exact .inl e)
 have n1:=hqr _ (.inl rfl)
 have n2:=hqr _ (.inr rfl)
 have h3:RSAt n0 (s2.put r (.cells (rsC { D2 with tch:=[] } p2' gb2 ov2 (.slice none 0 0)) 94 true)) r N (ownS r gb2 ov2 (.slice none 0 0) O2)∧Upd s2 (s2.put r (.cells (rsC { D2 with tch:=[] } p2' gb2 ov2 (.slice none 0 0)) 94 true)) W (ownS r gb2 ov2 (.slice none 0 0) O2):=by
  obtain⟨a1,a2,a3,a4,a5,a6,a7,a8,a9,a10⟩:=hin
  have hk:∀ {B:Blk} b,b≠r→(s2.put r B).at' b=s2.at' b:=fun b hb=>by rw[aP,if_neg hb]
  refine⟨RSIn.to (D:={ D2 with tch:=[] }) (tv := .slice none 0 0) ⟨a1.same (Nat.le_refl _) fun c hc=>hk c fun e=>a4.2.2 (e▸hc),by rw[aP,if_pos rfl],⟨a3.fuel,a3.depth,a3.lim,a3.out,Nat.zero_le _,a3.glob,a3.n⟩,a4,a5,(hk gb2 a5.2.2.2).trans a6,slc_to a7 fun b hb=>hk b (a9 b hb).2.2.2.1,.inl ⟨rfl,rfl,rfl⟩,a9,fun b hb=>by cases hb⟩ rfl,Nat.le_refl _,fun b hb ho=>hk b fun e=>ho (by rw[hW];exact .inl e),?_⟩
  rw[hW]
  rintro b (hb|hb|hb|hb|hb)
  ·exact .inl (.inl hb)
  ·exact .inl (.inr (.inl hb))
  ·exact .inl (.inr (.inr (.inl hb)))
  ·cases hb
  ·exact .inl (.inr (.inr (.inr (.inr hb))))
 obtain⟨g3,p3⟩:=p2.ref g2 (Nat.le_refl _) h3.1 h3.2
 obtain⟨t2,hV⟩:=veq8 0 0 ⟨#[]⟩ 0 0 ⟨#[]⟩
 cases t2
 all_goals
  simp only[↓Zd,Zp,Zs,simprocAttr,HEx,TAx,RSx,hb,d1,d2,n1,n2,hV]
  exact hR _ _ _ _ _ _ _ ((g3.mono oM).sub fun c hc => .inl hc) p3.keep
theorem more8_no{a0 a1 a2:Int}{a3:ByteArray}{k4 n4:Int}{x4:ByteArray}{k5 n5:Int}{x5:ByteArray}{k6 n6:Int}{x6:ByteArray}(ha:a0<8∨18<a0)(h:SoAt L n0 s q r D N O p gb ov tv W)(hx:Ok8 a0 a1 a2 a3 k4 n4 x4 k5 n5 x5 k6 n6 x6)(hN:N+8≤10000)
  (hR:∀ s' D' O' ov' tv' W' b,SoAt L n0 s' q r D' (N+8) O' p gb ov' tv' W'→(∀ c,L c→s'.at' c=s.at' c)→R (.bool b) s') :
  QC prog w0 51 #[.pointer (some ⟨q,0,none⟩),.pointer (some ⟨r,0,none⟩),act8V a0 a1 a2 a3 k4 n4 x4 k5 n5 x5 k6 n6 x6] s R:=by
 refine wfun2 hmix ok51 func51 rfl ntmps51 results51 (by simp) ?_
 obtain⟨s1,hs1,g1,p1⟩:=pre8 h (act8L a0 a1 a2 a3 k4 n4 x4 k5 n5 x5 k6 n6 x6)
 have hs:∀ c,L c→c<s.next:=fun c hc=>(h.fr c hc).1
 have q12:¬ s.next+1=s.next+2:=oM
 have d0:=p1.k0
 have f1:=p1.k1
 have f2:=p1.k2
 unfold z3 at f1 f2
 unfold act8L z3 at hs1 p1
 unfold act8V
 have e8:¬ a0=8:=oM
 have e9:¬ a0=9:=oM
 have e10:¬ a0=10:=oM
 have e11:¬ a0=11:=oM
 have e12:¬ a0=12:=oM
 have e13:¬ a0=13:=oM
 have e14:¬ a0=14:=oM
 have e15:¬ a0=15:=oM
 have e16:¬ a0=16:=oM
 have e17:¬ a0=17:=oM
 have e18:¬ a0=18:=oM
 obtain⟨t,hV⟩:=veq8 0 0 ⟨#[]⟩ 0 0 ⟨#[]⟩
 have hk1:∀ {B1 B2 B3:Blk},SoAt L n0 (((s.new B1).new B2).new B3) q r D (N+8) O p gb ov tv W∧∀ c,L c→(((s.new B1).new B2).new B3).at' c=s.at' c:=fun {B1 B2 B3}=>by
  have l1:s.le (((s.new B1).new B2).new B3):=oL
  exact⟨((h.le l1 (k:=s.next) (by simp only[nN];omega)).sub fun c hc => .inl hc).mono oM,fun c hc=>l1.2 c (hs c hc)⟩
 cases t
 all_goals
  simp only[↓Zd,Zp,Zs,simprocAttr,HEx,(A8x),e8,e9,e10,e11,e12,e13,e14,e15,e16,e17,e18,hV,q12]
  exact hR _ _ _ _ _ _ _ hk1.1 hk1.2
theorem more8_spec{a0 a1 a2:Int}{a3:ByteArray}{k4 n4:Int}{x4:ByteArray}{k5 n5:Int}{x5:ByteArray}{k6 n6:Int}{x6:ByteArray}(h:SoAt L n0 s q r D N O p gb ov tv W)(hx:Ok8 a0 a1 a2 a3 k4 n4 x4 k5 n5 x5 k6 n6 x6)(hN:N+8≤10000)
  (hR:∀ s' D' O' ov' tv' W' b,SoAt L n0 s' q r D' (N+8) O' p gb ov' tv' W'→(∀ c,L c→s'.at' c=s.at' c)→R (.bool b) s') :
  QC prog w0 51 #[.pointer (some ⟨q,0,none⟩),.pointer (some ⟨r,0,none⟩),act8V a0 a1 a2 a3 k4 n4 x4 k5 n5 x5 k6 n6 x6] s R:=by
 by_cases ha:a0<8∨18<a0
 ·exact more8_no ha h hx hN hR
 rcases (show a0=8∨a0=9∨a0=10∨a0=11∨a0=12∨a0=13∨a0=14∨a0=15∨a0=16∨a0=17∨a0=18 by omega) with rfl|rfl|rfl|rfl|rfl|rfl|rfl|rfl|rfl|rfl|rfl
 ·exact more8_8 h hx hN hR
 ·exact more8_9 h hx hN hR
 ·exact more8_10 h hx hN hR
 ·exact more8_11 h hx hN hR
 ·exact more8_12 h hx hN hR
 ·exact more8_13 h hx hN hR
 ·exact more8_14 h hx hN hR
 ·exact more8_15 h hx hN hR
 ·exact more8_16 h hx hN hR
 ·exact more8_17 h hx hN hR
 ·exact more8_18 h hx hN hR
theorem done8_no{a0 a1 a2:Int}{a3:ByteArray}{k4 n4:Int}{x4:ByteArray}{k5 n5:Int}{x5:ByteArray}{k6 n6:Int}{x6:ByteArray}(ha:a0<0∨7<a0)(h:SoAt L n0 s q r D N O p gb ov tv W)(hx:Ok8 a0 a1 a2 a3 k4 n4 x4 k5 n5 x5 k6 n6 x6)(hN:N+8≤10000)
  (hR:∀ s' D' O' ov' tv' W' b,SoAt L n0 s' q r D' (N+8) O' p gb ov' tv' W'→(∀ c,L c→s'.at' c=s.at' c)→R (.bool b) s') :
  QC prog w0 9 #[.pointer (some ⟨q,0,none⟩),.pointer (some ⟨r,0,none⟩),act8V a0 a1 a2 a3 k4 n4 x4 k5 n5 x5 k6 n6 x6] s R:=by
 refine wfun2 hmix ok9 func9 rfl ntmps9 results9 (by simp) ?_
 obtain⟨s1,hs1,g1,p1⟩:=pre8 h (act8L a0 a1 a2 a3 k4 n4 x4 k5 n5 x5 k6 n6 x6)
 have hs:∀ c,L c→c<s.next:=fun c hc=>(h.fr c hc).1
 have q12:¬ s.next+1=s.next+2:=oM
 have d0:=p1.k0
 have f1:=p1.k1
 have f2:=p1.k2
 unfold z3 at f1 f2
 unfold act8L z3 at hs1 p1
 unfold act8V
 have e0:¬ a0=0:=oM
 have e1:¬ a0=1:=oM
 have e2:¬ a0=2:=oM
 have e3:¬ a0=3:=oM
 have e4:¬ a0=4:=oM
 have e5:¬ a0=5:=oM
 have e6:¬ a0=6:=oM
 have e7:¬ a0=7:=oM
 simp only[↓Zd,Zp,Zs,simprocAttr,HEx,(A8x),e0,e1,e2,e3,e4,e5,e6,e7,co51]
 rw[← hs1]
 clear hs1
 refine more8_spec (L:=L3 L s.next) g1 ⟨hx.a,hx.b,hx.x,hx.y,hx.z,hx.s3,hx.s4,hx.s5,hx.s6⟩ hN fun s2 D2 O2 ov2 tv2 W2 b2 g2 k2=>?_
 simp only[↓Zd,Zp,simprocAttr,HEx]
 exact hR _ _ _ _ _ _ _ (g2.sub fun c hc => .inl hc) fun c hc=>(k2 c (.inl hc)).trans (p1.keep c hc)
theorem done8_spec{a0 a1 a2:Int}{a3:ByteArray}{k4 n4:Int}{x4:ByteArray}{k5 n5:Int}{x5:ByteArray}{k6 n6:Int}{x6:ByteArray}(h:SoAt L n0 s q r D N O p gb ov tv W)(hx:Ok8 a0 a1 a2 a3 k4 n4 x4 k5 n5 x5 k6 n6 x6)(hN:N+8≤10000)
  (hR:∀ s' D' O' ov' tv' W' b,SoAt L n0 s' q r D' (N+8) O' p gb ov' tv' W'→(∀ c,L c→s'.at' c=s.at' c)→R (.bool b) s') :
  QC prog w0 9 #[.pointer (some ⟨q,0,none⟩),.pointer (some ⟨r,0,none⟩),act8V a0 a1 a2 a3 k4 n4 x4 k5 n5 x5 k6 n6 x6] s R:=by
 by_cases ha:a0<0∨7<a0
 ·exact done8_no ha h hx hN hR
 rcases (show a0=0∨a0=1∨a0=2∨a0=3∨a0=4∨a0=5∨a0=6∨a0=7 by omega) with rfl|rfl|rfl|rfl|rfl|rfl|rfl|rfl
 ·exact done8_0 h hx hN hR
 ·exact done8_1 h hx hN hR
 ·exact done8_2 h hx hN hR
 ·exact done8_3 h hx hN hR
 ·exact done8_4 h hx hN hR
 ·exact done8_5 h hx hN hR
 ·exact done8_6 h hx hN hR
 ·exact done8_7 h hx hN hR
end
end Go.Proofs.Tryz
