/- Lemmas, laid one behind the other by squeeze2.py. -/
import Derived.Test.YtnkichmojbanlaaGreatzD
import Derived.SliceStrings
import Derived.Carry
import Derived.ChangeMaps5
import Derived.ChangeSame
set_option linter.unusedSimpArgs false
set_option linter.unusedVariables false
set_option linter.unusedSectionVars false
set_option linter.defProp false
section
namespace Go.Proofs.Tryz
open Go.Cs
open Go.RowKit (Below)
set_option maxRecDepth 100000
attribute [local irreducible] QC WLoop WScope CRound WRange
section
variable {M:Type}[Mem M]{w0:World}{s:St M}{R:Value→St M→Prop}{lo p N:Nat}{H:Hp}{O:Nat→Prop}
set_option maxHeartbeats 8000000 in
theorem hdel_spec(h:HpAt lo s p H N O)(hlo:lo≤s.next){i:Int}{x:ByteArray}(hN:N+3≤1000000)(hN2:32≤N)(hi : -9223372036854775808≤i∧i≤9223372036854775807)
  (hR:∀ s' O',HpAt lo s' p (delH H i x) (N+3) O'→Upd s s' O O'→R (.bool (delB H i x)) s'):QC Tryz.prog w0 22 #[.pointer (some ⟨p,0,none⟩),.int .i64 i,.string x] s R:=by
 refine wfun2 hmix ok22 func22 rfl ntmps22 results22 (by simp) ?_
 obtain⟨hpro,tg,pf,pn,sl,bs,h⟩:=h
 simp -implicitDefEqProofs only[↓Zd,(Zp),simprocAttr,co58]
 refine hfind_spec h hi (fun hno=>?_) (fun j b o hij hb ho hat=>?_)
 ·have e1:delH H i x=H:=by unfold delH;rw[hno]
  have e2:delB H i x=false:=by unfold delB;rw[hno];rfl
  rw[e1,e2]at hR
  simp -implicitDefEqProofs only[↓Zd,(Zp),simprocAttr,(HEx)]
  exact hR _ _ ⟨hpro,tg,pf,pn,sl,bs,h.mono (by omega)⟩ .refl
 ·have hj:=(List.getElem?_eq_some_iff.1 ho).1
  simp -implicitDefEqProofs only[↓Zd,(Zp),simprocAttr,(HEx),co59]
  refine hown0_spec h hb ho fun s1 hs1=>?_
  have hn1:=hs1.1
  cases hg:getP o.L x with
  |none =>
   have e1:delH H i x=H:=by unfold delH;rw[hat];simp only[hg,Option.isSome_none,Bool.false_eq_true,if_false]
   have e2:delB H i x=false:=by unfold delB;rw[hat];simp only[Option.bind_some,hg,Option.isSome_none]
   rw[e1,e2]at hR
   simp only[gotV]
   simp -implicitDefEqProofs only[↓Zd,(Zp),simprocAttr,qP,Value.cells,qC,(HEx),vA]
   have l2:s.le ((s1.new (.cells [.int .i64 0,.int .i64 0,.string ⟨#[]⟩] 36 true)).put s1.next (.cells [.int .i64 0,.int .i64 0,.string ⟨#[]⟩] 36 true)):=lP (lN hs1) (by omega)
   exact hR _ _ ⟨hpro,tg,pf,pn,sl,bs,(h.le l2).mono (by omega)⟩ (.of_le l2)
  |some w =>
   obtain⟨v1,v2,v3⟩:=w
   have e1:delH H i x=putO H i { L:=delP o.L x,shape:=0,proto:=o.proto,epoch:=o.epoch+1 }:=by unfold delH;rw[hat];simp only[hg,Option.isSome_some,if_true]
   have e2:delB H i x=true:=by unfold delB;rw[hat];simp only[Option.bind_some,hg,Option.isSome_some]
   have hok:=del_ok h.ok i x
   have hpr:=del_pro hpro i x
   rw[e1]at hok hpr
   rw[e1,e2]at hR
   have hok1:=bump_ok h.ok hat (o.epoch+1)
   have l2:s.le ((s1.new (.cells [.int .i64 0,.int .i64 0,.string ⟨#[]⟩] 36 true)).put s1.next (.cells [.int .i64 v1,.int .i64 v2,.string v3] 36 true)):=lP (lN hs1) (by omega)
   have h2:=h.le l2
   have hB:=h2.obj j b o hb ho
   obtain⟨t,v,hc⟩:=hB.cells
   have hbn:=(h.own b hB.pin.1).2
   have hep:=hB.ep
   have w1:IntKind.i64.wrap ((o.epoch:Int)+1)=((o.epoch+1:Nat):Int):=by rw[wrap_i64 (by omega)];omega
   have hbs:¬ b=s1.next:=by omega
   have hc1:s1.at' b=some (.cells [.iface t v,.int .i64 (o.proto:Int),.int .i64 (o.epoch:Int)] 119 true):=by
    rw[St.at_put,if_neg hbs,St.at_new,if_neg hbs]at hc;exact hc
   simp only[gotV,vOf]
   simp -implicitDefEqProofs only[↓Zd,(Zp),simprocAttr,qP,Value.cells,qC,cld2,(HEx),vA,hc1,hbs,w1,co66]
   have hB1:=hB.head hc o.proto (o.epoch+1) (N':=N+1) (by omega) (by omega)
   have h3:=(h2.mono (N':=N+1) (by omega)).setO hij hj hb (upd_put hB.pin) hB1 hok1
   have hU3:=re_upd (tg:=tg) (k:=j+3) (upd_put (s:=(s1.new (.cells [.int .i64 0,.int .i64 0,.string ⟨#[]⟩] 36 true)).put s1.next (.cells [.int .i64 v1,.int .i64 v2,.string v3] 36 true)) (B := .cells [.iface t v,.int .i64 (o.proto:Int),.int .i64 ((o.epoch+1:Nat):Int)] 119 true) hB.pin)
   have ho3:(putO H i { o with epoch:=o.epoch+1 }).obs[j]?=some { o with epoch:=o.epoch+1 }:=putO_at (o:=o) hij hj
   refine hloosen_spec h3 (by simp only[(Sn)];omega) (by omega) (by omega) hb ho3 fun s4 pd4 OD4 hb4 hD4 ho4 hne4 hn4 hk4=>?_
   simp -implicitDefEqProofs only[↓Zd,(Zp),simprocAttr,(HEx),co68]
   refine ddel_spec hD4 (by omega) (fun s5 hD5 hn5 hk5=>?_) (by rw[hg];rfl)
   rw[hg]
   simp -implicitDefEqProofs only[↓Zd,(Zp),simprocAttr,(HEx)]
   obtain⟨hB5,hU5⟩:=loose_end (O3:=reO O tg (j+3) (fun c=>O c∧tg c=j+3)) (tg3:=reT tg (j+3) (fun c=>O c∧tg c=j+3)) (re_pin hB.pin) ⟨(hB.own b hB.pin).1,by simp only[(Sn)];omega⟩ hb4 ho4 hne4 hn4 hk4 hD5 hn5 hk5 (fun c hc => .inl hc) (by show o.epoch+1≤_;omega)
   have h5:=h3.setO hij (by simp only[putO,List.length_set];exact hj) hb hU5 hB5 (by rw[putO_put];exact hok)
   rw[putO_put]at h5
   exact hR _ _ ⟨hpr,_,_,_,_,_,h5.mono (by omega)⟩ ((Upd.of_le l2).trans (hU3.trans (re_upd hU5)))
set_option maxHeartbeats 8000000 in
theorem hput_spec(h:HpAt lo s p H N O){i q:Int}{y:ByteArray}{k n:Int}(hi : -9223372036854775808≤i∧i≤9223372036854775807)(hq : -9223372036854775808≤q∧q≤9223372036854775807)
  (hR:∀ s' O',HpAt lo s' p (putH H i q (k,n,y)) N O'→Upd s s' O O'→R (.bool (slotG H i q).isSome) s'):QC Tryz.prog w0 61 #[.pointer (some ⟨p,0,none⟩),.int .i64 i,.int .i64 q,vA k n y] s R:=by
 refine wfun2 hmix ok61 func61 rfl ntmps61 results61 (by simp) ?_
 obtain⟨hpro,tg,pf,pn,sl,bs,h⟩:=h
 have hok:=put_ok h.ok i q (k,n,y)
 have hpr:=put_pro hpro i q (k,n,y)
 have l1:s.le (s.new (.cells [.int .i64 k,.int .i64 n,.string y] 36 true)):=lN (lR _)
 simp -implicitDefEqProofs only[↓Zd,(Zp),simprocAttr,qP,Value.cells,(HEx),vA,co35]
 refine hslotted_spec (h.le l1) hi (fun hno=>?_) (fun j b o ps sv hij hb ho hat h0 h1 h2 h3 h4 h5 h6=>?_)
 ·have e1:putH H i q (k,n,y)=H:=by
   unfold putH
   rcases hno with h|⟨o,h,h0⟩
   ·rw[h]
   ·rw[h];simp only[h0,if_true]
  have e2:slotG H i q=none:=by
   unfold slotG
   rcases hno with h|⟨o,h,h0⟩
   ·rw[h]
   ·rw[h];simp[h0]
  rw[e1,e2]at hR
  simp -implicitDefEqProofs only[↓Zd,(Zp),simprocAttr,(HEx),vA]
  exact hR _ _ ⟨hpro,tg,pf,pn,sl,bs,h.le l1⟩ (.of_le l1)
 ·have hj:=(List.getElem?_eq_some_iff.1 ho).1
  have hs0:¬ o.shape=0:=by omega
  have hml:o.L.length≤32:=by have:=h.ok.lens j o ho;have:=h.ok.lim;omega
  obtain⟨an,cn,rfl⟩:∃ a c,sv = .slice a o.L.length c:=by
   rcases h5 with ⟨e1,_,rfl⟩|⟨b2,junk,rfl,_⟩
   ·exact⟨none,0,by rw[e1]⟩
   ·exact⟨_,_,rfl⟩
  by_cases k1:q<0
  ·have e1:putH H i q (k,n,y)=H:=by unfold putH;rw[hat];simp only[if_neg hs0];rw[if_neg (by omega)]
   have e2:slotG H i q=none:=by unfold slotG;rw[hat];simp only[if_neg hs0];rw[if_neg (by omega)]
   rw[e1,e2]at hR
   simp -implicitDefEqProofs only[↓Zd,(Zp),simprocAttr,(HEx),vA,k1]
   exact hR _ _ ⟨hpro,tg,pf,pn,sl,bs,h.le l1⟩ (.of_le l1)
  ·by_cases k2:(o.L.length:Int)≤q
   ·have e3:o.L[q.toNat]?=none:=List.getElem?_eq_none (by omega)
    have e1:putH H i q (k,n,y)=H:=by unfold putH;rw[hat];simp only[if_neg hs0];rw[if_pos (by omega),e3]
    have e2:slotG H i q=none:=by unfold slotG;rw[hat];simp only[if_neg hs0];rw[if_pos (by omega),e3];rfl
    rw[e1,e2]at hR
    simp -implicitDefEqProofs only[↓Zd,(Zp),simprocAttr,cld2,(HEx),vA,h2,k1,k2]
    exact hR _ _ ⟨hpro,tg,pf,pn,sl,bs,h.le l1⟩ (.of_le l1)
   ·obtain⟨m,rfl⟩:∃ m:Nat,q=(m:Int):=⟨q.toNat,by omega⟩
    have hmlt:m<o.L.length:=by omega
    obtain⟨x,v,hg⟩:∃ x v,o.L[m]?=some (x,v):=⟨o.L[m].1,o.L[m].2,by simp[hmlt]⟩
    have e1:putH H i (m:Int) (k,n,y)=putO H i { o with L:=o.L.set m (x,k,n,y) }:=by unfold putH;rw[hat];simp only[if_neg hs0];rw[if_pos (by omega),Int.toNat_natCast,hg]
    have e2:(slotG H i (m:Int)).isSome=true:=by unfold slotG;rw[hat];simp only[if_neg hs0];rw[if_pos (by omega),Int.toNat_natCast,hg];rfl
    rw[e1]at hok hpr
    rw[e1,e2]at hR
    rcases h5 with ⟨e0,_⟩|⟨b2,junk,e5,hb2,_⟩
    ·omega
    cases e5
    have hb2O:=h6 _ _ _ rfl
    simp only at hb2O
    have hb2n:=(h.own b2 hb2O.1.1).2
    have hne:¬ b2=s.next:=by omega
    have hb2':s.at' b2=some (.cells (valsC o.L++junk) 36 true):=by rw[St.at_new,if_neg hne]at hb2;exact hb2
    obtain⟨c1,c2⟩:=valsC_cut o.L m _ _ junk hg
    have hset:=valsC_set o.L m x (k,n,y) _ junk hg
    have hkk:(0:Int)≤(m:Int)∧(m:Int)<(o.L.length:Int):=by omega
    simp -implicitDefEqProofs only[↓Zd,(Zp),simprocAttr,qP,Value.cells,cut,qC,cld2,(HEx),vA,h2,k1,k2,hb2,hkk,c1,hset,ord61]
    have hB:=(h.le l1).obj j b o hb ho
    have h3':=(h.le l1).setO (o':={ o with L:=o.L.set m (x,k,n,y) }) (s':=(s.new (.cells [.int .i64 k,.int .i64 n,.string y] 36 true)).put b2 (.cells (valsC (o.L.set m (x,k,n,y))++junk) 36 true)) hij hj hb (upd_put hb2O.1) ⟨fun c hc=>hB.own c hc,hB.pin,hB.ep,.inr ⟨h0,ps,_,by rw[St.at_put,if_neg (fun e:b=b2=>hb2O.2.1 e.symm)];exact h1,by rw[St.at_put,if_neg (fun e:ps=b2=>hb2O.2.2 e.symm)];exact h2,h3,h4,.inr ⟨b2,junk,by rw[List.length_set],by rw[St.at_put,if_pos rfl],valsC_len _⟩,fun q n c e=>by cases e;exact hb2O⟩⟩ hok
    exact hR _ _ ⟨hpr,_,_,_,_,_,h3'⟩ ((Upd.of_le l1).trans (re_upd (upd_put hb2O.1)))
theorem putO_putF(H:Hp)(F':List Sh)(i:Int)(a b:Ob):putO { putO H i a with F:=F' } i b=putO { H with F:=F' } i b:=by
 unfold putO;simp only[List.set_set]
theorem move_ok{H:Hp}(h:HOk H)(n q:Nat):HOk { H with F:=moveF H.F H.most n q }:=
 h.more (fun j t ht=>move_pre ht) (fun _ _ _=>rfl) (Nat.le_refl _) h.nodup (move_ids h.ids)
set_option maxHeartbeats 8000000 in
theorem hsetproto_spec(h:HpAt lo s p H N O)(hlo:lo≤s.next){i q:Int}(hN:N+3≤1000000)(hN2:32≤N)(hi : -9223372036854775808≤i∧i≤9223372036854775807)(hq : -9223372036854775808≤q∧q≤9223372036854775807)
  (hR:∀ s' O',HpAt lo s' p (protoH H i q) (N+3) O'→Upd s s' O O'→R (.int .i64 (protoE H i q)) s'):QC Tryz.prog w0 23 #[.pointer (some ⟨p,0,none⟩),.int .i64 i,.int .i64 q] s R:=by
 refine wfun2 hmix ok23 func23 rfl ntmps23 results23 (by simp) ?_
 obtain⟨hpro,tg,pf,pn,sl,bs,h⟩:=h
 have hmono:=h.mono (N':=N+3) (by omega)
 have hno4:protoE H i q=4→R (.int .i64 4) s:=fun e=>by
  have:=hR s O
  rw[e]at this
  have e1:protoH H i q=H:=by unfold protoH;rw[if_neg (by omega)]
  rw[e1]at this
  exact this ⟨hpro,_,_,_,_,_,hmono⟩ .refl
 have hno32:protoE H i q=32→R (.int .i64 32) s:=fun e=>by
  have:=hR s O
  rw[e]at this
  have e1:protoH H i q=H:=by unfold protoH;rw[if_neg (by omega)]
  rw[e1]at this
  exact this ⟨hpro,_,_,_,_,_,hmono⟩ .refl
 have hhb:=h.bl
 simp -implicitDefEqProofs only[↓Zd,(Zp),simprocAttr,co48]
 refine hdead_spec h ?_
 simp -implicitDefEqProofs only[↓Zd,(Zp),simprocAttr,(HEx),co58]
 refine hfind_spec h hi (fun hno=>?_) (fun j b o hij hb ho hat=>?_)
 ·have e:protoE H i q=4:=by unfold protoE;rw[if_pos (.inl hno)]
  simp -implicitDefEqProofs only[↓Zd,(Zp),simprocAttr,(HEx)]
  exact hno4 e
 ·have hj:=(List.getElem?_eq_some_iff.1 ho).1
  have hrest:(q=0∨∃ u,obAt H q=some u)→QC Tryz.prog w0 69 #[.pointer (some ⟨p,0,none⟩),.int .i64 i,.int .i64 q] s (fun v s'=>s'=s∧v = .bool (onB H i q)):=fun hq=>by
   refine hon_spec h (by omega) ?_ fun b hb=>⟨rfl,by rw[hb.eq]⟩
   rcases hq with h|⟨u,h⟩
   ·exact .inl h
   ·obtain⟨m,hm,hm2,_⟩:=obAt_some h
    right;omega
  by_cases qn0:q<0
  ·have q0:¬ q=0:=by omega
   have hqn:obAt H q=none:=obAt_none.2 (by omega)
   have e:protoE H i q=4:=by unfold protoE;rw[if_pos (.inr ⟨q0,hqn⟩)]
   simp -implicitDefEqProofs only[↓Zd,(Zp),simprocAttr,(HEx),q0,co58]
   refine hfind_spec h hq (fun _=>?_) (fun j2 b2 o2 hij2 hb2 ho2 hat2=>by rw[hqn]at hat2;cases hat2)
   simp -implicitDefEqProofs only[↓Zd,(Zp),simprocAttr,(HEx)]
   exact hno4 e
  ·obtain⟨qn,rfl⟩:∃ qn:Nat,q=(qn:Int):=⟨q.toNat,by omega⟩
   have hB:=h.obj j b o hb ho
   have hbn:=(hB.own b hB.pin).2
   have hep:=hB.ep
   have w1:IntKind.i64.wrap ((o.epoch:Int)+1)=((o.epoch+1:Nat):Int):=by rw[wrap_i64 (by omega)];omega
   have hpb:¬ p=b:=fun e=>by have h1:=h.pin.2;have h2:=hB.pin.2;rw[e]at h1;omega
   by_cases q0:qn=0
   ·subst q0
    simp -implicitDefEqProofs only[↓Zd,(Zp),simprocAttr,(HEx),co69]
    refine QC.mono (hrest (.inl rfl)) fun v s' hv=>?_
    obtain⟨rfl,rfl⟩:=hv
    have hqok:¬ (obAt H i=none∨(((0:Nat):Int)≠0∧obAt H ((0:Nat):Int)=none)):=by rintro (h|h);rw[hat]at h;cases h;exact h.1 rfl
    have hup:onB H i ((0:Nat):Int)=false→HOk (putO H i { o with proto:=0,epoch:=o.epoch+1 }):=fun hon=>by
     subst hij
     unfold putO
     rw[show ((j+1:Nat):Int).toNat - 1=j by omega]
     exact h.ok.upd (F':=H.F) (T':=H.T) ho (fun _ _ h=>h) (fun _ _ _=>rfl) (Nat.le_refl _) h.ok.nodup h.ok.ids (fun h2=>h.ok.fits j o ho h2) (h.ok.keys j o ho) (h.ok.lens j o ho) (proto_up h.ok ho (.inl rfl) hon rfl)
    cases hon:onB H i ((0:Nat):Int) with
    |true =>
     have e:protoE H i ((0:Nat):Int)=32:=by unfold protoE;rw[if_neg hqok,if_pos hon]
     simp -implicitDefEqProofs only[↓Zd,(Zp),simprocAttr,(HEx)]
     exact hno32 e
    |false =>
     have e:protoE H i ((0:Nat):Int)=0:=by unfold protoE;rw[if_neg hqok,if_neg (by rw[hon];simp)]
     have hok:=proto_ok h.ok i ((0:Nat):Int)
     have hpr:=proto_pro h.ok hpro i ((0:Nat):Int)
     have hok1:=hup hon
     rcases hB.bl with ⟨h0,pd,OD,g1,g2,g3⟩|⟨h0,ps,sv,g1,g2,g3,g4,g5,g6⟩
     ·have e1:protoH H i ((0:Nat):Int)=putO H i { o with proto:=0,epoch:=o.epoch+1 }:=by unfold protoH;rw[if_pos e,hat];simp only[if_pos h0];rfl
      rw[e1]at hok hpr hR
      rw[e]at hR
      simp -implicitDefEqProofs only[↓Zd,(Zp),simprocAttr,qP,Value.cells,qC,cld2,(HEx),g1,w1]
      have hB1:=hB.head g1 0 o.epoch (N':=N+1) (by omega) (by omega)
      have hB2:=hB1.head (by rw[St.at_put,if_pos rfl]) 0 (o.epoch+1) (N':=N+1) (by show o.epoch+1≤_;omega) (Nat.le_refl _)
      have h3:=(h.mono (N':=N+1) (by omega)).setO hij hj hb ((upd_put hB.pin).trans (upd_put hB.pin)) hB2 hok1
      exact hR _ _ ⟨hpr,_,_,_,_,_,h3.mono (by omega)⟩ (re_upd ((upd_put hB.pin).trans (upd_put hB.pin)))
     ·have e1:protoH H i ((0:Nat):Int)=putO { H with F:=moveF H.F H.most o.shape 0 } i { o with proto:=0,epoch:=o.epoch+1,shape:=moveN H.F H.most o.shape 0 }:=by unfold protoH;rw[if_pos e,hat];simp only[if_neg (show ¬ o.shape=0 by omega)];rfl
      rw[e1]at hok hpr hR
      rw[e]at hR
      have hgs:¬ ps=b:=g4
      have hF12:o.shape≤150:=by
       obtain⟨q0,l,h1,_⟩:=h.ok.fits j o ho h0
       have:=(List.getElem?_eq_some_iff.1 h1).1
       have:=h.fo.le
       omega
      have hB1:=hB.head g1 0 o.epoch (N':=N+1) (by omega) (by omega)
      have hB2:=hB1.head (by rw[St.at_put,if_pos rfl]) 0 (o.epoch+1) (N':=N+1) (by show o.epoch+1≤_;omega) (Nat.le_refl _)
      have h3:=(h.mono (N':=N+1) (by omega)).setO hij hj hb ((upd_put hB.pin).trans (upd_put hB.pin)) hB2 hok1
      have hU3:=re_upd ((upd_put (s:=s') (B := .cells [.iface 88 (.pointer (some ⟨ps,0,none⟩)),.int .i64 ((0:Nat):Int),.int .i64 (o.epoch:Int)] 119 true) hB.pin).trans (upd_put (B := .cells [.iface 88 (.pointer (some ⟨ps,0,none⟩)),.int .i64 ((0:Nat):Int),.int .i64 ((o.epoch+1:Nat):Int)] 119 true) hB.pin))
      simp -implicitDefEqProofs only[↓Zd,(Zp),simprocAttr,qP,Value.cells,qC,cld2,(HEx),g1,g2,hgs,w1,hhb,hpb,ord23,co70]
      refine fmove_spec (i:=(o.shape:Int)) (q:=0) h3.fo (by simp only[St.next_put];omega) (by omega) fun s4 O4 hF4 hU4=>?_
      have hF4':FAt lo s4 pf (moveF H.F H.most (o.shape:Int) 0) H.most O4:=hF4
      show Cs.shape Tryz.prog 3 (.int .i64 ((moveN H.F H.most (o.shape:Int) 0:Nat):Int)) _
      have h4:=h3.newF hU4 hF4' (move_ok hok1 o.shape 0)
      have hU4':=re_upd hU4
      have hn4:=hU4.next
      simp only[St.next_put]at hn4
      generalize hO3:reO O tg (j+3) (fun c=>O c∧tg c=j+3)=O3 at h3 h4 hU3 hU4 hU4'
      generalize hT3:reT tg (j+3) (fun c=>O c∧tg c=j+3)=tg3 at h3 h4 hU4 hU4'
      have hin3:∀ c,O c∧tg c=j+3→O3 c∧tg3 c=j+3:=fun c hc=>by
       have:=re_pin (O:=O) (tg:=tg) (j:=j+3) (O':=fun c=>O c∧tg c=j+3) hc
       rw[hO3,hT3]at this;exact this
      have hat4:∀ c,O c∧tg c=j+3→s4.at' c=((s'.put b (.cells [.iface 88 (.pointer (some ⟨ps,0,none⟩)),.int .i64 ((0:Nat):Int),.int .i64 (o.epoch:Int)] 119 true)).put b (.cells [.iface 88 (.pointer (some ⟨ps,0,none⟩)),.int .i64 ((0:Nat):Int),.int .i64 ((o.epoch+1:Nat):Int)] 119 true)).at' c:=fun c hc =>
       re_keep h3.own hU4 c (hin3 c hc).1 (by rw[(hin3 c hc).2];omega)
      have hin4:∀ c,O c∧tg c=j+3→reO O3 tg3 1 O4 c∧reT tg3 1 O4 c=j+3:=fun c hc=>re_tag (fun b hb=>(h3.own b hb).2) hU4.own (by omega) (hin3 c hc)
      have hps4:s4.at' ps=some (.cells [.int .i64 (o.shape:Int),sv] 92 true):=by
       rw[hat4 ps g3,St.at_put,if_neg g4,St.at_put,if_neg g4];exact g2
      have hb4:s4.at' b=some (.cells [.iface 88 (.pointer (some ⟨ps,0,none⟩)),.int .i64 ((0:Nat):Int),.int .i64 ((o.epoch+1:Nat):Int)] 119 true):=by
       rw[hat4 b hB.pin,St.at_put,if_pos rfl]
      have hsl4:SlU 36 3 s4 sv (valsC o.L) o.L.length:=g5.same fun q n c e=>by
       have:=g6 q n c e
       rw[hat4 _ this.1,St.at_put,if_neg this.2.1,St.at_put,if_neg this.2.1]
      have hok4:HOk (putO { H with F:=moveF H.F H.most (o.shape:Int) 0 } i { o with proto:=0,epoch:=o.epoch+1 }):=h4.ok
      have hUall:=hU3.trans hU4'
      have hobj4:({ putO H i { o with proto:=0,epoch:=o.epoch+1 } with F:=moveF H.F H.most (o.shape:Int) 0 }:Hp).obs[j]?=some { o with proto:=0,epoch:=o.epoch+1 }:=putO_at (o:=o) hij hj
      have hlt4:j<({ putO H i { o with proto:=0,epoch:=o.epoch+1 } with F:=moveF H.F H.most (o.shape:Int) 0 }:Hp).obs.length:=by simp only[putO,List.length_set];exact hj
      by_cases hpos:(0:Int)<((moveN H.F H.most (o.shape:Int) 0:Nat):Int)
      ·simp -implicitDefEqProofs only[↓Zd,(Zp),simprocAttr,qP,Value.cells,qC,(HEx),hpos,hps4]
       have hB5:ObAt lo (s4.put ps (.cells [.int .i64 ((moveN H.F H.most (o.shape:Int) 0:Nat):Int),sv] 92 true)) (N+1) b { o with proto:=0,epoch:=o.epoch+1,shape:=moveN H.F H.most (o.shape:Int) 0 } (fun c=>reO O3 tg3 1 O4 c∧reT tg3 1 O4 c=j+3):=by
        refine⟨fun c hc=>h4.own c hc.1,hin4 b hB.pin,by show o.epoch+1≤_;omega,.inr ⟨by show 0<moveN H.F H.most (o.shape:Int) 0;omega,ps,sv,?_,by rw[St.at_put,if_pos rfl],hin4 ps g3,g4,hsl4.same fun q n c e=>?_,fun q n c e=>?_⟩⟩
        ·rw[St.at_put,if_neg (fun e:b=ps=>g4 e.symm)];exact hb4
        ·rw[St.at_put,if_neg (g6 q n c e).2.2]
        ·exact⟨hin4 _ (g6 q n c e).1,(g6 q n c e).2⟩
       have h5:=h4.setO hij hlt4 hb (upd_put (hin4 ps g3)) hB5 (by rw[putO_putF];exact hok)
       rw[putO_putF]at h5
       exact hR _ _ ⟨hpr,_,_,_,_,_,h5.mono (by omega)⟩ (hUall.trans (re_upd (upd_put (hin4 ps g3))))
      ·have hz:moveN H.F H.most (o.shape:Int) 0=0:=by omega
       rw[hz]at hok hpr hR
       simp -implicitDefEqProofs only[↓Zd,(Zp),simprocAttr,(HEx),hpos,co66]
       refine hloosen_spec h4 (by omega) (by omega) (by omega) hb hobj4 fun s5 pd5 OD5 hb5 hD5 ho5 hne5 hn5 hk5=>?_
       simp -implicitDefEqProofs only[↓Zd,(Zp),simprocAttr,(HEx)]
       obtain⟨hB6,hU6⟩:=loose_end (hin4 b hB.pin) (h4.own b (hin4 b hB.pin).1) hb5 ho5 hne5 hn5 hk5 hD5 (Nat.le_refl _) (fun _ _ _=>rfl) (fun c hc => .inl hc) (by show o.epoch+1≤_;omega)
       have h6:=h4.setO hij hlt4 hb hU6 hB6 (by rw[putO_putF];exact hok)
       rw[putO_putF]at h6
       exact hR _ _ ⟨hpr,_,_,_,_,_,h6.mono (by omega)⟩ (hUall.trans (re_upd hU6))
   ·have hqz:¬ (qn:Int)=0:=by omega
    simp -implicitDefEqProofs only[↓Zd,(Zp),simprocAttr,(HEx),hqz,co58]
    refine hfind_spec h hq (fun hno=>?_) (fun j2 b2 o2 hij2 hb2 ho2 hat2=>?_)
    ·have e:protoE H i (qn:Int)=4:=by unfold protoE;rw[if_pos (.inr ⟨hqz,hno⟩)]
     simp -implicitDefEqProofs only[↓Zd,(Zp),simprocAttr,(HEx)]
     exact hno4 e
    ·simp -implicitDefEqProofs only[↓Zd,(Zp),simprocAttr,(HEx),co69]
     refine QC.mono (hrest (.inr ⟨o2,hat2⟩)) fun v s' hv=>?_
     obtain⟨rfl,rfl⟩:=hv
     have hqok:¬ (obAt H i=none∨(((qn:Nat):Int)≠0∧obAt H ((qn:Nat):Int)=none)):=by rintro (h|h);rw[hat]at h;cases h;rw[hat2]at h;cases h.2
     have hup:onB H i ((qn:Nat):Int)=false→HOk (putO H i { o with proto:=qn,epoch:=o.epoch+1 }):=fun hon=>by
      subst hij
      unfold putO
      rw[show ((j+1:Nat):Int).toNat - 1=j by omega]
      exact h.ok.upd (F':=H.F) (T':=H.T) ho (fun _ _ h=>h) (fun _ _ _=>rfl) (Nat.le_refl _) h.ok.nodup h.ok.ids (fun h2=>h.ok.fits j o ho h2) (h.ok.keys j o ho) (h.ok.lens j o ho) (proto_up h.ok ho (.inr (by have:=(List.getElem?_eq_some_iff.1 ho2).1;omega)) hon rfl)
     cases hon:onB H i ((qn:Nat):Int) with
     |true =>
      have e:protoE H i ((qn:Nat):Int)=32:=by unfold protoE;rw[if_neg hqok,if_pos hon]
      simp -implicitDefEqProofs only[↓Zd,(Zp),simprocAttr,(HEx)]
      exact hno32 e
     |false =>
      have e:protoE H i ((qn:Nat):Int)=0:=by unfold protoE;rw[if_neg hqok,if_neg (by rw[hon];simp)]
      have hok:=proto_ok h.ok i ((qn:Nat):Int)
      have hpr:=proto_pro h.ok hpro i ((qn:Nat):Int)
      have hok1:=hup hon
      rcases hB.bl with ⟨h0,pd,OD,g1,g2,g3⟩|⟨h0,ps,sv,g1,g2,g3,g4,g5,g6⟩
      ·have e1:protoH H i ((qn:Nat):Int)=putO H i { o with proto:=qn,epoch:=o.epoch+1 }:=by unfold protoH;rw[if_pos e,hat];simp only[if_pos h0];rfl
       rw[e1]at hok hpr hR
       rw[e]at hR
       simp -implicitDefEqProofs only[↓Zd,(Zp),simprocAttr,qP,Value.cells,qC,cld2,(HEx),g1,w1]
       have hB1:=hB.head g1 qn o.epoch (N':=N+1) (by omega) (by omega)
       have hB2:=hB1.head (by rw[St.at_put,if_pos rfl]) qn (o.epoch+1) (N':=N+1) (by show o.epoch+1≤_;omega) (Nat.le_refl _)
       have h3:=(h.mono (N':=N+1) (by omega)).setO hij hj hb ((upd_put hB.pin).trans (upd_put hB.pin)) hB2 hok1
       exact hR _ _ ⟨hpr,_,_,_,_,_,h3.mono (by omega)⟩ (re_upd ((upd_put hB.pin).trans (upd_put hB.pin)))
      ·have e1:protoH H i ((qn:Nat):Int)=putO { H with F:=moveF H.F H.most o.shape qn } i { o with proto:=qn,epoch:=o.epoch+1,shape:=moveN H.F H.most o.shape qn }:=by unfold protoH;rw[if_pos e,hat];simp only[if_neg (show ¬ o.shape=0 by omega)];rfl
       rw[e1]at hok hpr hR
       rw[e]at hR
       have hgs:¬ ps=b:=g4
       have hF12:o.shape≤150:=by
        obtain⟨q0,l,h1,_⟩:=h.ok.fits j o ho h0
        have:=(List.getElem?_eq_some_iff.1 h1).1
        have:=h.fo.le
        omega
       have hB1:=hB.head g1 qn o.epoch (N':=N+1) (by omega) (by omega)
       have hB2:=hB1.head (by rw[St.at_put,if_pos rfl]) qn (o.epoch+1) (N':=N+1) (by show o.epoch+1≤_;omega) (Nat.le_refl _)
       have h3:=(h.mono (N':=N+1) (by omega)).setO hij hj hb ((upd_put hB.pin).trans (upd_put hB.pin)) hB2 hok1
       have hU3:=re_upd ((upd_put (s:=s') (B := .cells [.iface 88 (.pointer (some ⟨ps,0,none⟩)),.int .i64 ((qn:Nat):Int),.int .i64 (o.epoch:Int)] 119 true) hB.pin).trans (upd_put (B := .cells [.iface 88 (.pointer (some ⟨ps,0,none⟩)),.int .i64 ((qn:Nat):Int),.int .i64 ((o.epoch+1:Nat):Int)] 119 true) hB.pin))
       simp -implicitDefEqProofs only[↓Zd,(Zp),simprocAttr,qP,Value.cells,qC,cld2,(HEx),g1,g2,hgs,w1,hhb,hpb,ord23,co70]
       refine fmove_spec (i:=(o.shape:Int)) (q:=qn) h3.fo (by simp only[St.next_put];omega) (by omega) fun s4 O4 hF4 hU4=>?_
       have hF4':FAt lo s4 pf (moveF H.F H.most (o.shape:Int) qn) H.most O4:=hF4
       show Cs.shape Tryz.prog 3 (.int .i64 ((moveN H.F H.most (o.shape:Int) qn:Nat):Int)) _
       have h4:=h3.newF hU4 hF4' (move_ok hok1 o.shape qn)
       have hU4':=re_upd hU4
       have hn4:=hU4.next
       simp only[St.next_put]at hn4
       generalize hO3:reO O tg (j+3) (fun c=>O c∧tg c=j+3)=O3 at h3 h4 hU3 hU4 hU4'
       generalize hT3:reT tg (j+3) (fun c=>O c∧tg c=j+3)=tg3 at h3 h4 hU4 hU4'
       have hin3:∀ c,O c∧tg c=j+3→O3 c∧tg3 c=j+3:=fun c hc=>by
        have:=re_pin (O:=O) (tg:=tg) (j:=j+3) (O':=fun c=>O c∧tg c=j+3) hc
        rw[hO3,hT3]at this;exact this
       have hat4:∀ c,O c∧tg c=j+3→s4.at' c=((s'.put b (.cells [.iface 88 (.pointer (some ⟨ps,0,none⟩)),.int .i64 ((qn:Nat):Int),.int .i64 (o.epoch:Int)] 119 true)).put b (.cells [.iface 88 (.pointer (some ⟨ps,0,none⟩)),.int .i64 ((qn:Nat):Int),.int .i64 ((o.epoch+1:Nat):Int)] 119 true)).at' c:=fun c hc =>
        re_keep h3.own hU4 c (hin3 c hc).1 (by rw[(hin3 c hc).2];omega)
       have hin4:∀ c,O c∧tg c=j+3→reO O3 tg3 1 O4 c∧reT tg3 1 O4 c=j+3:=fun c hc=>re_tag (fun b hb=>(h3.own b hb).2) hU4.own (by omega) (hin3 c hc)
       have hps4:s4.at' ps=some (.cells [.int .i64 (o.shape:Int),sv] 92 true):=by
        rw[hat4 ps g3,St.at_put,if_neg g4,St.at_put,if_neg g4];exact g2
       have hb4:s4.at' b=some (.cells [.iface 88 (.pointer (some ⟨ps,0,none⟩)),.int .i64 ((qn:Nat):Int),.int .i64 ((o.epoch+1:Nat):Int)] 119 true):=by
        rw[hat4 b hB.pin,St.at_put,if_pos rfl]
       have hsl4:SlU 36 3 s4 sv (valsC o.L) o.L.length:=g5.same fun q n c e=>by
        have:=g6 q n c e
        rw[hat4 _ this.1,St.at_put,if_neg this.2.1,St.at_put,if_neg this.2.1]
       have hok4:HOk (putO { H with F:=moveF H.F H.most (o.shape:Int) qn } i { o with proto:=qn,epoch:=o.epoch+1 }):=h4.ok
       have hUall:=hU3.trans hU4'
       have hobj4:({ putO H i { o with proto:=qn,epoch:=o.epoch+1 } with F:=moveF H.F H.most (o.shape:Int) qn }:Hp).obs[j]?=some { o with proto:=qn,epoch:=o.epoch+1 }:=putO_at (o:=o) hij hj
       have hlt4:j<({ putO H i { o with proto:=qn,epoch:=o.epoch+1 } with F:=moveF H.F H.most (o.shape:Int) qn }:Hp).obs.length:=by simp only[putO,List.length_set];exact hj
       by_cases hpos:(0:Int)<((moveN H.F H.most (o.shape:Int) qn:Nat):Int)
       ·simp -implicitDefEqProofs only[↓Zd,(Zp),simprocAttr,qP,Value.cells,qC,(HEx),hpos,hps4]
        have hB5:ObAt lo (s4.put ps (.cells [.int .i64 ((moveN H.F H.most (o.shape:Int) qn:Nat):Int),sv] 92 true)) (N+1) b { o with proto:=qn,epoch:=o.epoch+1,shape:=moveN H.F H.most (o.shape:Int) qn } (fun c=>reO O3 tg3 1 O4 c∧reT tg3 1 O4 c=j+3):=by
         refine⟨fun c hc=>h4.own c hc.1,hin4 b hB.pin,by show o.epoch+1≤_;omega,.inr ⟨by show 0<moveN H.F H.most (o.shape:Int) qn;omega,ps,sv,?_,by rw[St.at_put,if_pos rfl],hin4 ps g3,g4,hsl4.same fun q n c e=>?_,fun q n c e=>?_⟩⟩
         ·rw[St.at_put,if_neg (fun e:b=ps=>g4 e.symm)];exact hb4
         ·rw[St.at_put,if_neg (g6 q n c e).2.2]
         ·exact⟨hin4 _ (g6 q n c e).1,(g6 q n c e).2⟩
        have h5:=h4.setO hij hlt4 hb (upd_put (hin4 ps g3)) hB5 (by rw[putO_putF];exact hok)
        rw[putO_putF]at h5
        exact hR _ _ ⟨hpr,_,_,_,_,_,h5.mono (by omega)⟩ (hUall.trans (re_upd (upd_put (hin4 ps g3))))
       ·have hz:moveN H.F H.most (o.shape:Int) qn=0:=by omega
        rw[hz]at hok hpr hR
        simp -implicitDefEqProofs only[↓Zd,(Zp),simprocAttr,(HEx),hpos,co66]
        refine hloosen_spec h4 (by omega) (by omega) (by omega) hb hobj4 fun s5 pd5 OD5 hb5 hD5 ho5 hne5 hn5 hk5=>?_
        simp -implicitDefEqProofs only[↓Zd,(Zp),simprocAttr,(HEx)]
        obtain⟨hB6,hU6⟩:=loose_end (hin4 b hB.pin) (h4.own b (hin4 b hB.pin).1) hb5 ho5 hne5 hn5 hk5 hD5 (Nat.le_refl _) (fun _ _ _=>rfl) (fun c hc => .inl hc) (by show o.epoch+1≤_;omega)
        have h6:=h4.setO hij hlt4 hb hU6 hB6 (by rw[putO_putF];exact hok)
        rw[putO_putF]at h6
        exact hR _ _ ⟨hpr,_,_,_,_,_,h6.mono (by omega)⟩ (hUall.trans (re_upd hU6))
end
end Go.Proofs.Tryz
namespace Go.Proofs.Tryz
open Go.Cs
open Go.RowKit (Below)
set_option maxRecDepth 100000
attribute [local irreducible] QC WLoop WScope CRound WRange
theorem rowPtr(a:Option Addr):crow Tryz.prog 72 1 #[(0,.pointer a)]=some (.cells [.pointer a] 111 true):=by kernel_rfl
theorem infoPtr:∃ ie,Tryz.prog.info? 111=some ie∧ie.size=1∧0<ie.bytes∧ie.bytes≤100:=by
 obtain⟨ie,h⟩:=Option.isSome_iff_exists.1 is111
 have h1:=ce111
 have h2:decide (0<Tryz.prog.bytesOf 111∧Tryz.prog.bytesOf 111≤100)=true:=by kernel_rfl
 rw[cellsOf_info h]at h1
 simp only[Program.bytesOf,h,decide_eq_true_eq]at h2
 exact⟨ie,h,h1,h2.1,h2.2⟩
section
variable {M:Type}[Mem M]{w0:World}{s:St M}{R:Value→St M→Prop}{lo p N:Nat}{H:Hp}{O:Nat→Prop}
theorem wch_app_ptr{s:St M}{sl:Value}{l:List Nat}{a:Nat}{K:Value→St M→Prop}(hlen:l.length≤1000000)(hsl:SlU 111 1 s sl (ptrs l) l.length)(hfr:∀ q m c,sl = .slice (some q) m c→q.block<s.next)
  (h:∀ s',s'.next=s.next+2→s'.at' (s.next+1)=some (.cells (ptrs (l ++ [a])) 111 true)→(∀ b,b<s.next→(∀ q n c,sl = .slice (some q) n c→b≠q.block)→s'.at' b=s.at' b)→K (.slice (some ⟨s.next+1,0,none⟩) (l.length+1) UNK) s') :
  wch (capp Tryz.prog #[72,72] #[sl,.slice (some ⟨s.next,0,none⟩) 1 1] (s.new (.cells [.pointer (some ⟨a,0,none⟩)] 111 true))) K:=by
 obtain⟨ie,hie,h1,h2,h3⟩:=infoPtr
 have hcapp:capp Tryz.prog #[72,72] #[sl,.slice (some ⟨s.next,0,none⟩) 1 1] (s.new (.cells [.pointer (some ⟨a,0,none⟩)] 111 true))=capp3 Tryz.prog 111 ie sl (s.new (.cells [.pointer (some ⟨a,0,none⟩)] 111 true)) (cmore ie.size (.slice (some ⟨s.next,0,none⟩) 1 1) (s.new (.cells [.pointer (some ⟨a,0,none⟩)] 111 true))):=
  app_eq underlying72 underlying72 hie
 have hv:cmore ie.size (.slice (some ⟨s.next,0,none⟩) 1 1) (s.new (.cells [.pointer (some ⟨a,0,none⟩)] 111 true))=some (1,[.pointer (some ⟨a,0,none⟩)]):=by
  simp only[more_at,St.at_new,if_true,more2,h1];rfl
 obtain⟨s',h3,h4,h5,h6⟩:=app_rowU (n:=l.length) (k:=1) hie ze111 (by rw[h1];rfl) h2 hcapp (by omega) (by
  have:(l.length+1)*ie.bytes≤1000001*100:=Nat.mul_le_mul (by omega) h3
  omega) rfl hv (by rw[h1];exact hsl.same fun q m c e=>by rw[St.at_new,if_neg (by have:=hfr q m c e;omega)])
 refine⟨_,s',h3,h s' (by simp at h4;omega) (by simpa [ptrs] using h5) fun b hb hq=>?_⟩
 rw[h6 b (by simp;omega) hq,St.at_new,if_neg (by omega)]
open Classical in
theorem HpIn.addO{s':St M}{tg:Nat→Nat}{pf pn b r:Nat}{sl sl':Value}{bs:List Nat}{o':Ob}{OO:Nat→Prop}(h:HpIn lo s p H N O tg pf pn sl bs)(hn:s.next≤s'.next)(hk:∀ c,O c→tg c≠0→s'.at' c=s.at' c)
  (hp:s'.at' p=some (.cells [sl',.pointer (some ⟨pf,0,none⟩),.pointer (some ⟨pn,0,none⟩),.int .i64 (H.maxO:Int),.int .i64 (H.maxP:Int)] 74 true))(hsl:SlU 111 1 s' sl' (ptrs (bs ++ [b])) (bs ++ [b]).length)(hr:∀ q n c,sl' = .slice (some q) n c→q.block=r)
  (hr1:¬ O r∧lo≤r∧r<s'.next)(hOO:∀ c,OO c→¬ O c∧c≠r)(hB:ObAt lo s' N b o' OO)(hok:HOk { H with obs:=H.obs ++ [o'] }) :
  HpIn lo s' p { H with obs:=H.obs ++ [o'] } N (fun c=>(O c∧tg c≠bs.length+3)∨OO c∨c=r) (fun c=>if OO c then bs.length+3 else if c=r then 0 else tg c) pf pn sl' (bs ++ [b]):=by
 have hrp:r≠p:=fun e=>hr1.1 (e▸h.pin.1)
 have hold:∀ k,k≠bs.length+3→k≠0→(fun c=>((O c∧tg c≠bs.length+3)∨OO c∨c=r)∧(if OO c then bs.length+3 else if c=r then 0 else tg c)=k)=fun c=>O c∧tg c=k:=by
  intro k hk1 hk2
  funext c
  apply propext
  by_cases h1:OO c
  ·simp only[h1,if_true,true_or,or_true,true_and]
   exact⟨fun e=>absurd e.symm hk1,fun e=>absurd e.1 (hOO c h1).1⟩
  ·by_cases h2:c=r
   ·subst h2
    simp only[h1,if_false,if_true,or_true,true_and]
    exact⟨fun e=>absurd e.symm hk2,fun e=>absurd e.1 hr1.1⟩
   ·simp only[h1,h2,if_false,or_false]
    exact⟨fun ⟨⟨a,_⟩,b⟩=>⟨a,b⟩,fun ⟨a,b⟩=>⟨⟨a,by omega⟩,b⟩⟩
 have hnew:(fun c=>((O c∧tg c≠bs.length+3)∨OO c∨c=r)∧(if OO c then bs.length+3 else if c=r then 0 else tg c)=bs.length+3)=OO:=by
  funext c
  apply propext
  by_cases h1:OO c
  ·simp[h1]
  ·by_cases h2:c=r
   ·subst h2
    simp[h1]
   ·simp only[h1,h2,if_false,or_false,iff_false]
    exact fun ⟨⟨_,a⟩,b⟩=>a b
 have hpO:¬ OO p:=fun hc=>(hOO p hc).1 h.pin.1
 refine⟨fun c hc=>?_,hok,h.tn,⟨.inl ⟨h.pin.1,by rw[h.pin.2];omega⟩,?_⟩,hp,hsl,fun q n c e=>?_,?_,?_,by simp[h.len],fun i b' o h1 h2=>?_⟩
 ·rcases hc with ⟨hc,_⟩|hc|rfl
  ·have:=h.own c hc;omega
  ·exact hB.own c hc
  ·exact hr1.2
 ·rw[if_neg hpO,if_neg (fun e=>hrp e.symm)];exact h.pin.2
 ·have:=hr q n c e
  rw[this]
  exact⟨.inr (.inr rfl),by rw[if_neg (fun hc=>(hOO r hc).2 rfl),if_pos rfl],hrp⟩
 ·rw[hold 1 (by omega) (by omega)]
  exact h.fo.same hn fun c hc=>hk c hc.1 (by rw[hc.2];omega)
 ·rw[hold 2 (by omega) (by omega)]
  exact h.ta.same hn fun c hc=>hk c hc.1 (by rw[hc.2];omega)
 ·by_cases hi:i<bs.length
  ·rw[List.getElem?_append_left hi]at h1
   rw[List.getElem?_append_left (by rw[← h.len];exact hi)]at h2
   rw[hold (i+3) (by omega) (by omega)]
   exact (h.obj i b' o h1 h2).same hn fun c hc=>hk c hc.1 (by rw[hc.2];omega)
  ·have h0:i=bs.length:=by
    have:=(List.getElem?_eq_some_iff.1 h1).1
    simp at this;omega
   subst h0
   rw[List.getElem?_append_right (Nat.le_refl _)]at h1
   rw[List.getElem?_append_right (by rw[← h.len];exact Nat.le_refl _),← h.len]at h2
   simp at h1 h2
   subst h1 h2
   rw[hnew];exact hB
set_option maxHeartbeats 8000000 in
theorem hmake_spec(h:HpAt lo s p H N O)(hlo:lo≤s.next)(hR:∀ s' O',HpAt lo s' p (makeH H) N O'→Upd s s' O O'→R (makeV H) s'):QC Tryz.prog w0 17 #[.pointer (some ⟨p,0,none⟩)] s R:=by
 refine wfun2 hmix ok17 func17 rfl ntmps17 results17 (by simp) ?_
 obtain⟨hpro,tg,pf,pn,sl,bs,h⟩:=h
 have hhb:=h.bl
 have hlim:=h.ok.lim
 have hlen:=h.len
 obtain⟨an,cn,rfl⟩:∃ a c,sl = .slice a bs.length c:=by
  rcases h.row with ⟨e1,_,rfl⟩|⟨b2,junk,rfl,_⟩
  ·exact⟨none,0,by rw[e1]⟩
  ·exact⟨_,_,rfl⟩
 simp -implicitDefEqProofs only[↓Zd,(Zp),simprocAttr,co48]
 refine hdead_spec h ?_
 by_cases hmx:(H.maxO:Int)≤(bs.length:Int)
 ·have e1:makeH H=H:=by unfold makeH;rw[if_pos (by omega)]
  have e2:makeV H = .tuple #[.int .i64 0,.int .i64 40]:=by unfold makeV;rw[if_pos (by omega)]
  rw[e1,e2]at hR
  simp -implicitDefEqProofs only[↓Zd,(Zp),simprocAttr,cld2,(HEx),hhb,hmx,ord17]
  exact hR _ _ ⟨hpro,tg,pf,pn,_,bs,h⟩ .refl
 ·have e1:makeH H={ H with obs:=H.obs ++ [{ L:=[],shape:=growN H.F H.most (0,[]),proto:=0,epoch:=0 }],F:=growF H.F H.most (0,[]) }:=by unfold makeH;rw[if_neg (by omega)]
  have e2:makeV H = .tuple #[.int .i64 ((bs.length+1:Nat):Int),.int .i64 0]:=by unfold makeV;rw[if_neg (by omega),hlen]
  have hok:=make_ok h.ok
  have hpr:=make_pro hpro
  rw[e1]at hok hpr
  rw[e1,e2]at hR
  have hbl:∀ (m:Nat),cbuild Tryz.prog 115 #[(0,.pointer (some ⟨m,0,none⟩))]=some (.agg #[.pointer (some ⟨m,0,none⟩)]):=fun m=>by kernel_rfl
  have hmk:∀ v,cmkI Tryz.prog 115 v=some (.iface 115 v):=fun v=>mkI_s underlying115
  have hmp:∀ v,cmkI Tryz.prog 88 v=some (.iface 88 v):=fun v=>mkI_p underlying88
  have hbo:∀ (v:Value),cbuild Tryz.prog 119 #[(0,.iface 115 (.agg #[v]))]=some (.agg #[.iface 115 (.agg #[v]),.int .i64 0,.int .i64 0]):=fun v=>by kernel_rfl
  have hbs:∀ (n:Int),cbuild Tryz.prog 92 #[(0,.int .i64 n)]=some (.agg #[.int .i64 n,.slice none 0 0]):=fun v=>by kernel_rfl
  simp -implicitDefEqProofs only[↓Zd,(Zp),simprocAttr,cld2,(HEx),hhb,hmx,ord17,co49]
  refine dnew_spec fun s1 pd hD1 hs1=>?_
  have hn1:=hs1.1
  have hhb1:=(h.le hs1).bl
  have hpn:=(h.own p h.pin.1).2
  have hps1:¬ p=s1.next:=by omega
  simp -implicitDefEqProofs only[↓Zd,(Zp),simprocAttr,qP,Value.cells,cld2,(HEx),hhb1,hps1,hbl,hmk,hbo,co50]
  have l2:s.le (s1.new (.cells [.iface 115 (.agg #[.pointer (some ⟨pd,0,none⟩)]),.int .i64 0,.int .i64 0] 119 true)):=lN hs1
  have h2:=h.le l2
  refine froot_spec (q:=0) h2.fo (by simp only[St.next_new];omega) fun s3 O3 hF3 hU3=>?_
  have hn3:=hU3.next
  simp only[St.next_new]at hn3
  have hokF:HOk { H with F:=growF H.F H.most (0,[]) }:=h.ok.more (F':=growF H.F H.most (0,[])) (T':=H.T) (fun j t ht=>growF_get ht) (fun _ _ _=>rfl) (Nat.le_refl _) h.ok.nodup (fun j t ht y hy=>by
   rcases growF_mem ht with h1|rfl
   ·exact h.ok.ids j t h1 y hy
   ·cases hy)
  have h3:=h2.newF hU3 hF3 hokF
  have hU3':=re_upd hU3
  have hhb3:=h3.bl
  generalize hO4:reO O tg 1 O3=O4 at h3 hU3'
  generalize hT4:reT tg 1 O3=tg4 at h3
  have hUall:Upd s s3 O O4:=(Upd.of_le l2).trans hU3'
  have hfresh:∀ c,s.next≤c→c<s1.next+1→¬ O4 c:=fun c h1 h2' hc=>by
   rcases hU3'.own c hc with g|g
   ·have:=(h.own c g).2
    omega
   ·simp only[St.next_new]at g;omega
  have hke:∀ c,s.next≤c→c<s1.next+1→s3.at' c=(s1.new (.cells [.iface 115 (.agg #[.pointer (some ⟨pd,0,none⟩)]),.int .i64 0,.int .i64 0] 119 true)).at' c:=fun c h1 h2'=>by
   refine hU3'.keep c (by simp only[St.next_new];omega) (fun hc=>?_)
   have:=(h.own c hc).2;omega
  have hob3:s3.at' s1.next=some (.cells [.iface 115 (.agg #[.pointer (some ⟨pd,0,none⟩)]),.int .i64 0,.int .i64 0] 119 true):=by rw[hke _ (by omega) (by omega),St.at_new,if_pos rfl]
  have hpO4:=h3.pin.1
  have hsl3:=h3.row
  have hfr3:∀ q m c,Value.slice an bs.length cn = .slice (some q) m c→q.block<s3.next:=fun q m c e=>(h3.own _ (h3.rowO q m c e).1).2
  have hpn3:=(h3.own p hpO4).2
  by_cases hpos:(0:Int)<((growN H.F H.most (0,[]):Nat):Int)
  ·have hob3n:¬ s1.next=s3.next:=by omega
   have hpne1:¬ p=s1.next:=by omega
   have hpne3:¬ p=s3.next:=by omega
   simp -implicitDefEqProofs only[↓Zd,(Zp),simprocAttr,qP,Value.cells,qC,cld2,(HEx),hpos,hob3,hob3n,hpne1,hpne3,hhb3,hbs,hmp,rowPtr]
   have hle4:∀ c,O4 c→((s3.new (.cells [.int .i64 ((growN H.F H.most (0,[]):Nat):Int),.slice none 0 0] 92 true)).put s1.next (.cells [.iface 88 (.pointer (some ⟨s3.next,0,none⟩)),.int .i64 0,.int .i64 0] 119 true)).at' c=s3.at' c:=fun c hc=>by
    have:=(h3.own c hc).2
    have:c≠s1.next:=fun e=>hfresh s1.next (by omega) (by omega) (e▸hc)
    rw[St.at_put,if_neg this,St.at_new,if_neg (by omega)]
   refine wch_app_ptr (l:=bs) (a:=s1.next) (by omega) (hsl3.same fun q n c e=>hle4 _ (h3.rowO q n c e).1) (fun q m c e=>by have:=hfr3 q m c e;simp only[(Sn)];omega) fun s5 hn5 hb5 hk5=>?_
   simp only[(Sn)]at hn5 hb5 hk5
   have hp5:s5.at' p=some (.cells [.slice an bs.length cn,.pointer (some ⟨pf,0,none⟩),.pointer (some ⟨pn,0,none⟩),.int .i64 (H.maxO:Int),.int .i64 (H.maxP:Int)] 74 true):=by
    rw[hk5 p (by omega) (fun q m c e e2=>(h3.rowO q m c e).2.2 e2.symm),hle4 p hpO4];exact hhb3
   simp -implicitDefEqProofs only[↓Zd,(Zp),simprocAttr,qP,Value.cells,qC,cld2,(HEx),hp5]
   have hk6:∀ c,c<s3.next+1→c≠s1.next→c≠p→(∀ q m k,Value.slice an bs.length cn = .slice (some q) m k→c≠q.block)→c≠s3.next→(s5.put p (.cells [.slice (some ⟨s3.next+1+1,0,none⟩) (bs.length+1) UNK,.pointer (some ⟨pf,0,none⟩),.pointer (some ⟨pn,0,none⟩),.int .i64 (H.maxO:Int),.int .i64 (H.maxP:Int)] 74 true)).at' c=s3.at' c:=fun c h1 h2 h3' h4 h5=>by
    rw[St.at_put,if_neg h3',hk5 c h1 h4,St.at_put,if_neg h2,St.at_new,if_neg h5]
   have hB:ObAt lo (s5.put p (.cells [.slice (some ⟨s3.next+1+1,0,none⟩) (bs.length+1) UNK,.pointer (some ⟨pf,0,none⟩),.pointer (some ⟨pn,0,none⟩),.int .i64 (H.maxO:Int),.int .i64 (H.maxP:Int)] 74 true)) N s1.next { L:=[],shape:=growN H.F H.most (0,[]),proto:=0,epoch:=0 } (fun c=>c=s1.next∨c=s3.next):=by
    refine⟨?_,.inl rfl,Nat.zero_le _,.inr ⟨by show 0<growN H.F H.most (0,[]);omega,s3.next,.slice none 0 0,?_,?_,.inr rfl,by omega,.inl ⟨rfl,rfl,rfl⟩,fun q n c e=>by cases e⟩⟩
    ·rintro c (rfl|rfl)<;>simp only[St.next_put]<;>omega
    ·rw[St.at_put,if_neg (fun e=>hpne1 e.symm),hk5 _ (by omega) (fun q m c e e2=>hfresh s1.next (by omega) (by omega) (by rw[e2];exact (h3.rowO q m c e).1)),St.at_put,if_pos rfl];rfl
    ·rw[St.at_put,if_neg (fun e=>hpne3 e.symm),hk5 _ (by omega) (fun q m c e e2=>by have:=hfr3 q m c e;omega),St.at_put,if_neg (fun e=>hob3n e.symm),St.at_new,if_pos rfl]
   have h6:=h3.addO (r:=s3.next+1+1) (b:=s1.next) (by simp only[St.next_put];omega) (fun c hc hct=>hk6 c (by have:=(h3.own c hc).2;omega) (fun e=>hfresh s1.next (by omega) (by omega) (e▸hc)) (fun e=>hct (by rw[e];exact h3.pin.2)) (fun q m k e e2=>hct (by rw[e2];exact (h3.rowO q m k e).2.1)) (by have:=(h3.own c hc).2;omega)) (by rw[St.at_put,if_pos rfl]) (.inr ⟨s3.next+1+1,[],by simp,by rw[St.at_put,if_neg (by omega),List.append_nil];exact hb5,by rw[ptrs_len,Nat.mul_one]⟩) (fun q n c e=>by cases e;rfl) ⟨fun hc=>by have:=(h3.own _ hc).2;omega,by omega,by simp only[St.next_put];omega⟩ (fun c hc=>by
    rcases hc with rfl|rfl
    ·exact⟨hfresh _ (by omega) (by omega),by omega⟩
    ·exact⟨fun hc=>by have:=(h3.own _ hc).2;omega,by omega⟩) hB hok
   refine hR _ _ ⟨hpr,_,_,_,_,_,h6⟩ ⟨by simp only[St.next_put];omega,fun c hc hno=>?_,fun c hc=>?_⟩
   ·have hno4:¬ O4 c:=fun h4=>by
     rcases hUall.own c h4 with g|g
     ·exact hno g
     ·omega
    have g:=hk6 c (by omega) (by omega) (fun e=>hno4 (e▸hpO4)) (fun q m k e e2=>hno4 (by rw[e2];exact (h3.rowO q m k e).1)) (by omega)
    exact g.trans (hUall.keep c hc hno)
   ·rcases hc with ⟨hc,_⟩|(rfl|rfl)|rfl
    ·exact hUall.own c hc
    ·exact .inr (by omega)
    ·exact .inr (by omega)
    ·exact .inr (by omega)
  ·have hz:growN H.F H.most (0,[])=0:=by omega
   rw[hz]at hok hpr hR
   simp -implicitDefEqProofs only[↓Zd,(Zp),simprocAttr,cld2,(HEx),hpos,hhb3,rowPtr]
   refine wch_app_ptr (l:=bs) (a:=s1.next) (by omega) hsl3 hfr3 fun s5 hn5 hb5 hk5=>?_
   have hp5:s5.at' p=some (.cells [.slice an bs.length cn,.pointer (some ⟨pf,0,none⟩),.pointer (some ⟨pn,0,none⟩),.int .i64 (H.maxO:Int),.int .i64 (H.maxP:Int)] 74 true):=by
    rw[hk5 p (by omega) (fun q m c e e2=>(h3.rowO q m c e).2.2 e2.symm)];exact hhb3
   simp -implicitDefEqProofs only[↓Zd,(Zp),simprocAttr,qP,Value.cells,qC,cld2,(HEx),hp5]
   have hk6:∀ c,c<s3.next→c≠p→(∀ q m k,Value.slice an bs.length cn = .slice (some q) m k→c≠q.block)→(s5.put p (.cells [.slice (some ⟨s3.next+1,0,none⟩) (bs.length+1) UNK,.pointer (some ⟨pf,0,none⟩),.pointer (some ⟨pn,0,none⟩),.int .i64 (H.maxO:Int),.int .i64 (H.maxP:Int)] 74 true)).at' c=s3.at' c:=fun c h1 h3' h4=>by
    rw[St.at_put,if_neg h3',hk5 c h1 h4]
   have hfr6:∀ c,s.next≤c→c<s1.next+1→(s5.put p (.cells [.slice (some ⟨s3.next+1,0,none⟩) (bs.length+1) UNK,.pointer (some ⟨pf,0,none⟩),.pointer (some ⟨pn,0,none⟩),.int .i64 (H.maxO:Int),.int .i64 (H.maxP:Int)] 74 true)).at' c=s3.at' c:=fun c h1 h2=>hk6 c (by omega) (by omega) (fun q m k e e2=>hfresh c h1 h2 (by rw[e2];exact (h3.rowO q m k e).1))
   have hD6:DictAt lo (s5.put p (.cells [.slice (some ⟨s3.next+1,0,none⟩) (bs.length+1) UNK,.pointer (some ⟨pf,0,none⟩),.pointer (some ⟨pn,0,none⟩),.int .i64 (H.maxO:Int),.int .i64 (H.maxP:Int)] 74 true)) pd [] 0 (fun b=>s.next≤b∧b<s1.next):=(hD1.low hlo).same (by simp only[St.next_put];omega) fun c hc=>by
    rw[hfr6 c hc.1 (by omega),hke c hc.1 (by omega),St.at_new,if_neg (by omega)]
   have hB:=ObAt.loose (lo:=lo) (b:=s1.next) (o:={ L:=[],shape:=0,proto:=0,epoch:=0 }) (by rw[hfr6 _ (by omega) (by omega)];exact hob3) rfl hD6 (fun c hc=>by omega) ⟨by omega,by simp only[St.next_put];omega⟩ (Nat.le_refl _)
   have h6:=h3.addO (r:=s3.next+1) (b:=s1.next) (by simp only[St.next_put];omega) (fun c hc hct=>hk6 c (h3.own c hc).2 (fun e=>hct (by rw[e];exact h3.pin.2)) (fun q m k e e2=>hct (by rw[e2];exact (h3.rowO q m k e).2.1))) (by rw[St.at_put,if_pos rfl]) (.inr ⟨s3.next+1,[],by simp,by rw[St.at_put,if_neg (by omega),List.append_nil];exact hb5,by rw[ptrs_len,Nat.mul_one]⟩) (fun q n c e=>by cases e;rfl) ⟨fun hc=>by have:=(h3.own _ hc).2;omega,by omega,by simp only[St.next_put];omega⟩ (fun c hc=>by
    rcases hc with rfl|hc
    ·exact⟨hfresh _ (by omega) (by omega),by omega⟩
    ·exact⟨hfresh _ hc.1 (by omega),by omega⟩) (hB.mono (Nat.zero_le _)) hok
   refine hR _ _ ⟨hpr,_,_,_,_,_,h6⟩ ⟨by simp only[St.next_put];omega,fun c hc hno=>?_,fun c hc=>?_⟩
   ·have hno4:¬ O4 c:=fun h4=>by
     rcases hUall.own c h4 with g|g
     ·exact hno g
     ·omega
    have g:=hk6 c (by omega) (fun e=>hno4 (e▸hpO4)) (fun q m k e e2=>hno4 (by rw[e2];exact (h3.rowO q m k e).1))
    exact g.trans (hUall.keep c hc hno)
   ·rcases hc with ⟨hc,_⟩|(rfl|hc)|rfl
    ·exact hUall.own c hc
    ·exact .inr (by omega)
    ·exact .inr hc.1
    ·exact .inr (by omega)
end
end Go.Proofs.Tryz
namespace Go.Proofs.Tryz
open Go.Cs
open Go.RowKit (Below)
set_option maxRecDepth 100000
attribute [local irreducible] QC WLoop WScope CRound WRange
section
variable {M:Type}[Mem M]{w0:World}{s:St M}{R:Value→St M→Prop}{lo p N:Nat}{H:Hp}{O:Nat→Prop}
set_option maxHeartbeats 8000000 in
theorem hgrow_spec(h:HpAt lo s p H N O)(hlo:lo≤s.next){i to:Int}{y:ByteArray}{k n:Int}(hN:N+3≤1000000)(hi : -9223372036854775808≤i∧i≤9223372036854775807)(hto : -9223372036854775808≤to∧to≤9223372036854775807)
  (hR:∀ s' O',HpAt lo s' p (growH H i to (k,n,y)) (N+3) O'→Upd s s' O O'→R (.int .i64 (growE H i to)) s'):QC Tryz.prog w0 60 #[.pointer (some ⟨p,0,none⟩),.int .i64 i,.int .i64 to,vA k n y] s R:=by
 refine wfun2 hmix ok60 func60 rfl ntmps60 results60 (by simp) ?_
 have hok:=grow_ok h.ok h.fok i to (k,n,y)
 have hpr:=grow_pro h.ok h.fok h.1 i to (k,n,y)
 obtain⟨hpro,tg,pf,pn,sl,bs,h⟩:=h
 have l1:s.le (s.new (.cells [.int .i64 k,.int .i64 n,.string y] 36 true)):=lN (lR _)
 have hbad:∀ e:Int,e≠0→growE H i to=e→R (.int .i64 e) (s.new (.cells [.int .i64 k,.int .i64 n,.string y] 36 true)):=fun e e0 he=>by
  have e1:growH H i to (k,n,y)=H:=by
   unfold growH
   split
   ·rfl
   ·rw[if_neg (by omega)]
  rw[e1,he]at hR
  exact hR _ _ ⟨hpro,tg,pf,pn,sl,bs,(h.le l1).mono (by omega)⟩ (.of_le l1)
 have h1':=h.le l1
 have hhb1:=h1'.bl
 have hhb:=h.bl
 have hpn:=(h.own p h.pin.1).2
 have hpne:¬ p=s.next:=by omega
 simp -implicitDefEqProofs only[↓Zd,(Zp),simprocAttr,qP,Value.cells,(HEx),vA,co48]
 refine hdead_spec h1' ?_
 simp -implicitDefEqProofs only[↓Zd,(Zp),simprocAttr,(HEx),vA,co58]
 refine hfind_spec h1' hi (fun hno=>?_) (fun j b o hij hb ho hat=>?_)
 ·simp -implicitDefEqProofs only[↓Zd,(Zp),simprocAttr,(HEx),vA]
  exact hbad 4 (by omega) (by unfold growE;rw[hno])
 ·have hj:=(List.getElem?_eq_some_iff.1 ho).1
  have hml:o.L.length≤32:=by have:=h.ok.lens j o ho;have:=h.ok.lim;omega
  have hB:=h.obj j b o hb ho
  have hbn:=(hB.own b hB.pin).2
  have hne:¬ b=s.next:=by omega
  have hep:=hB.ep
  have w1:IntKind.i64.wrap ((o.epoch:Int)+1)=((o.epoch+1:Nat):Int):=by rw[wrap_i64 (by omega)];omega
  rcases hB.bl with ⟨h0,pd,OD,g1,g2,g3⟩|⟨h0,ps,sv,g1,g2,g3,g4,g5,g6⟩
  ·simp -implicitDefEqProofs only[↓Zd,(Zp),simprocAttr,cld2,(HEx),vA,g1,hne,ord60]
   exact hbad 2 (by omega) (by unfold growE;rw[hat];simp only[if_pos h0])
  ·have hpsn:=(hB.own ps g3).2
   have hpse:¬ ps=s.next:=by omega
   have hs0:¬ o.shape=0:=by omega
   simp -implicitDefEqProofs only[↓Zd,(Zp),simprocAttr,cld2,(HEx),vA,g1,g2,hhb,hne,hpne,hpse,ord60,co111]
   refine fparent_spec h1'.fo hto ?_
   cases ht:shAt H.F to with
   |none =>
    have hz:¬ (0:Int)=(o.shape:Int):=by omega
    simp -implicitDefEqProofs only[↓Zd,(Zp),simprocAttr,cld2,(HEx),g2,hpse,hz]
    exact hbad 2 (by omega) (by unfold growE;rw[hat];simp only[if_neg hs0,ht];rw[if_pos (by omega)])
   |some t =>
    by_cases hpar:parId H.F t=o.shape
    ·obtain⟨q,x,l,rfl,f1,f2,f3,f4,f5⟩:=grow_fits (n:=0) h.ok h.fo.ok ho h0 ht hpar
     have hpi:((parId H.F (q,x::l):Nat):Int)=(o.shape:Int):=by omega
     have hnm:namesOf H.F to=x::l:=by unfold namesOf;rw[ht]
     obtain⟨an,cn,rfl⟩:∃ a c,sv = .slice a o.L.length c:=by
      rcases g5 with ⟨e1,_,rfl⟩|⟨b2,junk,rfl,_⟩
      ·exact⟨none,0,by rw[e1]⟩
      ·exact⟨_,_,rfl⟩
     simp only[hpi]
     by_cases hmx:(H.maxP:Int)≤(o.L.length:Int)
     ·simp -implicitDefEqProofs only[↓Zd,(Zp),simprocAttr,cld2,(HEx),g2,hhb,hpne,hpse,hmx]
      exact hbad 42 (by omega) (by unfold growE;rw[hat];simp only[if_neg hs0,ht];rw[if_neg (by omega),if_pos (by omega)])
     ·have he:growE H i to=0:=by unfold growE;rw[hat];simp only[if_neg hs0,ht];rw[if_neg (by omega),if_neg (by omega)]
      have e1:growH H i to (k,n,y)=putO H i { L:=o.L ++ [(txt H.T x,k,n,y)],shape:=to.toNat,proto:=o.proto,epoch:=o.epoch+1 }:=by unfold growH;rw[hat];simp only[if_pos he,hnm];rfl
      rw[e1]at hok hpr hR
      rw[he]at hR
      have htn:to=((to.toNat:Nat):Int):=by omega
      have hsl1:SlU 36 3 (s.new (.cells [.int .i64 k,.int .i64 n,.string y] 36 true)) (.slice an o.L.length cn) (valsC o.L) o.L.length:=g5.same fun q n c e=>by
       have:=(hB.own _ (g6 q n c e).1).2
       rw[St.at_new,if_neg (by omega)]
      simp -implicitDefEqProofs only[↓Zd,(Zp),simprocAttr,cut,cld2,(HEx),g2,hhb,hpne,hpse,hmx,rowVal]
      refine wch_app_val (by omega) hsl1 (fun q n c e=>by have:=(hB.own _ (g6 q n c e).1).2;simp only[St.next_new];omega) fun s5 hn5 hb5 hk5=>?_
      simp only[St.next_new]at hn5 hb5 hk5
      have hps5:s5.at' ps=some (.cells [.int .i64 (o.shape:Int),.slice an o.L.length cn] 92 true):=by
       rw[hk5 ps (by omega) (fun q n c e e2=>(g6 q n c e).2.2 e2.symm),St.at_new,if_neg hpse];exact g2
      have hb5':s5.at' b=some (.cells [.iface 88 (.pointer (some ⟨ps,0,none⟩)),.int .i64 (o.proto:Int),.int .i64 (o.epoch:Int)] 119 true):=by
       rw[hk5 b (by omega) (fun q n c e e2=>(g6 q n c e).2.1 e2.symm),St.at_new,if_neg hne];exact g1
      have c75:s5.at' s.next=some (.cells [.int .i64 k,.int .i64 n,.string y] 36 true):=by
       rw[hk5 _ (by omega) (fun q m c e e2=>by have:=(hB.own _ (g6 q m c e).1).2;omega),St.at_new,if_pos rfl]
      have hbps:¬ b=ps:=fun e=>g4 e.symm
      simp -implicitDefEqProofs only[↓Zd,(Zp),simprocAttr,qP,Value.cells,qC,cld2,(HEx),hps5,hb5',hbps,w1]
      rw[htn]
      have hB6:ObAt lo (((s5.put ps (.cells [.int .i64 ((to.toNat:Nat):Int),.slice an o.L.length cn] 92 true)).put ps (.cells [.int .i64 ((to.toNat:Nat):Int),.slice (some ⟨s.next+2,0,none⟩) (o.L.length+1) UNK] 92 true)).put b (.cells [.iface 88 (.pointer (some ⟨ps,0,none⟩)),.int .i64 (o.proto:Int),.int .i64 ((o.epoch+1:Nat):Int)] 119 true)) (N+1) b { L:=o.L ++ [(txt H.T x,k,n,y)],shape:=to.toNat,proto:=o.proto,epoch:=o.epoch+1 } (fun c=>(O c∧tg c=j+3)∨c=s.next+2):=by
       refine⟨fun c hc=>?_,.inl hB.pin,by show o.epoch+1≤_;omega,.inr ⟨by show 0<to.toNat;omega,ps,_,by rw[St.at_put,if_pos rfl],by rw[St.at_put,if_neg g4,St.at_put,if_pos rfl],.inl g3,g4,.inr ⟨s.next+2,[],by simp,?_,valsC_len _⟩,fun q m c e=>?_⟩⟩
       ·rcases hc with hc|rfl
        ·have:=hB.own c hc
         simp only[St.next_put];omega
        ·simp only[St.next_put];omega
       ·rw[St.at_put,if_neg (by omega),St.at_put,if_neg (by omega),St.at_put,if_neg (by omega),hb5,valsC_app,List.append_nil];rfl
       ·cases e
        exact⟨.inr rfl,by show s.next+2≠b;omega,by show s.next+2≠ps;omega⟩
      have hU6:Upd (s.new (.cells [.int .i64 k,.int .i64 n,.string y] 36 true)) (((s5.put ps (.cells [.int .i64 ((to.toNat:Nat):Int),.slice an o.L.length cn] 92 true)).put ps (.cells [.int .i64 ((to.toNat:Nat):Int),.slice (some ⟨s.next+2,0,none⟩) (o.L.length+1) UNK] 92 true)).put b (.cells [.iface 88 (.pointer (some ⟨ps,0,none⟩)),.int .i64 (o.proto:Int),.int .i64 ((o.epoch+1:Nat):Int)] 119 true)) (fun c=>O c∧tg c=j+3) (fun c=>(O c∧tg c=j+3)∨c=s.next+2):=by
       refine⟨by simp only[(Sn)];omega,fun c hc hno=>?_,fun c hc=>?_⟩
       ·have hcp:¬ c=ps:=fun e=>hno (e▸g3)
        have hcb:¬ c=b:=fun e=>hno (e▸hB.pin)
        simp only[St.next_new]at hc
        rw[St.at_put,if_neg hcb,St.at_put,if_neg hcp,St.at_put,if_neg hcp,hk5 c hc (fun q m k e e2=>hno (by rw[e2];exact (g6 q m k e).1))]
       ·rcases hc with hc|rfl
        ·exact .inl hc
        ·exact .inr (by simp only[St.next_new];omega)
      have h6:=(h1'.mono (N':=N+1) (by omega)).setO hij hj hb hU6 hB6 hok
      exact hR _ _ ⟨hpr,_,_,_,_,_,h6.mono (by omega)⟩ ((Upd.of_le l1).trans (re_upd hU6))
    ·have hz:¬ ((parId H.F t:Nat):Int)=(o.shape:Int):=by omega
     simp -implicitDefEqProofs only[↓Zd,(Zp),simprocAttr,cld2,(HEx),g2,hpse,hz]
     exact hbad 2 (by omega) (by unfold growE;rw[hat];simp only[if_neg hs0,ht];rw[if_pos hpar])
theorem FAt.low{lo lo':Nat}{s:St M}{p:Nat}{F:List Sh}{most:Nat}{O:Nat→Prop}(h:FAt lo s p F most O)(hl:lo'≤lo):FAt lo' s p F most O:=
 ⟨fun b hb=>⟨by have:=(h.own b hb).1;omega,(h.own b hb).2⟩,h.pin,h.ok,h.le,h.bl⟩
theorem TabAt.low{lo lo':Nat}{s:St M}{p:Nat}{T:List ByteArray}{O:Nat→Prop}(h:TabAt lo s p T O)(hl:lo'≤lo):TabAt lo' s p T O:=
 ⟨fun b hb=>⟨by have:=(h.own b hb).1;omega,(h.own b hb).2⟩,h.pin,h.bl⟩
theorem tnew_spec(h:∀ s' p,TabAt s.next s' p [] (fun b=>s.next≤b∧b<s'.next)→s.le s'→R (.pointer (some ⟨p,0,none⟩)) s'):QC Tryz.prog w0 30 #[] s R:=by
 refine wfun2 hmix ok30 func30 rfl ntmps30 results30 (by simp) ?_
 have newTab:∀ (m:Nat),cbuild Tryz.prog 174 #[(0,.map (some m))]=some (.agg #[.map (some m),.slice none 0 0]):=fun m=>by kernel_rfl
 simp -implicitDefEqProofs only[↓Zd,(Zp),simprocAttr,qP,Value.cells,is174,newTab]
 refine h _ _ ⟨fun b hb=>hb,by simp,s.next,.slice none 0 0,by simp,by simp;rfl,⟨by omega,by simp only[St.next_new];omega⟩,by simp,.inl ⟨rfl,rfl,rfl⟩,fun q n c e=>by cases e⟩ (by repeat (first|exact lR _|assumption|refine lN ?_|refine lP ?_ (by first|omega|(simp only[(Sn)];omega))|refine lT ?_ (by assumption)))
theorem between_spec{a b:Int}(h:R (.int .i64 (max 0 (min a b))) s):QC Tryz.prog w0 31 #[.int .i64 a,.int .i64 b] s R:=by
 refine wfun2 hmix ok31 func31 rfl ntmps31 results31 (by simp) ?_
 have hmx:(if (if b<a then b else a)>0 then (if b<a then b else a) else 0)=max 0 (min a b):=by omega
 simp -implicitDefEqProofs only[↓Zd,(Zp),simprocAttr,o_min,o_max,bi_min,bi_max,hmx]
 exact h
def newH(objects props shapes:Int):Hp:={ obs:=[],F:=[],T:=[],most:=(max 0 (min shapes 150)).toNat,maxO:=(max 0 (min objects 200)).toNat,maxP:=(max 0 (min props 32)).toNat }
theorem newH_ok(a b c:Int):HOk (newH a b c):=
 ⟨List.nodup_nil,fun i t h=>by simp[newH]at h,fun i o h=>by simp[newH]at h,fun i o h=>by simp[newH]at h,fun i o h=>by simp[newH]at h,⟨fun _=>0,fun i o h=>by simp[newH]at h⟩,⟨by simp[newH];omega,by simp[newH],by simp[newH];omega⟩⟩
theorem newH_pro(a b c:Int):HPro (newH a b c):=fun i o h=>by simp[newH]at h
set_option maxHeartbeats 8000000 in
theorem hnew_spec{a b c d n:Int}(h:∀ s' p,HpAt s.next s' p (newH a c n) 0 (fun b=>s.next≤b∧b<s'.next)→s.le s'→R (.pointer (some ⟨p,0,none⟩)) s'):QC Tryz.prog w0 6 #[.agg #[.int .i64 a,.int .i64 b,.int .i64 c,.int .i64 d],.int .i64 n] s R:=by
 refine wfun2 hmix ok6 func6 rfl ntmps6 results6 (by simp) ?_
 simp -implicitDefEqProofs only[↓Zd,(Zp),simprocAttr,qP,Value.cells,cld2,(HEx),is26,fa26x0,fa26x2,ord6,co29]
 refine fnew_spec fun s1 pf hF1 hs1=>?_
 have hn1:=hs1.1
 simp only[St.next_new]at hn1
 have hbx1:s1.at' s.next=some (.cells [.int .i64 a,.int .i64 b,.int .i64 c,.int .i64 d] 26 true):=by rw[hs1.2 _ (by simp only[St.next_new];omega),St.at_new,if_pos rfl]
 simp -implicitDefEqProofs only[↓Zd,(Zp),simprocAttr,cld2,(HEx),hbx1,co30]
 refine tnew_spec fun s2 pn hT2 hs2=>?_
 have hn2:=hs2.1
 have hbx2:s2.at' s.next=_:=(hs2.2 _ (by omega)).trans hbx1
 have hbH:∀ (u v:Value) (e f:Int),cbuild Tryz.prog 74 #[(1,.pointer (some ⟨pf,0,none⟩)),(2,.pointer (some ⟨pn,0,none⟩)),(3,.int .i64 e),(4,.int .i64 f)]=some (.agg #[.slice none 0 0,.pointer (some ⟨pf,0,none⟩),.pointer (some ⟨pn,0,none⟩),.int .i64 e,.int .i64 f]):=fun u v e f=>by kernel_rfl
 simp -implicitDefEqProofs only[↓Zd,(Zp),simprocAttr,cld2,(HEx),hbx2,co31]
 refine between_spec ?_
 simp -implicitDefEqProofs only[↓Zd,(Zp),simprocAttr,cld2,(HEx),hbx2,co31]
 refine between_spec ?_
 simp -implicitDefEqProofs only[↓Zd,(Zp),simprocAttr,qP,Value.cells,(HEx),hbH .nilFunc .nilFunc]
 have hl:s.le (s2.new (.cells [.slice none 0 0,.pointer (some ⟨pf,0,none⟩),.pointer (some ⟨pn,0,none⟩),.int .i64 (max 0 (min a 200)),.int .i64 (max 0 (min c 32))] 74 true)):=lN (lT (lT (lN (lR _)) hs1) hs2)
 refine h _ _ ⟨newH_pro a c n,(fun c=>if s1.next≤c∧c<s2.next then 2 else if s.next+1≤c∧c<s1.next then 1 else 0),pf,pn,.slice none 0 0,[],⟨fun b hb=>hb,newH_ok a c n,Nat.zero_le _,⟨⟨by omega,by simp only[St.next_new];omega⟩,by rw[if_neg (by omega),if_neg (by omega)]⟩,?_,.inl ⟨rfl,rfl,rfl⟩,(fun q n c e=>by cases e),?_,?_,rfl,fun i b o hb _=>by simp at hb⟩⟩ hl
 ·rw[St.at_new,if_pos rfl]
  have e1:((newH a c n).maxO:Int)=max 0 (min a 200):=by simp only[newH];omega
  have e2:((newH a c n).maxP:Int)=max 0 (min c 32):=by simp only[newH];omega
  rw[e1,e2]
 ·have e:(fun b=>(s.next≤b∧b<(s2.new (.cells [.slice none 0 0,.pointer (some ⟨pf,0,none⟩),.pointer (some ⟨pn,0,none⟩),.int .i64 (max 0 (min a 200)),.int .i64 (max 0 (min c 32))] 74 true)).next)∧(if s1.next≤b∧b<s2.next then 2 else if s.next+1≤b∧b<s1.next then 1 else 0)=1)=fun b=>s.next+1≤b∧b<s1.next:=by
   funext b
   apply propext
   simp only[St.next_new]
   split
   ·omega
   ·split<;>omega
  rw[e]
  simp only[St.next_new]at hF1
  refine (hF1.low (by omega)).same (by simp only[St.next_new];omega) fun c hc=>?_
  rw[St.at_new,if_neg (by omega),hs2.2 c (by omega)]
 ·have e:(fun b=>(s.next≤b∧b<(s2.new (.cells [.slice none 0 0,.pointer (some ⟨pf,0,none⟩),.pointer (some ⟨pn,0,none⟩),.int .i64 (max 0 (min a 200)),.int .i64 (max 0 (min c 32))] 74 true)).next)∧(if s1.next≤b∧b<s2.next then 2 else if s.next+1≤b∧b<s1.next then 1 else 0)=2)=fun b=>s1.next≤b∧b<s2.next:=by
   funext b
   apply propext
   simp only[St.next_new]
   split
   ·omega
   ·split<;>omega
  rw[e]
  refine (hT2.low (by omega)).same (by simp only[St.next_new];omega) fun c hc=>?_
  rw[St.at_new,if_neg (by omega)]
end
end Go.Proofs.Tryz
namespace Go.Proofs.Tryz
open Go.Cs
open Go.RowKit (Below)
set_option maxRecDepth 100000
attribute [local irreducible] QC WLoop WScope CRound WRange
def PSz(B:Nat)(p:ByteArray×V3):Prop:=p.1.size≤B∧p.2.2.2.size≤B ∧ -9223372036854775808≤p.2.2.1∧p.2.2.1≤9223372036854775807
def HSz(B:Nat)(H:Hp):Prop:=∀ (i:Nat) (o:Ob),H.obs[i]?=some o→∀ p∈o.L,PSz B p
def headB(k:Nat)(q:Nat):ByteArray:=(⟨#[35]⟩:ByteArray)++digS ((k+1:Nat):Int)++(⟨#[32,35]⟩:ByteArray)++digS (q:Int)
def propB(p:ByteArray×V3):ByteArray:=(⟨#[32]⟩:ByteArray)++p.1++(⟨#[58]⟩:ByteArray)++printV p.2.1 p.2.2.1 p.2.2.2
def propsL(L:List (ByteArray×V3)):List UInt8:=L.flatMap fun p=>(propB p).data.toList
def lineL(H:Hp)(k:Nat):List UInt8:=match H.obs[k]? with
 |some o=>(headB k o.proto).data.toList++propsL o.L ++ [10]
 |none=>[]
def linesL(H:Hp)(k:Nat):List UInt8:=(List.range k).flatMap (lineL H)
def dumpB(H:Hp):ByteArray:=⟨(linesL H H.obs.length).toArray⟩
theorem printV_len{k n:Int}{x:ByteArray}(hn : -9223372036854775808≤n∧n≤9223372036854775807):(printV k n x).size≤4*x.size+30:=by
 have hd:=digS_len hn
 rcases kinds k with rfl|rfl|rfl|rfl|rfl|rfl|⟨h0,h1,h2,h3,h4,h5⟩
 ·show 4≤_;omega
 ·by_cases hz:n=0
  ·simp only[printV,showV,hz];show 5≤_;omega
  ·simp only[printV,showV,hz];show 4≤_;omega
 ·simp only[printV,showV];show (digS n).size≤_;omega
 ·simp only[printV]
  show (quoteS x).size≤_
  have:=flat_len x.data.toList
  show (quoteL x.data.toList).length≤_
  unfold quoteL
  simp only[List.length_cons,List.length_append,List.length_nil]
  have e:x.data.toList.length=x.size:=rfl
  omega
 ·simp only[printV];show ((⟨#[35]⟩:ByteArray)++digS n).size≤_
  rw[ByteArray.size_append];show 1+_≤_;omega
 ·simp only[printV];show ((⟨#[38]⟩:ByteArray)++digS n).size≤_
  rw[ByteArray.size_append];show 1+_≤_;omega
 ·simp only[printV,showV,h0,h1,h2,h3,h4,h5,if_false];show 0≤_;omega
theorem headB_len{k q:Nat}(hk:k≤1000)(hq:q≤1000):(headB k q).size≤50:=by
 unfold headB
 have h1:=digS_len (n:=((k+1:Nat):Int)) (by omega)
 have h2:=digS_len (n:=(q:Int)) (by omega)
 simp only[ByteArray.size_append]
 show 1+_+2+_≤_
 omega
theorem propB_len{p:ByteArray×V3}(h:PSz 1000000 p):(propB p).size≤6000000:=by
 obtain⟨h1,h2,h3,h4⟩:=h
 have:=printV_len (k:=p.2.1) (x:=p.2.2.2) ⟨h3,h4⟩
 unfold propB
 simp only[ByteArray.size_append]
 show 1+_+1+_≤_
 omega
theorem propsL_len:∀ {L:List (ByteArray×V3)},(∀ p∈L,PSz 1000000 p)→(propsL L).length≤L.length*6000000:=by
 intro L
 induction L with
 |nil=>intro _;simp[propsL]
 |cons p L ih =>
  intro h
  have h1:=propB_len (h p (List.mem_cons_self))
  have h2:=ih fun q hq=>h q (List.mem_cons_of_mem _ hq)
  show ((propB p).data.toList++propsL L).length≤_
  rw[List.length_append,List.length_cons]
  have e:(propB p).data.toList.length=(propB p).size:=rfl
  omega
theorem lineL_len{H:Hp}(hok:HOk H)(hs:HSz 1000000 H)(k:Nat):(lineL H k).length≤200000000:=by
 unfold lineL
 cases ho:H.obs[k]? with
 |none=>simp
 |some o =>
  simp only[List.length_append,List.length_cons,List.length_nil]
  have hk:=(List.getElem?_eq_some_iff.1 ho).1
  have hlim:=hok.lim
  have hl:=hok.lens k o ho
  obtain⟨d,hd⟩:=hok.up
  have hq:o.proto≤200:=by rcases hd k o ho with h|⟨h,_⟩<;>omega
  have h1:=headB_len (k:=k) (q:=o.proto) (by omega) (by omega)
  have h2:=propsL_len (hs k o ho)
  have e:(headB k o.proto).data.toList.length=(headB k o.proto).size:=rfl
  omega
theorem linesL_succ(H:Hp)(k:Nat):linesL H (k+1)=linesL H k++lineL H k:=by
 unfold linesL;rw[List.range_succ];simp
theorem linesL_len{H:Hp}(hok:HOk H)(hs:HSz 1000000 H)(k:Nat):(linesL H k).length≤k*200000000:=by
 induction k with
 |zero=>simp[linesL]
 |succ k ih =>
  have:=lineL_len hok hs k
  rw[linesL_succ,List.length_append];omega
theorem ba_list_append(a b:ByteArray):(a++b).data.toList=a.data.toList++b.data.toList:=by
 rw[ByteArray.data_append,Array.toList_append]
section
variable {M:Type}[Mem M]{w0:World}{s:St M}{R:Value→St M→Prop}{lo p N:Nat}{H:Hp}{O:Nat→Prop}
theorem BAt.go{s0 s s':St M}{p:Nat}{l:List UInt8}(h:BAt s0 s p l)(hs:s.le s'):BAt s0 s' p l:=by
 obtain⟨h1,h2,h3,ad,sl,h4,h5,h6⟩:=h
 have:=hs.1
 refine⟨lT h1 hs,h2,by omega,ad,sl,(hs.2 p h3).trans h4,h5,?_⟩
 rcases h6 with h6|⟨g1,b,g2,g3,g4,g5,g6⟩
 ·exact .inl h6
 ·exact .inr ⟨g1,b,g2,(hs.2 b g6).trans g3,g4,g5,by omega⟩
theorem Fix.sub{W W':List Nat}{a b:Env}(h:Fix W a b)(hs:∀ t,W'.contains t=false→W.contains t=false):Fix W' a b:=fun t ht=>h t (hs t ht)
set_option maxHeartbeats 8000000 in
theorem hdump_spec(h:HpAt lo s p H N O)(hN:N≤1000000)(hsz:HSz 1000000 H)(hR:∀ s',s.le s'→R (.string (dumpB H)) s'):QC Tryz.prog w0 26 #[.pointer (some ⟨p,0,none⟩)] s R:=by
 refine wfun2 hmix ok26 func26 rfl ntmps26 results26 (by simp) ?_
 obtain⟨hpro,tg,pf,pn,sl,bs,h⟩:=h
 have hlim:=h.ok.lim
 simp -implicitDefEqProofs only[↓Zd,(Zp),simprocAttr,Value.cells,ze143]
 have hB0:BAt s (s.new (.cells [.pointer none,.slice none 0 0] 143 true)) s.next (linesL H 0):=
  ⟨lN (lR _),Nat.le_refl _,by simp only[St.next_new];omega,_,_,by rw[St.at_new,if_pos rfl],.inl rfl,.inl ⟨rfl,rfl⟩⟩
 refine wloop_fix hmix [10,11,12,13,16,17,18,19,20,21,22,23,24,25,26,27,28,29,30,31,5,32,33,34,35,36,37,38,6,7,39,40,41,42,43,44,45,8,9,46,47,48,49,50,51,52,53,54,14,15,4] (fun fuel env s1=>∃ k:Nat,fuel=H.obs.length - k∧k≤H.obs.length∧env 4 = .int .i64 ((k+1:Nat):Int)∧BAt s s1 s.next (linesL H k)) H.obs.length ⟨0,rfl,by omega,rfl,hB0⟩ ?_
 rintro fuel env s1 hFx ⟨k,rfl,hk,e4,hB⟩
 have e0:env 0 = .pointer (some ⟨p,0,none⟩):=by rw[hFx 0 rfl];rfl
 have e3:env 3 = .pointer (some ⟨s.next,0,none⟩):=by rw[hFx 3 rfl];rfl
 have hll:=linesL_len h.ok hsz k
 simp -implicitDefEqProofs only[↓Zd,(Zp),simprocAttr,e0,e4,co46]
 refine hlen_spec (h.le hB.le) ?_
 by_cases hkn:k<H.obs.length
 ·have hle1:((k+1:Nat):Int)≤(H.obs.length:Int):=by omega
  obtain⟨o,ho⟩:∃ o,H.obs[k]?=some o:=⟨H.obs[k],by simp[hkn]⟩
  have hat:obAt H ((k+1:Nat):Int)=some o:=by rw[obAt_get];exact ho
  obtain⟨d,hd⟩:=h.ok.up
  have hq:o.proto≤200:=by rcases hd k o ho with h|⟨h,_⟩<;>omega
  have hd1:=digS_len (n:=((k+1:Nat):Int)) (by omega)
  have hd2:=digS_len (n:=(o.proto:Int)) (by omega)
  have hml:o.L.length≤32:=by have:=h.ok.lens k o ho;omega
  have z1:(⟨#[35]⟩:ByteArray).size+(digS ((k+1:Nat):Int)).size≤9223372036854775807:=by show 1+_≤_;omega
  have z2:((⟨#[35]⟩:ByteArray)++digS ((k+1:Nat):Int)).size+(⟨#[32,35]⟩:ByteArray).size≤9223372036854775807:=by rw[ByteArray.size_append];show 1+_+2≤_;omega
  have z3:((⟨#[35]⟩:ByteArray)++digS ((k+1:Nat):Int)++(⟨#[32,35]⟩:ByteArray)).size+(digS (o.proto:Int)).size≤9223372036854775807:=by rw[ByteArray.size_append,ByteArray.size_append];show 1+_+2+_≤_;omega
  simp -implicitDefEqProofs only[↓Zd,(Zp),simprocAttr,(HEx),e4,hle1,co72]
  refine digits_spec (by omega) fun s2 hs2=>?_
  have hB2:=hB.go hs2
  simp -implicitDefEqProofs only[↓Zd,(Zp),simprocAttr,(HEx),e0,e4,z1,z2,co73]
  refine hproto_spec (h.le hB2.le) (by omega) ?_
  have hpv:protoV H ((k+1:Nat):Int)=(o.proto:Int):=by unfold protoV;rw[hat]
  rw[hpv]
  simp -implicitDefEqProofs only[↓Zd,(Zp),simprocAttr,(HEx),co72]
  refine digits_spec (by omega) fun s3 hs3=>?_
  have hB3:=hB2.go hs3
  simp -implicitDefEqProofs only[↓Zd,(Zp),simprocAttr,(HEx),e3,z3,co71]
  have hh:(⟨#[35]⟩:ByteArray)++digS ((k+1:Nat):Int)++(⟨#[32,35]⟩:ByteArray)++digS (o.proto:Int)=headB k o.proto:=rfl
  rw[hh]
  have hhl:=headB_len (k:=k) (q:=o.proto) (by omega) (by omega)
  refine writeString_spec hB3 (by omega) (by rw[← hh];simp only[ba_list_append];simp) (by omega) fun s4 hB4=>?_
  simp -implicitDefEqProofs only[↓Zd,(Zp),simprocAttr,underlying146,e0,e4,co74]
  refine hcount_spec (i:=((k+1:Nat):Int)) (h.le hB4.le) (by omega) fun s5 hs5=>?_
  have hB5:=hB4.go hs5
  have hcv:countV H ((k+1:Nat):Int)=(o.L.length:Int):=by unfold countV;rw[hat]
  rw[hcv]
  simp -implicitDefEqProofs only[↓Zd,(Zp),simprocAttr,(HEx)]
  refine wloop_fix hmix [30,31,5,32,33,34,35,36,37,38,6,7,39,40,41,42,43,44,45,8,9,46,47,48,49,50,51,52,53,29] (fun fuel env s1=>∃ m:Nat,fuel=o.L.length - m∧m≤o.L.length∧env 29 = .int .i64 (m:Int)∧BAt s s1 s.next (linesL H k++(headB k o.proto).data.toList++propsL (o.L.take m))) o.L.length ⟨0,rfl,by omega,rfl,by simpa [propsL] using hB5⟩ ?_
  rintro fuel2 env2 s6 hFx2 ⟨m,rfl,hm,e29,hB6⟩
  have f0:env2 0 = .pointer (some ⟨p,0,none⟩):=by rw[hFx2 0 rfl];simp only[upd_apply];simpa using e0
  have f3:env2 3 = .pointer (some ⟨s.next,0,none⟩):=by rw[hFx2 3 rfl];simp only[upd_apply];simpa using e3
  have f4:env2 4 = .int .i64 ((k+1:Nat):Int):=by rw[hFx2 4 rfl];simp only[upd_apply];simpa using e4
  have f28:env2 28 = .int .i64 (o.L.length:Int):=by rw[hFx2 28 rfl];rfl
  have hpl:=propsL_len (L:=o.L.take m) (fun q hq=>hsz k o ho q (List.mem_of_mem_take hq))
  have htl:(o.L.take m).length≤32:=by rw[List.length_take];omega
  have hel:(headB k o.proto).data.toList.length=(headB k o.proto).size:=rfl
  have hlen6:(linesL H k++(headB k o.proto).data.toList++propsL (o.L.take m)).length≤100000000000:=by
   simp only[List.length_append];omega
  by_cases hml2:(m:Int)<(o.L.length:Int)
  ·have hmlt:m<o.L.length:=by omega
   obtain⟨x,v,hLm⟩:∃ x v,o.L[m]?=some (x,v):=⟨o.L[m].1,o.L[m].2,by simp[hmlt]⟩
   obtain⟨v1,v2,v3⟩:=v
   have hpsz:=hsz k o ho _ (List.mem_of_getElem? hLm)
   obtain⟨q1,q2,q3,q4⟩:=hpsz
   simp only at q1 q2 q3 q4
   have hgp:=getP_get (h.ok.keys k o ho) hLm
   have hkV:keyV o.L (m:Int) = .tuple #[.string x,.bool true]:=by
    unfold keyV
    rw[if_pos (by omega),Int.toNat_natCast,List.getD_eq_getElem?_getD,hLm];rfl
   simp -implicitDefEqProofs only[↓Zd,(Zp),simprocAttr,f0,f4,f28,e29,hml2,co75]
   refine hkey_spec (i:=((k+1:Nat):Int)) (k:=(m:Int)) (h.le hB6.le) hN (by omega) (by omega) fun s7 hs7=>?_
   rw[hat]
   simp only[hkV]
   have hB7:=hB6.go hs7
   simp -implicitDefEqProofs only[↓Zd,(Zp),simprocAttr,(HEx),f0,f4,co76]
   refine hown_spec (i:=((k+1:Nat):Int)) (h.le hB7.le) (by omega) fun s8 hs8=>?_
   rw[hat]
   simp only[Option.bind_some,hgp,gotV,vOf]
   have hB8:=hB7.go hs8
   have hw1:(⟨#[32]⟩:ByteArray).size+x.size≤9223372036854775807:=by show 1+_≤_;omega
   have hw2:((⟨#[32]⟩:ByteArray)++x).size+(⟨#[58]⟩:ByteArray).size≤9223372036854775807:=by rw[ByteArray.size_append];show 1+_+1≤_;omega
   have hpl1:=printV_len (k:=v1) (n:=v2) (x:=v3) ⟨q3,q4⟩
   have hw3:((⟨#[32]⟩:ByteArray)++x++(⟨#[58]⟩:ByteArray)).size+(printV v1 v2 v3).size≤9223372036854775807:=by rw[ByteArray.size_append,ByteArray.size_append];show 1+_+1+_≤_;omega
   simp -implicitDefEqProofs only[↓Zd,(Zp),simprocAttr,qP,Value.cells,cut,qC,cld2,(HEx),vA,hw1,hw2,co77]
   have hB9:=hB8.go (s':=(s8.new (.cells [.int .i64 0,.int .i64 0,.string ⟨#[]⟩] 36 true)).put s8.next (.cells [.int .i64 v1,.int .i64 v2,.string v3] 36 true)) (lP (lN (lR _)) (Nat.le_refl _))
   have hpr:=print_spec (w0:=w0) (k:=v1) (n:=v2) (x:=v3) (s:=(s8.new (.cells [.int .i64 0,.int .i64 0,.string ⟨#[]⟩] 36 true)).put s8.next (.cells [.int .i64 v1,.int .i64 v2,.string v3] 36 true)) ⟨q3,q4⟩ q2 (R:=fun v s'=>v = .string (printV v1 v2 v3)∧BAt s s' s.next (linesL H k++(headB k o.proto).data.toList++propsL (o.L.take m))) (fun s' hs'=>⟨rfl,hB9.go hs'⟩)
   unfold vA at hpr
   refine QC.mono hpr fun v s9 hv=>?_
   obtain⟨rfl,hB10⟩:=hv
   simp -implicitDefEqProofs only[↓Zd,(Zp),simprocAttr,(HEx),f3,hw3,co71]
   have hpb:(⟨#[32]⟩:ByteArray)++x++(⟨#[58]⟩:ByteArray)++printV v1 v2 v3=propB (x,v1,v2,v3):=rfl
   rw[hpb]
   have hpbl:=propB_len (p:=(x,v1,v2,v3)) ⟨q1,q2,q3,q4⟩
   refine writeString_spec hB10 (by omega) (by rw[← hpb];simp only[ba_list_append];simp) (by omega) fun s11 hB11=>?_
   have w1:IntKind.i64.wrap ((m:Int)+1)=((m+1:Nat):Int):=by rw[wrap_i64 (by omega)];omega
   simp -implicitDefEqProofs only[↓Zd,(Zp),simprocAttr,underlying146,e29,w1]
   refine⟨by repeat (first|exact hFx2|refine Fix.upd (by decide) ?_),o.L.length - (m+1),by omega,m+1,rfl,by omega,rfl,?_⟩
   have e:propsL (o.L.take (m+1))=propsL (o.L.take m)++(propB (x,v1,v2,v3)).data.toList:=by
    rw[List.take_add_one,hLm]
    show (o.L.take m ++ [_]).flatMap _=_
    rw[List.flatMap_append]
    simp[propsL]
   rw[e,← List.append_assoc]
   exact hB11
  ·have:m=o.L.length:=by omega
   subst this
   rw[List.take_length]at hB6 hlen6
   have w1:IntKind.i64.wrap (((k+1:Nat):Int)+1)=((k+1+1:Nat):Int):=by rw[wrap_i64 (by omega)];omega
   simp -implicitDefEqProofs only[↓Zd,(Zp),simprocAttr,f3,f28,e29,hml2,co78]
   refine writeByte_spec (c:=10) hB6 (by omega) fun s7 hB7=>?_
   simp -implicitDefEqProofs only[↓Zd,(Zp),simprocAttr,underlying145,f4,w1]
   refine⟨?_,H.obs.length - (k+1),by omega,k+1,rfl,by omega,rfl,?_⟩
   ·repeat (first|exact (Fix.trans (by repeat (first|exact hFx|refine Fix.upd (by decide) ?_)) (Fix.sub hFx2 (by intro t ht;simp only[List.contains_cons,List.contains_nil,Bool.or_false,Bool.or_eq_false_iff]at ht ⊢;simp only[ht,and_self])))|refine Fix.upd (by decide) ?_)
   ·have e:linesL H k++(headB k o.proto).data.toList++propsL o.L ++ [10]=linesL H (k+1):=by
     rw[linesL_succ]
     unfold lineL
     rw[ho]
     simp only[List.append_assoc]
    rw[← e]
    exact hB7
 ·have hnle:¬ ((k+1:Nat):Int)≤(H.obs.length:Int):=by omega
  have:k=H.obs.length:=by omega
  subst this
  simp -implicitDefEqProofs only[↓Zd,(Zp),simprocAttr,(HEx),e3,hnle,co79]
  refine string_spec hB (by omega) fun s2 hs2=>?_
  simp -implicitDefEqProofs only[↓Zd,(Zp),simprocAttr,(HEx)]
  exact hR _ hs2
end
end Go.Proofs.Tryz
end
section
set_option maxRecDepth 100000
namespace Go.Proofs.Tryz
open Go.Cs Go.ChangeShapes Go.WideShapes Go.ChangeAt Go.RowKit
abbrev QMem:=Nat→Option Blk
def qSt(L:List (TypeId×List Value)):St QMem:=⟨fun j=>(L[j]?).map fun r => .cells r.2 r.1 false,L.length⟩
def qRen(B:List (Option BI)):Ren:=fun j=>(B[j]?).join
def QIn(ρ:Ren)(w:World)(oi:Option BI)(r:List Value):Prop:=
 ∀ i,oi=some i→i.esz=0∧i.kd=0∧∃ cs e' fr,w.heap[i.blk]?=some (.cells cs e' fr)∧i.sh+r.length≤cs.size∧∀ k,k<r.length→VRel ρ (r.getD k Go.undef) (cs.getD (i.sh+k) Go.undef)
theorem q_at(L:List (TypeId×List Value))(b:Nat):(qSt L).at' b=(L[b]?).map fun r=>Blk.cells r.2 r.1 false:=rfl
theorem rel_q{w:World}{L:List (TypeId×List Value)}{B:List (Option BI)}(hn:B.length=L.length)(h:∀ (j:Nat) (oi:Option BI) (r:TypeId×List Value),B[j]?=some oi→L[j]?=some r→QIn (qRen B) w oi r.2):Rel prog w (qRen B) (qSt L) w:=by
 have hget:∀ b i,qRen B b=some i→b<L.length∧B[b]?=some (some i):=by
  intro b i hb
  unfold qRen at hb
  cases hc:B[b]? with
  |none=>rw[hc]at hb;cases hb
  |some o =>
   rw[hc]at hb
   have:=(List.getElem?_eq_some_iff.1 hc).1
   exact⟨by omega,by cases hb;rfl⟩
 have hq:∀ b i,qRen B b=some i→∃ r,L[b]?=some r∧QIn (qRen B) w (some i) r.2:=by
  intro b i hb
  obtain⟨h1,h2⟩:=hget b i hb
  exact⟨L[b],by simp[h1],h b _ L[b] h2 (by simp[h1])⟩
 have hown:∀ b B',(qSt L).at' b=some B'→B'.owned=false:=by
  intro b B' hb
  rw[q_at]at hb
  obtain⟨ss,_,rfl⟩:=Option.map_eq_some_iff.1 hb
  rfl
 refine⟨fun b i hb=>(hget b i hb).1,fun b i hb=>?_,fun b i B' hb hs=>?_,fun b i B' hb hs ho=>?_,fun b i B' b2 i2 B2 hb hs _ _ _ ho=>?_,Below.refl _ _,fun b hb=>?_,fun b i hb hk=>?_,fun b i hb hk=>?_⟩
 ·obtain⟨r,_,h2⟩:=hq b i hb
  obtain⟨_,_,cs,e',fr,h3,_⟩:=h2 i rfl
  exact (Array.getElem?_eq_some_iff.1 h3).1
 ·obtain⟨r,h1,h2⟩:=hq b i hb
  rw[q_at,h1]at hs
  cases hs
  obtain⟨hz,_,cs,e',fr,h3,h4,h5⟩:=h2 i rfl
  exact⟨_,h3,cs,e',fr,rfl,h4,h5,.inl hz,fun e=>by cases e⟩
 ·rw[hown b B' hs]at ho;cases ho
 ·rw[hown b B' hs]at ho;cases ho
 ·rw[q_at,List.getElem?_eq_none (show L.length≤b from hb)];rfl
 ·obtain⟨r,_,h2⟩:=hq b i hb
  rw[(h2 i rfl).2.1]at hk;cases hk
 ·obtain⟨r,_,h2⟩:=hq b i hb
  rw[(h2 i rfl).2.1]at hk;cases hk
theorem calls_q{f:FuncId}{args args':Array Value}{w:World}{L:List (TypeId×List Value)}{B:List (Option BI)}(hn:B.length=L.length)(hr:∀ (j:Nat) (oi:Option BI) (r:TypeId×List Value),B[j]?=some oi→L[j]?=some r→QIn (qRen B) w oi r.2)
  (hv:VsRel (qRen B) args args')(h:QC (M:=QMem) prog w f args (qSt L) fun v _=>v = .bool true) :
  Calls prog f args' w fun e w'=>e = .returned (.bool true)∧Below w.heap.size w w':=by
 refine (h _ w args' (rel_q hn hr) hv).mono ?_
 rintro e w' ⟨v,s',ρ',v',rfl,rfl,hv,hR,_⟩
 exact⟨by rw[hv.bool_inv],hR.below⟩
theorem open_rows{α H:Type}{enc:TypeId×Value→H}{W:World}{r:Reach}{b0 c:Nat}{t e:TypeId}{v:Value}{d:DataW H}{ps:List MemPlace}(cellsA:α→List Value)(good:α→Prop)(hu:prog.underlying t=some (.slice e))(hc:prog.cellsOf e=c)(hlen:∀ a,(cellsA a).length=c)
  (hpl:∀ a,∀ x∈cellsA a,plain 6 x=true)(hc0:0<c)(hel:∀ (n:Nat) (cs:List Value) y,DataW.trod enc prog W 0 (fun _=>true) true n e cs=some y→∃ a,cs=cellsA a∧good a)
  (hval:Value.okWide prog W r b0 t v)(hd:DataW.Trod enc prog W 0 (fun _=>true) true t v d ps) :
  ∃ (A us:List α) (cp:Nat) (oi:Option BI) (ad:Nat→Option Addr),(∀ ρ,QIn ρ W oi (us.flatMap cellsA))∧(∀ (ρ:Ren) j,ρ j=oi→VRel ρ (.slice (ad j) A.length cp) v)∧(∀ a∈A,good a)∧(A=[]∨(ad=fun j=>some ⟨j,0,none⟩)∧∀ k,k<A.length→us[k]?=A[k]?)∧A.length≤9223372036854775807:=by
 have hmx:maxLen=9223372036854775807:=by decide
 obtain⟨a0,len,cap,rfl⟩:=okWide_slice hu hval
 obtain⟨fuel,hf⟩:=hd
 rcases DataW.trod_slice hu hf with ⟨hcs,hx⟩|⟨a,len',cap',elems,rest,n,_,hcs,hx,hb,hl,hm,hlen',hel',hsp,hns⟩
 ·have hcs:[Value.slice a0 len cap]=[.slice none 0 0]:=hcs
  simp only[List.cons.injEq,Value.slice.injEq,and_true]at hcs
  obtain⟨rfl,rfl,rfl⟩:=hcs
  exact⟨[],[],0,none,fun _=>none,(by intro ρ i hi;cases hi),(fun ρ j _ => .nilSlice),(by simp),.inl rfl,Nat.zero_le _⟩
 ·have hcs:[Value.slice a0 len cap]=[.slice (some a) len' cap']:=hcs
  simp only[List.cons.injEq,Value.slice.injEq,and_true]at hcs
  obtain⟨rfl,rfl,rfl⟩:=hcs
  obtain⟨hrl,hr⟩:=hsp rfl
  have hU:cap<UNK:=by unfold UNK;have:maxLen=9223372036854775807:=by decide
                      omega
  have hspot:a.spot=none∧∃ row cells,W.shape? a.block=some (row,cells):=by
   simp only[Value.okWide,hu,Cell.okWide]at hval
   simp only[Cell.ok,hu]at hval
   obtain⟨_,_,_,h1,row,cells,h2,_⟩:=hval
   exact⟨h1,row,cells,h2⟩
  obtain⟨hs1,row,cells,hs2⟩:=hspot
  have hblk:∃ cs e' fr,W.heap[a.block]?=some (.cells cs e' fr):=by
   unfold World.shape? at hs2
   split at hs2
   ·rename_i c el fr hh;exact⟨c,el,fr,hh⟩
   ·cases hs2
  obtain⟨cs,e',fr,hh⟩:=hblk
  have ha:a=⟨a.block,a.off,none⟩:=by cases a;simp at hs1;simp[hs1]
  have hadd:∀ i,a.add i=⟨a.block,a.off+i,none⟩:=by
   intro i
   unfold Addr.add
   split
   ·subst_vars;exact ha
   ·rfl
  have hadd2:∀ i k,(a.add i).add k=⟨a.block,a.off+i+k,none⟩:=by
   intro i k
   rw[hadd]
   unfold Addr.add
   split
   ·subst_vars;simp
   ·rfl
  have each:∀ i,i<cap→∃ x,good x∧∀ k,k<c→cs[a.off+i*c+k]?=(cellsA x)[k]?:=by
   intro i hi
   have hb':∃ y,(W.cells? 0 (a.add (i*c)) c).bind (DataW.trod enc prog W 0 (fun _=>true) true n e)=some y:=by
    by_cases h1:i<len
    ·have:=hel' i h1
     rw[hc]at this
     exact⟨elems[i]'(by omega),by rw[this];simp[hlen',h1]⟩
    ·have:=hr (i - len) (by omega)
     rw[hc,show len+(i - len)=i by omega]at this
     exact⟨rest[i - len]'(by omega),by rw[this];simp⟩
   obtain⟨y,hy⟩:=hb'
   obtain⟨cs',hcs',hy'⟩:=Option.bind_eq_some_iff.1 hy
   obtain⟨x,rfl,hg⟩:=hel n cs' y hy'
   obtain⟨_,_,hcell⟩:=World.cells?_some hcs'
   refine⟨x,hg,fun k hk=>?_⟩
   have:=hcell k hk
   rw[hadd2]at this
   unfold World.cell? at this
   simp only[hh,Option.isSome_none,Bool.false_eq_true,if_false]at this
   exact this
  have hall:∃ us:List α,us.length=cap∧∀ i x,us[i]?=some x→good x∧∀ k,k<c→cs[a.off+i*c+k]?=(cellsA x)[k]?:=by
   clear hcs hrl hr hel' hval hf hx hb hl hm hlen' hsp hns hU
   induction cap with
   |zero=>exact⟨[],rfl,fun i x h=>by simp at h⟩
   |succ m ih =>
    obtain⟨us,h1,h2⟩:=ih (fun i hi=>each i (by omega))
    obtain⟨x,h3⟩:=each m (by omega)
    refine⟨us ++ [x],by simp[h1],fun i y hy=>?_⟩
    by_cases hi:i<us.length
    ·rw[List.getElem?_append_left hi]at hy;exact h2 i y hy
    ·rw[List.getElem?_append_right (by omega)]at hy
     have h0:i - us.length=0:=by
      have:=(List.getElem?_eq_some_iff.1 hy).1
      simp at this;omega
     rw[h0]at hy
     simp at hy
     subst hy
     have:i=m:=by omega
     subst this;exact h3
  obtain⟨us,hal,has⟩:=hall
  have hfl:∀ (l:List α),(l.flatMap cellsA).length=l.length*c:=by
   intro l
   induction l with
   |nil=>simp
   |cons x l ih=>rw[List.flatMap_cons,List.length_append,ih,hlen,List.length_cons,Nat.succ_mul];omega
  have hget:∀ (l:List α) (i k:Nat) (x:α),l[i]?=some x→k<c→(l.flatMap cellsA)[i*c+k]?=(cellsA x)[k]?:=by
   intro l
   induction l with
   |nil=>intro i k x h;simp at h
   |cons y l ih =>
    intro i k x h hk
    rw[List.flatMap_cons]
    cases i with
    |zero =>
     simp at h;subst h
     rw[Nat.zero_mul,Nat.zero_add,List.getElem?_append_left (by rw[hlen];exact hk)]
    |succ i =>
     have:c≤(i+1)*c+k:=by rw[Nat.succ_mul];omega
     rw[List.getElem?_append_right (by rw[hlen];exact this),hlen,show (i+1)*c+k - c=i*c+k by rw[Nat.succ_mul];omega]
     exact ih i k x (by simpa using h) hk
  by_cases h0:cap=0
  ·have hl0:len=0:=by omega
   subst hl0
   refine⟨[],[],cap,some ⟨a.block,0,0,0,0⟩,fun j=>some ⟨j,a.off,none⟩,?_,?_,(by simp),.inl rfl,Nat.zero_le _⟩
   ·rintro ρ i ⟨⟩
    exact⟨rfl,rfl,cs,e',fr,hh,by simp,fun k hk=>by simp at hk⟩
   ·intro ρ j hj
    exact .slice ⟨_,hj,rfl,ha⟩ (.inl ⟨rfl,hU⟩)
  ·refine⟨us.take len,us,cap,some ⟨a.block,a.off,0,0,0⟩,fun j=>some ⟨j,0,none⟩,?_,?_,?_,.inr ⟨rfl,?_⟩,by simp;omega⟩
   ·rintro ρ i ⟨⟩
    have hlast:cap - 1<cap:=by omega
    have hsz:a.off+cap*c≤cs.size:=by
     have h1:us[cap - 1]?=some (us[cap - 1]'(by omega)):=List.getElem?_eq_getElem _
     have h2:=(has _ _ h1).2 (c - 1) (by omega)
     rw[List.getElem?_eq_getElem (by rw[hlen];omega)]at h2
     have:=(Array.getElem?_eq_some_iff.1 h2).1
     have e:cap*c=(cap - 1)*c+c:=by
      conv=>lhs;rw[show cap=(cap - 1)+1 by omega,Nat.succ_mul]
     omega
    refine⟨rfl,rfl,cs,e',fr,hh,by rw[hfl,hal];exact hsz,fun k hk=>?_⟩
    rw[hfl,hal]at hk
    have hi:k / c<cap:=by rw[Nat.div_lt_iff_lt_mul hc0];exact hk
    have hk2:k % c<c:=Nat.mod_lt _ hc0
    have e:k / c*c+k % c=k:=Nat.div_add_mod' k c
    have h1:us[k / c]?=some (us[k / c]'(by omega)):=List.getElem?_eq_getElem _
    have h2:=(has _ _ h1).2 (k % c) hk2
    have h3:=hget us _ _ _ h1 hk2
    have hlt:k % c<(cellsA (us[k / c]'(by omega))).length:=by rw[hlen];exact hk2
    rw[List.getElem?_eq_getElem hlt]at h2 h3
    show VRel ρ _ (cs.getD (a.off+k) Go.undef)
    rw[show a.off+k / c*c+k % c=a.off+k by omega]at h2
    rw[e]at h3
    rw[Array.getD_eq_getD_getElem?,h2,List.getD_eq_getElem?_getD,h3]
    exact VRel.of_plain 6 (hpl _ _ (List.getElem_mem _))
   ·intro ρ j hj
    have:(us.take len).length=len:=by simp;omega
    rw[this]
    exact .slice ⟨_,hj,rfl,by show a=⟨a.block,0+a.off,none⟩;rw[Nat.zero_add];exact ha⟩ (.inl ⟨rfl,hU⟩)
   ·intro x hx
    obtain⟨i,hi⟩:=List.getElem?_of_mem (List.mem_of_mem_take hx)
    exact (has i x hi).1
   ·intro k hk
    simp only[List.length_take]at hk
    rw[List.getElem?_take,if_pos (by omega)]
def QRow{α M:Type}[Mem M](e:TypeId)(cellsA:α→List Value)(s:St M)(a:Option Addr)(A:List α):Prop:=
 A=[]∨∃ (j:Nat) (us:List α),a=some ⟨j,0,none⟩∧j<s.next∧s.at' j=some (.cells (us.flatMap cellsA) e false)∧∀ k,k<A.length→us[k]?=A[k]?
end Go.Proofs.Tryz
end
section
set_option maxRecDepth 100000
namespace Go.Proofs.Tryz
open Go.Cs Go.ChangeShapes Go.WideShapes Go.ChangeAt Go.RowKit Go.ChangeMaps
section
variable {H:Type}{enc:TypeId×Value→H}{w:World}{base:Nat}{sp:Nat→Bool}{held:Bool}
theorem open_value_c{m:Nat}{c0 c1 c2:Value}{y:DataW H×List MemPlace}(h:DataW.trod enc prog w base sp held m 36 [c0,c1,c2]=some y) :
  ∃ (k n:Int) (x:ByteArray),c0 = .int .i64 k∧c1 = .int .i64 n∧c2 = .string x∧y=(.agg [.lit (.int .i64 k),.lit (.int .i64 n),.lit (.string x.data.toList)],[])∧(Lit.int .i64 k).wf=true∧(Lit.int .i64 n).wf=true∧x.size≤maxLen:=by
 obtain⟨d,ps⟩:=y
 obtain⟨xs,m,_,hx,hl,hlen,hp⟩:=DataW.trod_struct underlying36 h
 have h0:DataW.trod enc prog w base sp held m 3 (List.take (prog.cellsOf 3) (List.drop 0 [c0,c1,c2]))=xs[0]?:=hp 0 _ rfl
 have h1:DataW.trod enc prog w base sp held m 3 (List.take (prog.cellsOf 3) (List.drop 1 [c0,c1,c2]))=xs[1]?:=hp 1 _ rfl
 have h2:DataW.trod enc prog w base sp held m 9 (List.take (prog.cellsOf 9) (List.drop 2 [c0,c1,c2]))=xs[2]?:=hp 2 _ rfl
 have hlen:xs.length=3:=hlen
 rw[ce3]at h0 h1
 rw[ce9]at h2
 match xs,hlen with
 | [y0,y1,y2],_ =>
  simp only[List.drop_zero,List.drop_succ_cons,List.take_succ_cons,List.take_zero,List.getElem?_cons_zero,List.getElem?_cons_succ]at h0 h1 h2
  obtain⟨k,e0,rfl,w0⟩:=DataW.trod_int underlying3 h0
  obtain⟨n,e1,rfl,w1⟩:=DataW.trod_int underlying3 h1
  obtain⟨x,e2,rfl,w2⟩:=DataW.trod_string underlying9 h2
  simp only[List.cons.injEq,and_true]at e0 e1 e2
  subst e0 e1 e2
  simp only[List.map_cons,List.map_nil,List.flatMap_cons,List.flatMap_nil,List.append_nil,Prod.mk.injEq]at hx
  exact⟨k,n,x,rfl,rfl,rfl,by rw[hx.1,hx.2],w0,w1,w2⟩
end
end Go.Proofs.Tryz
end
namespace Go.Proofs.Tryz
open Go.Cs
open Go.RowKit (Below)
set_option maxRecDepth 100000
attribute [local irreducible] QC WLoop WScope CRound WRange
set_option maxHeartbeats 32000000
variable {M:Type}[Mem M]{w0:World}{s:St M}{R:Value→St M→Prop}
structure Sim(H G:Hp):Prop where
 len:H.obs.length=G.obs.length
 obs:∀ (i:Nat) (a b:Ob),H.obs[i]?=some a→G.obs[i]?=some b→a.L=b.L∧a.proto=b.proto∧a.epoch=b.epoch
 mo:H.maxO=G.maxO
 mp:H.maxP=G.maxP
theorem Sim.so{H G:Hp}(h:Sim H G){i:Int}{a:Ob}(ha:obAt H i=some a):∃ b,obAt G i=some b∧a.L=b.L∧a.proto=b.proto∧a.epoch=b.epoch:=by
 obtain⟨j,rfl,hj,hoj⟩:=obAt_some ha
 have hb:G.obs[j]?=some (G.obs[j]'(by have:=h.len;omega)):=List.getElem?_eq_getElem _
 exact⟨_,by rw[obAt_get];exact hb,h.obs j a _ hoj hb⟩
theorem Sim.no{H G:Hp}(h:Sim H G){i:Int}(ha:obAt H i=none):obAt G i=none:=by
 rw[obAt_none]at ha ⊢
 rw[← h.len];exact ha
theorem Sim.proto{H G:Hp}(h:Sim H G)(i:Int):protoV H i=protoV G i:=by
 unfold protoV
 cases ha:obAt H i with
 |none=>rw[h.no ha]
 |some a=>obtain⟨b,hb,_,h2,_⟩:=h.so ha;rw[hb];simp only;rw[h2]
theorem Sim.epoch{H G:Hp}(h:Sim H G)(i:Int):epochV H i=epochV G i:=by
 unfold epochV
 cases ha:obAt H i with
 |none=>rw[h.no ha]
 |some a=>obtain⟨b,hb,_,_,h2⟩:=h.so ha;rw[hb];simp only;rw[h2]
theorem Sim.get{H G:Hp}(h:Sim H G){x:ByteArray}{i:Int}{v:V3}(hg:GetR H x i v):GetR G x i v:=by
 induction hg with
 |none ha=>exact .none (h.no ha)
 |own ha hv=>obtain⟨b,hb,h1,_⟩:=h.so ha;exact .own hb (by rw[← h1];exact hv)
 |up ha hv _ ih=>obtain⟨b,hb,h1,h2,_⟩:=h.so ha;exact .up hb (by rw[← h1];exact hv) (by rw[← h2];exact ih)
theorem Sim.symm{H G:Hp}(h:Sim H G):Sim G H:=
 ⟨h.len.symm,fun i a b ha hb=>by obtain⟨h1,h2,h3⟩:=h.obs i b a hb ha;exact⟨h1.symm,h2.symm,h3.symm⟩,h.mo.symm,h.mp.symm⟩
theorem Sim.on{H G:Hp}(h:Sim H G){o p:Int}{b:Bool}(hr:OnR H o p b):OnR G o p b:=by
 induction hr with
 |here=>exact .here
 |zero h0=>exact .zero h0
 |up h0 h1 _ ih=>rw[h.proto]at ih;exact .up h0 h1 ih
theorem Sim.onB{H G:Hp}(h:Sim H G)(o p:Int):onB H o p=onB G o p:=by
 unfold Tryz.onB
 by_cases h1:OnR H o p true
 ·rw[if_pos h1,if_pos (h.on h1)]
 ·rw[if_neg h1,if_neg (fun h2=>h1 (h.symm.on h2))]
theorem Sim.put{H G:Hp}(h:Sim H G){H' G':Hp}{i:Int}{a b:Ob}(hH:H'.obs=H.obs∧H'.maxO=H.maxO∧H'.maxP=H.maxP)(hG:G'.obs=G.obs∧G'.maxO=G.maxO∧G'.maxP=G.maxP)(hab:a.L=b.L∧a.proto=b.proto∧a.epoch=b.epoch):Sim (putO H' i a) (putO G' i b):=by
 refine⟨by simp only[putO,List.length_set,hH.1,hG.1];exact h.len,fun j u w hu hw=>?_,by simp only[putO,hH.2.1,hG.2.1];exact h.mo,by simp only[putO,hH.2.2,hG.2.2];exact h.mp⟩
 simp only[putO,hH.1,hG.1,List.getElem?_set]at hu hw
 by_cases e:i.toNat - 1=j
 ·simp only[e,if_true]at hu hw
  split at hu
  ·split at hw
   ·cases hu;cases hw;exact hab
   ·cases hw
  ·cases hu
 ·simp only[e,if_false]at hu hw
  exact h.obs j u w hu hw
theorem same3(H:Hp):H.obs=H.obs∧H.maxO=H.maxO∧H.maxP=H.maxP:=⟨rfl,rfl,rfl⟩
theorem next3(H:Hp)(k:Int)(x:ByteArray):(nextH H k x).obs=H.obs∧(nextH H k x).maxO=H.maxO∧(nextH H k x).maxP=H.maxP:=by
 have:=next_obs H k x
 exact⟨this.1,this.2.2.2,this.2.1⟩
theorem Sim.setE{H G:Hp}(h:Sim H G)(i:Int)(x:ByteArray):setE H i x=setE G i x:=by
 unfold Tryz.setE
 cases ha:obAt H i with
 |none=>rw[h.no ha]
 |some a=>obtain⟨b,hb,h1,_⟩:=h.so ha;rw[hb];simp only;rw[h1,h.mp]
theorem Sim.set{H G:Hp}(h:Sim H G)(i:Int)(x:ByteArray)(v:V3):Sim (setH H i x v) (setH G i x v):=by
 unfold setH
 cases ha:obAt H i with
 |none=>rw[h.no ha];exact h
 |some a =>
  obtain⟨b,hb,h1,h2,h3⟩:=h.so ha
  rw[hb]
  simp only
  rw[h1,h.mp]
  split
  ·exact h.put (same3 H) (same3 G) ⟨by simp only[],h2,h3⟩
  ·split
   ·exact h
   ·split<;>split
    ·exact h.put (same3 H) (same3 G) ⟨rfl,h2,by simp only[h3]⟩
    ·exact h.put (same3 H) (next3 G _ _) ⟨rfl,h2,by simp only[h3]⟩
    ·exact h.put (next3 H _ _) (same3 G) ⟨rfl,h2,by simp only[h3]⟩
    ·exact h.put (next3 H _ _) (next3 G _ _) ⟨rfl,h2,by simp only[h3]⟩
theorem Sim.delB{H G:Hp}(h:Sim H G)(i:Int)(x:ByteArray):delB H i x=delB G i x:=by
 unfold Tryz.delB
 cases ha:obAt H i with
 |none=>rw[h.no ha]
 |some a=>obtain⟨b,hb,h1,_⟩:=h.so ha;rw[hb];simp only[Option.bind_some];rw[h1]
theorem Sim.del{H G:Hp}(h:Sim H G)(i:Int)(x:ByteArray):Sim (delH H i x) (delH G i x):=by
 unfold delH
 cases ha:obAt H i with
 |none=>rw[h.no ha];exact h
 |some a =>
  obtain⟨b,hb,h1,h2,h3⟩:=h.so ha
  rw[hb]
  simp only
  rw[h1]
  split
  ·exact h.put (same3 H) (same3 G) ⟨rfl,h2,by simp only[h3]⟩
  ·exact h
theorem Sim.protoE{H G:Hp}(h:Sim H G)(i q:Int):protoE H i q=protoE G i q:=by
 have hn:∀ k,obAt H k=none↔obAt G k=none:=fun k=>⟨h.no,h.symm.no⟩
 unfold Tryz.protoE
 rw[h.onB]
 have e:(obAt H i=none∨(q≠0∧obAt H q=none))=(obAt G i=none∨(q≠0∧obAt G q=none)):=by rw[propext (hn i),propext (hn q)]
 by_cases h1:obAt H i=none∨(q≠0∧obAt H q=none)
 ·rw[if_pos h1];exact (if_pos (e▸h1)).symm
 ·rw[if_neg h1];exact (if_neg (e▸h1)).symm
theorem Sim.protoH{H G:Hp}(h:Sim H G)(i q:Int):Sim (protoH H i q) (protoH G i q):=by
 unfold Tryz.protoH
 rw[h.protoE]
 split
 ·cases ha:obAt H i with
  |none=>rw[h.no ha];exact h
  |some a =>
   obtain⟨b,hb,h1,h2,h3⟩:=h.so ha
   rw[hb]
   simp only
   split<;>split
   ·exact h.put (same3 H) (same3 G) ⟨h1,rfl,by simp only[h3]⟩
   ·exact h.put (G':={ G with F:=moveF G.F G.most b.shape q.toNat }) (same3 H) ⟨rfl,rfl,rfl⟩ ⟨h1,rfl,by simp only[h3]⟩
   ·exact h.put (H':={ H with F:=moveF H.F H.most a.shape q.toNat }) ⟨rfl,rfl,rfl⟩ (same3 G) ⟨h1,rfl,by simp only[h3]⟩
   ·exact h.put (H':={ H with F:=moveF H.F H.most a.shape q.toNat }) (G':={ G with F:=moveF G.F G.most b.shape q.toNat }) ⟨rfl,rfl,rfl⟩ ⟨rfl,rfl,rfl⟩ ⟨h1,rfl,by simp only[h3]⟩
 ·exact h
theorem Sim.makeV{H G:Hp}(h:Sim H G):makeV H=makeV G:=by
 unfold Tryz.makeV
 rw[h.mo,h.len]
theorem Sim.make{H G:Hp}(h:Sim H G):Sim (makeH H) (makeH G):=by
 unfold makeH
 rw[h.mo,h.len]
 split
 ·exact h
 ·refine⟨by simp[h.len],fun i a b ha hb=>?_,by first|rfl|exact h.mo,h.mp⟩
  simp only at ha hb
  by_cases hi:i<H.obs.length
  ·rw[List.getElem?_append_left hi]at ha
   rw[List.getElem?_append_left (by rw[← h.len];exact hi)]at hb
   exact h.obs i a b ha hb
  ·rw[List.getElem?_append_right (by omega)]at ha
   rw[List.getElem?_append_right (by rw[← h.len];omega)]at hb
   have h0:i - H.obs.length=0:=by
    have:=(List.getElem?_eq_some_iff.1 ha).1
    simp at this;omega
   rw[← h.len]at hb
   rw[h0]at ha hb
   simp at ha hb
   subst ha hb
   exact⟨rfl,rfl,rfl⟩
theorem Sim.new(a c n m:Int):Sim (newH a c n) (newH a c m):=⟨rfl,fun i a b h=>by simp[newH]at h,rfl,rfl⟩
theorem HSz.put{B:Nat}{H H':Hp}(h:HSz B H)(hH:H'.obs=H.obs){i:Int}{a:Ob}(ha:∀ p∈a.L,PSz B p):HSz B (putO H' i a):=by
 intro j u hu
 simp only[putO,hH,List.getElem?_set]at hu
 split at hu
 ·split at hu
  ·cases hu;exact ha
  ·cases hu
 ·exact h j u hu
theorem HSz.mono{B C:Nat}{H:Hp}(h:HSz B H)(hBC:B≤C):HSz C H:=fun i o ho p hp=>by
 obtain⟨h1,h2,h3⟩:=h i o ho p hp
 exact⟨by omega,by omega,h3⟩
theorem setP_mem:∀ {L:List (ByteArray×V3)}{x:ByteArray}{v:V3}{p:ByteArray×V3},p∈setP L x v→p∈L∨p=(x,v):=by
 intro L
 induction L with
 |nil=>intro x v p h;simp only[setP,List.mem_cons,List.not_mem_nil,or_false]at h;exact .inr h
 |cons q L ih =>
  intro x v p h
  obtain⟨y,w⟩:=q
  unfold setP at h
  split at h
  ·rcases List.mem_cons.1 h with h|h
   ·exact .inr h
   ·exact .inl (List.mem_cons_of_mem _ h)
  ·rcases List.mem_cons.1 h with h|h
   ·exact .inl (by rw[h];exact List.mem_cons_self)
   ·rcases ih h with h|h
    ·exact .inl (List.mem_cons_of_mem _ h)
    ·exact .inr h
theorem delP_mem:∀ {L:List (ByteArray×V3)}{x:ByteArray}{p:ByteArray×V3},p∈delP L x→p∈L:=by
 intro L
 induction L with
 |nil=>intro x p h;cases h
 |cons q L ih =>
  intro x p h
  obtain⟨y,w⟩:=q
  unfold delP at h
  split at h
  ·exact List.mem_cons_of_mem _ h
  ·rcases List.mem_cons.1 h with h|h
   ·rw[h];exact List.mem_cons_self
   ·exact List.mem_cons_of_mem _ (ih h)
theorem HSz.at{B:Nat}{H:Hp}(h:HSz B H){i:Int}{a:Ob}(ha:obAt H i=some a):∀ p∈a.L,PSz B p:=by
 obtain⟨j,rfl,hj,hoj⟩:=obAt_some ha
 exact h j a hoj
theorem HSz.set{B:Nat}{H:Hp}(h:HSz B H)(i:Int){x:ByteArray}{v:V3}(hx:PSz B (x,v)):HSz B (setH H i x v):=by
 unfold setH
 cases ha:obAt H i with
 |none=>exact h
 |some a =>
  have hs:∀ p∈setP a.L x v,PSz B p:=fun p hp=>by
   rcases setP_mem hp with hp|rfl
   ·exact h.at ha p hp
   ·exact hx
  simp only
  split
  ·exact h.put rfl hs
  ·split
   ·exact h
   ·split
    ·exact h.put rfl hs
    ·exact h.put (next_obs _ _ _).1 hs
theorem HSz.del{B:Nat}{H:Hp}(h:HSz B H)(i:Int)(x:ByteArray):HSz B (delH H i x):=by
 unfold delH
 cases ha:obAt H i with
 |none=>exact h
 |some a =>
  simp only
  split
  ·exact h.put rfl fun p hp=>h.at ha p (delP_mem hp)
  ·exact h
theorem HSz.protoH{B:Nat}{H:Hp}(h:HSz B H)(i q:Int):HSz B (protoH H i q):=by
 unfold Tryz.protoH
 split
 ·cases ha:obAt H i with
  |none=>exact h
  |some a =>
   simp only
   split
   ·exact h.put rfl fun p hp=>h.at ha p hp
   ·exact h.put (H':={ H with F:=moveF H.F H.most a.shape q.toNat }) rfl fun p hp=>h.at ha p hp
 ·exact h
theorem HSz.make{B:Nat}{H:Hp}(h:HSz B H):HSz B (makeH H):=by
 unfold makeH
 split
 ·exact h
 ·intro j u hu
  simp only at hu
  by_cases hi:j<H.obs.length
  ·rw[List.getElem?_append_left hi]at hu;exact h j u hu
  ·rw[List.getElem?_append_right (by omega)]at hu
   have h0:j - H.obs.length=0:=by
    have:=(List.getElem?_eq_some_iff.1 hu).1
    simp at this;omega
   rw[h0]at hu
   simp at hu
   subst hu
   intro p hp;cases hp
theorem HSz.new(B:Nat)(a c n:Int):HSz B (newH a c n):=fun i o h=>by simp[newH]at h
def z3:V3:=(0,0,⟨#[]⟩)
theorem countP_lt{α:Type}{p q:α→Bool}:∀ {l:List α},(∀ x∈l,p x=true→q x=true)→(∃ x∈l,q x=true∧p x=false)→l.countP p<l.countP q:=by
 intro l
 have hle:∀ l:List α,(∀ x∈l,p x=true→q x=true)→l.countP p≤l.countP q:=fun l h=>List.countP_mono_left h
 induction l with
 |nil=>intro _ ⟨x,hx,_⟩;cases hx
 |cons y l ih =>
  intro h ⟨x,hx,h1,h2⟩
  have hl:=hle l fun x hx=>h x (List.mem_cons_of_mem _ hx)
  rw[List.countP_cons,List.countP_cons]
  rcases List.mem_cons.1 hx with rfl|hx
  ·rw[h1,h2];simp;omega
  ·have:=ih (fun x hx=>h x (List.mem_cons_of_mem _ hx)) ⟨x,hx,h1,h2⟩
   have hy:=h y List.mem_cons_self
   cases hp:p y with
   |true=>rw[hy hp];simp;omega
   |false=>simp;split<;>omega
theorem deep_few{H:Hp}(h:HOk H):∃ d:Nat→Nat,Deep H d∧∀ i,i<H.obs.length→d (i+1)<H.obs.length:=by
 obtain⟨d,hd⟩:=h.up
 have key:∀ (i:Nat) (p:Nat→Bool),i<H.obs.length→p i=false→(List.range H.obs.length).countP p<H.obs.length:=by
  intro i p hi hp
  have:=countP_lt (p:=p) (q:=fun _=>true) (l:=List.range H.obs.length) (fun _ _ _=>rfl) ⟨i,by simpa using hi,rfl,hp⟩
  simpa using this
 refine⟨fun x=>(List.range H.obs.length).countP fun j=>decide (d (j+1)<d x),fun i o ho=>?_,fun i hi=>key i _ hi (by simp)⟩
 rcases hd i o ho with h1|⟨h1,h2⟩
 ·exact .inl h1
 ·by_cases h0:o.proto=0
  ·exact .inl h0
  ·refine .inr ⟨h1,countP_lt (fun j _ hj=>?_) ⟨o.proto - 1,by simp;omega,?_,?_⟩⟩
   ·simp only[decide_eq_true_eq]at hj ⊢;omega
   ·simp only[decide_eq_true_eq];rw[show o.proto - 1+1=o.proto by omega];exact h2
   ·simp only[decide_eq_false_iff_not];rw[show o.proto - 1+1=o.proto by omega];omega
structure Grows(H G:Hp):Prop where
 F:∀ (j:Nat) (t:Sh),H.F[j]?=some t→G.F[j]?=some t
 T:∀ (j:Nat) (x:ByteArray),H.T[j]?=some x→G.T[j]?=some x
 obs:∀ (i:Int) (o:Ob),obAt H i=some o→∃ u,obAt G i=some u∧o.epoch≤u.epoch∧(u.epoch=o.epoch→u.shape=o.shape)
theorem Grows.refl(H:Hp):Grows H H:=⟨fun _ _ h=>h,fun _ _ h=>h,fun _ o h=>⟨o,h,Nat.le_refl _,fun _=>rfl⟩⟩
theorem Grows.trans{H G K:Hp}(h1:Grows H G)(h2:Grows G K):Grows H K:=
 ⟨fun j t h=>h2.F j t (h1.F j t h),fun j t h=>h2.T j t (h1.T j t h),fun i o h=>by
  obtain⟨u,hu,e1,e2⟩:=h1.obs i o h
  obtain⟨v,hv,e3,e4⟩:=h2.obs i u hu
  exact⟨v,hv,by omega,fun e=>by rw[e4 (by omega),e2 (by omega)]⟩⟩
theorem obAt_putO{H:Hp}{i:Int}{o u:Ob}(hi:obAt H i=some o)(k:Int):obAt (putO H i u) k=if k=i then some u else obAt H k:=by
 obtain⟨j,rfl,hj,hoj⟩:=obAt_some hi
 unfold obAt putO
 by_cases hk:k=((j+1:Nat):Int)
 ·subst hk
  rw[if_pos rfl,if_pos (by omega)]
  simp only[List.getElem?_set]
  rw[if_pos trivial,if_pos (by omega)]
 ·rw[if_neg hk]
  split
  ·simp only[List.getElem?_set]
   rw[if_neg (by omega)]
  ·rfl
theorem Grows.put{H G:Hp}(h:Grows H G)(hobs:G.obs=H.obs){i:Int}{o u:Ob}(ho:obAt H i=some o)(he:o.epoch≤u.epoch)(hs:u.epoch=o.epoch→u.shape=o.shape):Grows H (putO G i u):=by
 have hoG:∀ k,obAt G k=obAt H k:=fun k=>by unfold obAt;rw[hobs]
 refine⟨h.F,h.T,fun k a ha=>?_⟩
 rw[obAt_putO (o:=o) (by rw[hoG];exact ho)]
 by_cases e:k=i
 ·subst e
  rw[ho]at ha
  cases ha
  exact⟨u,by rw[if_pos rfl],he,hs⟩
 ·exact⟨a,by rw[if_neg e,hoG];exact ha,Nat.le_refl _,fun _=>rfl⟩
theorem next_grows(H:Hp)(i:Int)(x:ByteArray):Grows H (nextH H i x):=by
 unfold nextH
 split
 ·exact⟨fun j t h=>addF_get h,fun j y h=>ofT_get x h,fun i o h=>⟨o,h,Nat.le_refl _,fun _=>rfl⟩⟩
 ·exact .refl H
theorem set_grows(H:Hp)(i:Int)(x:ByteArray)(v:V3):Grows H (setH H i x v):=by
 unfold setH
 cases ho:obAt H i with
 |none=>exact .refl H
 |some o =>
  simp only
  split
  ·exact (Grows.refl H).put rfl ho (Nat.le_refl _) (fun _=>rfl)
  ·split
   ·exact .refl H
   ·split
    ·exact (Grows.refl H).put rfl ho (by simp) (fun e=>by simp at e)
    ·exact (next_grows H _ _).put (next_obs _ _ _).1 ho (by simp) (fun e=>by simp at e)
theorem del_grows(H:Hp)(i:Int)(x:ByteArray):Grows H (delH H i x):=by
 unfold delH
 cases ho:obAt H i with
 |none=>exact .refl H
 |some o =>
  simp only
  split
  ·exact (Grows.refl H).put rfl ho (by simp) (fun e=>by simp at e)
  ·exact .refl H
theorem proto_grows(H:Hp)(i q:Int):Grows H (protoH H i q):=by
 unfold protoH
 split
 ·cases ho:obAt H i with
  |none=>exact .refl H
  |some o =>
   simp only
   split
   ·exact (Grows.refl H).put rfl ho (by simp) (fun e=>by simp at e)
   ·have h1:Grows H { H with F:=moveF H.F H.most o.shape q.toNat }:=by
     refine⟨fun j t h=>?_,fun _ _ h=>h,fun i o h=>⟨o,h,Nat.le_refl _,fun _=>rfl⟩⟩
     show (moveF H.F H.most o.shape q.toNat)[j]?=some t
     unfold moveF
     split
     ·exact h
     ·exact moveL_pre _ _ _ (growF_get h)
    exact h1.put rfl ho (by simp) (fun e=>by simp at e)
 ·exact .refl H
theorem make_grows(H:Hp):Grows H (makeH H):=by
 unfold makeH
 split
 ·exact .refl H
 ·refine⟨fun j t h=>growF_get h,fun _ _ h=>h,fun i o h=>⟨o,?_,Nat.le_refl _,fun _=>rfl⟩⟩
  obtain⟨j,rfl,hj,hoj⟩:=obAt_some h
  rw[obAt_get]
  show (H.obs++_)[j]?=some o
  rw[List.getElem?_append_left hj]
  exact hoj
theorem slotOf_grows{H G:Hp}(hH:HOk H)(hG:HOk G)(h:Grows H G){n:Nat}{t:Sh}(hn:0<n)(hF:H.F[n - 1]?=some t)(x:ByteArray):slotOf G n x=slotOf H n x:=by
 unfold slotOf
 rw[namesOf_at hn hF,namesOf_at hn (h.F _ _ hF)]
 cases hi:idxOf H.T x with
 |some j =>
  rw[idx_of_get hG.nodup (h.T _ _ (idx_lt hi).2)]
 |none =>
  cases hg:idxOf G.T x with
  |none=>rfl
  |some j =>
   simp only
   have h1:=idx_lt hg
   have hge:H.T.length≤j:=by
    refine Nat.le_of_not_lt fun hlt=>idx_none hi ?_
    have h2:H.T[j]?=some H.T[j]:=List.getElem?_eq_getElem hlt
    have h3:=h.T _ _ h2
    rw[h1.2]at h3
    have:x=H.T[j]:=Option.some.inj h3
    rw[this];exact List.getElem_mem _
   have h2:slotL t.2 (j+1)<0:=(slotL_neg _ _).2 fun hm=>by have:=(hH.ids _ _ hF _ hm).2;omega
   have:=slotL_ge t.2 (j+1)
   omega
structure Ent where
 shape:Nat
 holder:Int
 slot:Int
 to:Nat
 deps:List (Nat×Nat)
structure Sit where
 used:Bool
 sets:Bool
 mega:Bool
 name:ByteArray
 es:List Ent
inductive Chain (H:Hp) (x:ByteArray):Nat→List (Nat×Nat)→Int→Int→Prop
 |stop:Chain H x 0 [] (-1) 0
 |hit {q E n pr:Nat}{l:List Nat}{o:Ob}{k:Int}(hq:0<q) (ho:obAt H q=some o) (hE:E≤o.epoch) (hs:o.epoch=E→o.shape=n) (hn:0<n) (hF:H.F[n - 1]?=some (pr,l)) (hk:slotOf H n x=k) (hk0:0≤k):Chain H x q [(q,E)] q k
 |up {q E n pr:Nat}{l:List Nat}{o:Ob}{ds:List (Nat×Nat)}{h k:Int}(hq:0<q) (ho:obAt H q=some o) (hE:E≤o.epoch) (hs:o.epoch=E→o.shape=n) (hn:0<n) (hF:H.F[n - 1]?=some (pr,l)) (hk:slotOf H n x<0) (hu:Chain H x pr ds h k):Chain H x q ((q,E)::ds) h k
theorem Chain.grows{H G:Hp}(hH:HOk H)(hG:HOk G)(h:Grows H G){x:ByteArray}{q:Nat}{ds:List (Nat×Nat)}{a k:Int}(hc:Chain H x q ds a k):Chain G x q ds a k:=by
 induction hc with
 |stop=>exact .stop
 |hit hq ho hE hs hn hF hk hk0 =>
  obtain⟨u,hu,e1,e2⟩:=h.obs _ _ ho
  exact .hit hq hu (by omega) (fun e=>by rw[e2 (by omega)];exact hs (by omega)) hn (h.F _ _ hF) (by rw[slotOf_grows hH hG h hn hF];exact hk) hk0
 |up hq ho hE hs hn hF hk _ ih =>
  obtain⟨u,hu,e1,e2⟩:=h.obs _ _ ho
  exact .up hq hu (by omega) (fun e=>by rw[e2 (by omega)];exact hs (by omega)) hn (h.F _ _ hF) (by rw[slotOf_grows hH hG h hn hF];exact hk) ih
def GetOk(H:Hp)(x:ByteArray)(e:Ent):Prop:=0<e.shape∧(e.to=0∧e.deps.length≤201)∧∃ pr l,H.F[e.shape - 1]?=some (pr,l) ∧
 ((e.holder=0∧e.deps=[]∧slotOf H e.shape x=e.slot∧0≤e.slot)∨(slotOf H e.shape x<0∧e.holder≠0∧Chain H x pr e.deps e.holder e.slot))
def SetOk(H:Hp)(x:ByteArray)(e:Ent):Prop:=0<e.shape∧e.holder=0∧e.deps=[]∧∃ pr l,H.F[e.shape - 1]?=some (pr,l) ∧
 ((e.to=0∧slotOf H e.shape x=e.slot∧0≤e.slot)∨(e.slot=0∧0<e.to∧∃ j,idxOf H.T x=some j∧H.F[e.to - 1]?=some (pr,(j+1)::l)))
theorem GetOk.grows{H G:Hp}(hH:HOk H)(hG:HOk G)(h:Grows H G){x:ByteArray}{e:Ent}(he:GetOk H x e):GetOk G x e:=by
 obtain⟨h1,h2,pr,l,h3,h4⟩:=he
 refine⟨h1,h2,pr,l,h.F _ _ h3,?_⟩
 rw[slotOf_grows hH hG h h1 h3]
 rcases h4 with h4|⟨h5,h6,h7⟩
 ·exact .inl h4
 ·exact .inr ⟨h5,h6,h7.grows hH hG h⟩
theorem SetOk.grows{H G:Hp}(hH:HOk H)(hG:HOk G)(h:Grows H G){x:ByteArray}{e:Ent}(he:SetOk H x e):SetOk G x e:=by
 obtain⟨h1,h2,h0,pr,l,h3,h4⟩:=he
 refine⟨h1,h2,h0,pr,l,h.F _ _ h3,?_⟩
 rw[slotOf_grows hH hG h h1 h3]
 rcases h4 with h4|⟨h5,h6,j,h7,h8⟩
 ·exact .inl h4
 ·exact .inr ⟨h5,h6,j,idx_of_get hG.nodup (h.T _ _ (idx_lt h7).2),h.F _ _ h8⟩
def holdsE(H:Hp)(e:Ent):Bool:=e.deps.all fun d=>epochV H d.1=d.2
def valE(H:Hp)(e:Ent)(o:Int):V3:=if 0<e.holder then (slotG H e.holder e.slot).getD z3 else if e.holder<0 then z3 else (slotG H o e.slot).getD z3
theorem slotG_own{H:Hp}(h:HOk H){i:Int}{o:Ob}(ho:obAt H i=some o)(hs:0<o.shape){x:ByteArray}(hk:0≤slotOf H o.shape x):∃ v,slotG H i (slotOf H o.shape x)=some v∧getP o.L x=some v:=by
 obtain⟨j,rfl,hj,hoj⟩:=obAt_some ho
 rcases slot_fits h hoj hs x with ⟨h1,_⟩|⟨k,v,h1,h2,h3⟩
 ·omega
 ·refine⟨v,?_,h3⟩
  unfold slotG
  rw[ho,h1]
  simp only
  rw[if_neg (by omega),if_pos (by omega),Int.toNat_natCast,h2]
  rfl
theorem slotG_nil{H:Hp}(h:HOk H){i:Int}{o:Ob}(ho:obAt H i=some o)(hs:0<o.shape){x:ByteArray}(hk:slotOf H o.shape x<0):getP o.L x=none:=by
 obtain⟨j,rfl,hj,hoj⟩:=obAt_some ho
 rcases slot_fits h hoj hs x with ⟨_,h1⟩|⟨k,v,h1,h2,h3⟩
 ·exact h1
 ·omega
theorem hpro_at{H:Hp}(h:HPro H){i:Int}{o:Ob}(ho:obAt H i=some o)(hs:0<o.shape){pr:Nat}{l:List Nat}(hF:H.F[o.shape - 1]?=some (pr,l)):o.proto=pr:=by
 obtain⟨j,rfl,hj,hoj⟩:=obAt_some ho
 obtain⟨l2,h2⟩:=h j o hoj hs
 rw[hF]at h2
 cases h2;rfl
theorem shapeV_some{H:Hp}{i:Int}(h:shapeV H i≠0):∃ o,obAt H i=some o∧shapeV H i=(o.shape:Int)∧0<o.shape:=by
 unfold shapeV at h ⊢
 cases ho:obAt H i with
 |none=>rw[ho]at h;exact absurd rfl h
 |some o=>rw[ho]at h;exact⟨o,rfl,rfl,by simp only at h;omega⟩
theorem Chain.get{H:Hp}(h:HOk H)(hp:HPro H){x:ByteArray}{q:Nat}{ds:List (Nat×Nat)}{a k:Int}(hc:Chain H x q ds a k)(hh:∀ d∈ds,epochV H d.1=d.2):GetR H x q (if 0<a then (slotG H a k).getD z3 else z3):=by
 induction hc with
 |stop=>exact .none (by unfold obAt;rfl)
 | @hit q E n pr l o k hq ho hE hs hn hF hk hk0 =>
  have he:=hh (q,E) (by simp)
  unfold epochV at he
  rw[ho]at he
  have hsn:=hs (by simp only at he;omega)
  obtain⟨v,h1,h2⟩:=slotG_own h ho (by omega) (x:=x) (by rw[hsn,hk];exact hk0)
  rw[hsn,hk]at h1
  rw[if_pos (by omega),h1]
  exact .own ho h2
 | @up q E n pr l o ds a k hq ho hE hs hn hF hk _ ih =>
  have he:=hh (q,E) (by simp)
  unfold epochV at he
  rw[ho]at he
  have hsn:=hs (by simp only at he;omega)
  have h2:=slotG_nil h ho (by omega) (x:=x) (by rw[hsn];exact hk)
  have h3:=hpro_at hp ho (by omega) (by rw[hsn];exact hF)
  refine .up ho h2 ?_
  rw[h3]
  exact ih fun d hd=>hh d (List.mem_cons_of_mem _ hd)
theorem GetOk.get{H:Hp}(h:HOk H)(hp:HPro H){x:ByteArray}{e:Ent}(he:GetOk H x e){o:Int}(ho:shapeV H o=(e.shape:Int))(hh:holdsE H e=true):GetR H x o (valE H e o):=by
 obtain⟨h1,_,pr,l,h3,h4⟩:=he
 obtain⟨ob,hob,hsh,hpos⟩:=shapeV_some (H:=H) (i:=o) (by omega)
 have hs:ob.shape=e.shape:=by omega
 have hall:∀ d∈e.deps,epochV H d.1=d.2:=fun d hd=>by
  unfold holdsE at hh
  exact of_decide_eq_true (List.all_eq_true.1 hh d hd)
 unfold valE
 rcases h4 with ⟨h5,h6,h7,h8⟩|⟨h5,h6,h7⟩
 ·rw[if_neg (by omega),if_neg (by omega)]
  obtain⟨v,g1,g2⟩:=slotG_own h hob hpos (x:=x) (by rw[hs,h7];exact h8)
  rw[hs,h7]at g1
  rw[g1]
  exact .own hob g2
 ·have g2:=slotG_nil h hob hpos (x:=x) (by rw[hs];exact h5)
  have g3:=hpro_at hp hob hpos (by rw[hs];exact h3)
  have:=h7.get h hp hall
  have e1:(if 0<e.holder then (slotG H e.holder e.slot).getD z3 else if e.holder<0 then z3 else (slotG H o e.slot).getD z3)=if 0<e.holder then (slotG H e.holder e.slot).getD z3 else z3:=by
   split
   ·rfl
   ·rw[if_pos (by omega)]
  rw[e1]
  exact .up hob g2 (by rw[g3];exact this)
theorem SetOk.put{H:Hp}(h:HOk H){x:ByteArray}{e:Ent}(he:SetOk H x e){o:Int}(ho:shapeV H o=(e.shape:Int))(ht:e.to=0)(v:V3):setH H o x v=putH H o e.slot v∧setE H o x=0:=by
 obtain⟨h1,_,_,pr,l,h3,h4⟩:=he
 obtain⟨ob,hob,hsh,hpos⟩:=shapeV_some (H:=H) (i:=o) (by omega)
 have hs:ob.shape=e.shape:=by omega
 rcases h4 with ⟨h5,h6,h7⟩|⟨_,h5,_⟩
 ·obtain⟨j,rfl,hj,hoj⟩:=obAt_some hob
  rcases slot_fits h hoj hpos x with ⟨g1,_⟩|⟨k,w,g1,g2,g3⟩
  ·rw[hs,h6]at g1;omega
  ·rw[hs,h6]at g1
   unfold setH putH setE
   rw[hob]
   simp only[g3,Option.isSome_some,if_true,and_true]
   rw[if_neg (by omega),if_pos (by omega),g1,Int.toNat_natCast,g2]
   simp only
   rw[setP_some (h.keys j ob hoj) g2]
 ·omega
theorem nodup_not{H:Hp}(hF:FOk H.F){i pr x:Nat}{l:List Nat}(h:H.F[i]?=some (pr,x::l)):x ∉ l∧l.length<12:=by
 obtain⟨h1,h2⟩:=hF.names _ _ _ h
 exact⟨(List.nodup_cons.1 h1).1,by simp at h2;omega⟩
theorem growN_has{F:List Sh}{most j:Nat}{t:Sh}(hF:FOk F)(h:F[j]?=some t):growN F most t=j+1∧growF F most t=F:=by
 have hm:=List.mem_of_getElem? h
 have:=hF.is h
 unfold shIs at this
 rw[if_pos hm]at this
 unfold growN growF
 rw[if_pos hm,if_pos hm]
 exact⟨Option.some.inj this,rfl⟩
theorem SetOk.grow{H:Hp}(h:HOk H)(hF:FOk H.F){x:ByteArray}{e:Ent}(he:SetOk H x e){o:Int}(ho:shapeV H o=(e.shape:Int))(ht:0<e.to)(v:V3):setH H o x v=growH H o e.to v∧setE H o x=growE H o e.to:=by
 obtain⟨h1,_,_,pr,l,h3,h4⟩:=he
 obtain⟨ob,hob,hsh,hpos⟩:=shapeV_some (H:=H) (i:=o) (by omega)
 have hs:ob.shape=e.shape:=by omega
 rcases h4 with ⟨h5,_⟩|⟨_,_,j,h5,h6⟩
 ·omega
 obtain⟨n1,n2⟩:=nodup_not hF h6
 have hslot:slotOf H ob.shape x<0:=by
  unfold slotOf
  rw[h5,hs,namesOf_at h1 h3]
  exact (slotL_neg _ _).2 n1
 have hno:=slotG_nil h hob hpos hslot
 have hto:shAt H.F (e.to:Int)=some (pr,(j+1)::l):=by rw[shAt_at ht,h6]
 have hpar:parId H.F (pr,(j+1)::l)=e.shape:=by
  obtain⟨k,hk,g2,g3⟩:=hF.par h6
  rw[g3]
  have:=hF.one g2 h3
  omega
 have hsha:shAt H.F (ob.shape:Int)=some (pr,l):=by rw[shAt_at hpos,hs,h3]
 have hofI:ofI H.T x=j+1:=by unfold ofI;rw[h5]
 have hgr:=growN_has (most:=H.most) hF h6
 have hcond:¬ (12≤l.length∨(j+1)∈l):=by
  rintro (hc|hc)
  ·omega
  ·exact n1 hc
 have hnN:nextN H ob.shape x=e.to:=by
  unfold nextN addN
  rw[hsha,hofI]
  simp only[Option.isSome_some,if_true,if_neg hcond]
  rw[hgr.1]
  omega
 have hnH:nextH H ob.shape x=H:=by
  have e1:addF H.F H.most ob.shape (j+1)=H.F:=by
   unfold addF
   rw[hsha]
   simp only[if_neg hcond]
   exact hgr.2
  unfold nextH
  rw[hsha,hofI,e1,ofT_some h5]
  rfl
 have hE:growE H o e.to=if H.maxP≤ob.L.length then 42 else 0:=by
  unfold growE
  rw[hob,hto]
  simp only
  rw[if_neg (by omega),if_neg (by rw[hpar,hs];exact fun hc=>hc rfl)]
 have hnm:namesOf H.F (e.to:Int)=(j+1)::l:=namesOf_at ht h6
 have htx:txt H.T (j+1)=x:=by
  have:=idx_lt h5
  have g:=txt_get (T:=H.T) (i:=j+1) (by omega) (by omega)
  rw[Nat.add_sub_cancel,this.2]at g
  exact (Option.some.inj g).symm
 refine⟨?_,?_⟩
 ·unfold setH growH
  rw[hE,hob]
  simp only[hno,Option.isSome_none,Bool.false_eq_true,if_false]
  by_cases hm:H.maxP≤ob.L.length
  ·rw[if_pos hm,if_pos hm,if_neg (by omega)]
  ·rw[if_neg hm,if_neg hm,if_pos rfl,if_neg (by omega),hnH,hnN,hnm,setP_none _ _ _ hno]
   simp only[List.headD_cons,htx,Int.toNat_natCast]
 ·rw[hE]
  unfold setE
  rw[hob]
  simp only[hno,Option.isSome_none,Bool.false_eq_true,if_false]
inductive LookR (H:Hp) (x:ByteArray):Int→Option (List (Nat×Nat)×Int×Int)→Prop
 |stop:LookR H x 0 (some ([],-1,0))
 |loose {p:Int}(h:p≠0) (hs:shapeV H p=0):LookR H x p none
 |hit {p:Int}(h:p≠0) (hs:shapeV H p≠0) (hk:0≤slotOf H (shapeV H p) x):LookR H x p (some ([(p.toNat,(epochV H p).toNat)],p,slotOf H (shapeV H p) x))
 |up {p:Int}{r:Option (List (Nat×Nat)×Int×Int)}(h:p≠0) (hs:shapeV H p≠0) (hk:slotOf H (shapeV H p) x<0) (hu:LookR H x (protoV H p) r):LookR H x p (r.map fun q=>((p.toNat,(epochV H p).toNat)::q.1,q.2.1,q.2.2))
theorem fits_at{H:Hp}(h:HOk H)(hp:HPro H){i:Int}{o:Ob}(ho:obAt H i=some o)(hs:0<o.shape):∃ l,H.F[o.shape - 1]?=some (o.proto,l):=by
 obtain⟨j,rfl,hj,hoj⟩:=obAt_some ho
 exact hp j o hoj hs
theorem LookR.chain{H:Hp}(h:HOk H)(hp:HPro H){x:ByteArray}{p:Int}{r:Option (List (Nat×Nat)×Int×Int)}(hr:LookR H x p r):∀ q,r=some q→0≤p∧Chain H x p.toNat q.1 q.2.1 q.2.2∧q.2.1≠0:=by
 induction hr with
 |stop=>intro q hq;cases hq;exact⟨Int.le_refl _,.stop,by decide⟩
 |loose=>intro q hq;cases hq
 | @hit p h0 hs hk =>
  intro q hq
  cases hq
  obtain⟨o,ho,e1,e2⟩:=shapeV_some hs
  obtain⟨l,hl⟩:=fits_at h hp ho e2
  obtain⟨j,rfl,hj,hoj⟩:=obAt_some ho
  rw[e1]at hk ⊢
  have he:epochV H ((j+1:Nat):Int)=(o.epoch:Int):=by unfold epochV;rw[ho]
  refine⟨by omega,?_,by show ((j+1:Nat):Int)≠0;omega⟩
  rw[he,Int.toNat_natCast,Int.toNat_natCast]
  exact .hit (by omega) ho (Nat.le_refl _) (fun _=>rfl) e2 hl rfl hk
 | @up p r h0 hs hk _ ih =>
  intro q hq
  obtain⟨o,ho,e1,e2⟩:=shapeV_some hs
  obtain⟨l,hl⟩:=fits_at h hp ho e2
  obtain⟨j,rfl,hj,hoj⟩:=obAt_some ho
  rw[e1]at hk
  have he:epochV H ((j+1:Nat):Int)=(o.epoch:Int):=by unfold epochV;rw[ho]
  have hpr:protoV H ((j+1:Nat):Int)=(o.proto:Int):=by unfold protoV;rw[ho]
  obtain⟨q0,rfl,rfl⟩:=Option.map_eq_some_iff.1 hq
  obtain⟨g1,g2,g3⟩:=ih q0 rfl
  rw[hpr,Int.toNat_natCast]at g2
  refine⟨by omega,?_,g3⟩
  rw[he,Int.toNat_natCast,Int.toNat_natCast]
  exact .up (by omega) ho (Nat.le_refl _) (fun _=>rfl) e2 hl hk g2
theorem LookR.len{H:Hp}{d:Nat→Nat}(hd:Deep H d){x:ByteArray}{p:Int}{r:Option (List (Nat×Nat)×Int×Int)}(hr:LookR H x p r):∀ q,r=some q→(p=0→q.1.length=0)∧q.1.length≤d p.toNat+1:=by
 induction hr with
 |stop=>intro q hq;cases hq;exact⟨fun _=>rfl,Nat.zero_le _⟩
 |loose=>intro q hq;cases hq
 |hit h0=>intro q hq;cases hq;exact⟨fun h=>absurd h h0,by simp⟩
 | @up p r h0 hs hk _ ih =>
  intro q hq
  obtain⟨o,ho,e1,e2⟩:=shapeV_some hs
  obtain⟨j,rfl,hj,hoj⟩:=obAt_some ho
  have hpr:protoV H ((j+1:Nat):Int)=(o.proto:Int):=by unfold protoV;rw[ho]
  obtain⟨q0,rfl,rfl⟩:=Option.map_eq_some_iff.1 hq
  obtain⟨g1,g2⟩:=ih q0 rfl
  rw[hpr,Int.toNat_natCast]at g2
  rw[hpr]at g1
  refine⟨fun h=>absurd h h0,?_⟩
  rw[Int.toNat_natCast]
  simp only[List.length_cons]
  rcases hd j o hoj with h1|⟨_,h1⟩
  ·have:=g1 (by rw[h1];rfl);omega
  ·omega
theorem LookR.few{H:Hp}(h:HOk H){x:ByteArray}{o:Int}{r:Option (List (Nat×Nat)×Int×Int)}(hr:LookR H x (protoV H o) r):∀ q,r=some q→q.1.length≤201:=by
 intro q hq
 obtain⟨d,hd,hdl⟩:=deep_few h
 have hlim:=h.lim
 obtain⟨g1,g2⟩:=hr.len hd q hq
 have hpv:protoV H o=0∨∃ j:Nat,j<H.obs.length∧protoV H o=((j+1:Nat):Int):=by
  unfold protoV
  split
  ·rename_i o' ho'
   obtain⟨j,rfl,hj,hoj⟩:=obAt_some ho'
   by_cases h0:o'.proto=0
   ·exact .inl (by rw[h0];rfl)
   ·rcases hd j o' hoj with h1|⟨h1,_⟩
    ·exact absurd h1 h0
    ·exact .inr ⟨o'.proto - 1,by omega,by omega⟩
  ·exact .inl rfl
 rcases hpv with h0|⟨j,hj,h0⟩
 ·have:=g1 h0;omega
 ·rw[h0,Int.toNat_natCast]at g2
  have:=hdl j hj
  omega
def LookE(H:Hp)(x:ByteArray)(o:Int)(r:Option Ent):Prop:=
 if 0≤slotOf H (shapeV H o) x then r=some ⟨(shapeV H o).toNat,0,slotOf H (shapeV H o) x,0,[]⟩
 else ∃ q,LookR H x (protoV H o) q∧r=q.map fun q=>⟨(shapeV H o).toNat,q.2.1,q.2.2,0,q.1⟩
theorem LookE.ok{H:Hp}(h:HOk H)(hp:HPro H){x:ByteArray}{o:Int}{e:Ent}(ho:shapeV H o≠0)(he:LookE H x o (some e)):GetOk H x e∧(e.shape:Int)=shapeV H o:=by
 obtain⟨ob,hob,e1,e2⟩:=shapeV_some ho
 obtain⟨l,hl⟩:=fits_at h hp hob e2
 unfold LookE at he
 rw[e1]at he ⊢
 split at he
 ·rename_i hk
  cases he
  exact⟨⟨by simpa using e2,⟨rfl,by simp⟩,ob.proto,l,by simpa using hl,.inl ⟨rfl,rfl,by simp,hk⟩⟩,by simp⟩
 ·rename_i hk
  obtain⟨q,h1,h2⟩:=he
  obtain⟨q0,rfl,rfl⟩:=Option.map_eq_some_iff.1 h2.symm
  have hpr:protoV H o=(ob.proto:Int):=by unfold protoV;rw[hob]
  have hfew:=h1.few h q0 rfl
  rw[hpr]at h1
  obtain⟨_,g2,g3⟩:=h1.chain h hp q0 rfl
  rw[Int.toNat_natCast]at g2
  exact⟨⟨by simpa using e2,⟨rfl,hfew⟩,ob.proto,l,by simpa using hl,.inr ⟨by simp only[Int.toNat_natCast];omega,g3,g2⟩⟩,by simp⟩
theorem LookR.one{H:Hp}{x:ByteArray}{p:Int}{a b:Option (List (Nat×Nat)×Int×Int)}(h1:LookR H x p a)(h2:LookR H x p b):a=b:=by
 induction h1 generalizing b with
 |stop=>cases h2 with
  |stop=>rfl
  |loose h=>exact absurd rfl h
  |hit h=>exact absurd rfl h
  |up h=>exact absurd rfl h
 |loose h hs=>cases h2 with
  |stop=>exact absurd rfl h
  |loose=>rfl
  |hit _ h3=>exact absurd hs h3
  |up _ h3=>exact absurd hs h3
 |hit h hs hk=>cases h2 with
  |stop=>exact absurd rfl h
  |loose _ h3=>exact absurd h3 hs
  |hit=>rfl
  |up _ _ h3=>omega
 |up h hs hk _ ih=>cases h2 with
  |stop=>exact absurd rfl h
  |loose _ h3=>exact absurd h3 hs
  |hit _ _ h3=>omega
  |up _ _ _ h3=>rw[ih h3]
theorem LookE.one{H:Hp}{x:ByteArray}{o:Int}{a b:Option Ent}(h1:LookE H x o a)(h2:LookE H x o b):a=b:=by
 unfold LookE at h1 h2
 split at h1
 ·rename_i hk
  rw[if_pos hk]at h2
  rw[h1,h2]
 ·rename_i hk
  rw[if_neg hk]at h2
  obtain⟨q,h3,rfl⟩:=h1
  obtain⟨q2,h4,rfl⟩:=h2
  rw[h3.one h4]
theorem set_new{H:Hp}(h:HOk H)(hp:HPro H){o:Int}{x:ByteArray}{v:V3}(ho:shapeV H o≠0)(he:setE H o x=0)(hs:shapeV (setH H o x v) o≠0) :
  SetOk (setH H o x v) x (if 0≤slotOf H (shapeV H o) x then ⟨(shapeV H o).toNat,0,slotOf H (shapeV H o) x,0,[]⟩ else ⟨(shapeV H o).toNat,0,0,(shapeV (setH H o x v) o).toNat,[]⟩):=by
 have hg:=set_grows H o x v
 have hok:=set_ok h o x v
 obtain⟨ob,hob,e1,e2⟩:=shapeV_some ho
 obtain⟨l,hl⟩:=fits_at h hp hob e2
 rw[e1]
 split
 ·rename_i hk
  exact⟨by simpa using e2,rfl,rfl,ob.proto,l,by simpa using hg.F _ _ hl,.inl ⟨rfl,by simp only[Int.toNat_natCast];exact slotOf_grows h hok hg e2 hl x,hk⟩⟩
 ·rename_i hk
  have hno:=slotG_nil h hob e2 (x:=x) (by omega)
  have hlt:¬ H.maxP≤ob.L.length:=by
   unfold setE at he
   rw[hob]at he
   simp only[hno,Option.isSome_none,Bool.false_eq_true,if_false]at he
   intro hc
   rw[if_pos hc]at he
   omega
  have hset:setH H o x v=putO (nextH H ob.shape x) o { L:=setP ob.L x v,shape:=nextN H ob.shape x,proto:=ob.proto,epoch:=ob.epoch+1 }:=by
   unfold setH
   rw[hob]
   simp only[hno,Option.isSome_none,Bool.false_eq_true,if_false]
   rw[if_neg hlt,if_neg (by omega)]
  have hob2:obAt (nextH H ob.shape x) o=some ob:=by
   unfold obAt
   rw[(next_obs _ _ _).1]
   exact hob
  have hsh:shapeV (setH H o x v) o=(nextN H ob.shape x:Int):=by
   unfold shapeV
   rw[hset,obAt_putO hob2,if_pos rfl]
  rw[hsh]at hs ⊢
  have hpos:0<nextN H ob.shape x:=by omega
  obtain⟨g1,g2⟩:=nextN_get h (x:=x) e2 hl hpos
  have hT:(setH H o x v).T=ofT H.T x:=by
   rw[hset]
   show (nextH H ob.shape x).T=_
   unfold nextH
   rw[shAt_at e2,hl]
   rfl
  have hF:(setH H o x v).F=(nextH H ob.shape x).F:=by rw[hset];rfl
  have hofI:=ofI_ok H.T x
  refine⟨by simpa using e2,rfl,rfl,ob.proto,l,by simpa using hg.F _ _ hl,.inr ⟨rfl,by simpa using hpos,ofI H.T x - 1,?_,?_⟩⟩
  ·rw[hT]
   refine idx_of_get (ofT_nodup h.nodup x) ?_
   rw[txt_get hofI.1 hofI.2.1,hofI.2.2]
  ·rw[hF,Nat.sub_add_cancel hofI.1]
   simpa using g1
theorem slotOf_lt{H:Hp}(hF:FOk H.F){n:Nat}{t:Sh}(hn:0<n)(h:H.F[n - 1]?=some t)(x:ByteArray) : -1≤slotOf H n x∧slotOf H n x≤12:=by
 have h2:=(hF.names _ t.1 t.2 h).2
 unfold slotOf
 rw[namesOf_at hn h]
 split
 ·omega
 ·rename_i j _
  have:=slotL_ge t.2 (j+1)
  have:=slotL_le t.2 (j+1)
  omega
theorem Chain.small{H:Hp}(h:HOk H)(hF:FOk H.F){x:ByteArray}{q:Nat}{ds:List (Nat×Nat)}{a k:Int}(hc:Chain H x q ds a k) : -1≤a∧a≤200∧0≤k∧k≤12∧∀ d∈ds,d.1≤200:=by
 have hlim:=h.lim
 induction hc with
 |stop=>exact⟨by omega,by omega,by omega,by omega,fun d hd=>by cases hd⟩
 | @hit q E n pr l o k hq ho hE hs hn hFn hk hk0 =>
  obtain⟨j,hj,hjl,_⟩:=obAt_some ho
  have:=slotOf_lt hF hn hFn x
  exact⟨by omega,by omega,by omega,by omega,fun d hd=>by rw[List.mem_singleton.1 hd];show q≤200;omega⟩
 | @up q E n pr l o ds a k hq ho hE hs hn hFn hk _ ih =>
  obtain⟨j,hj,hjl,_⟩:=obAt_some ho
  obtain⟨h1,h2,h3,h4,h5⟩:=ih
  exact⟨h1,h2,h3,h4,fun d hd=>by
   rcases List.mem_cons.1 hd with rfl|hd
   ·show q≤200;omega
   ·exact h5 d hd⟩
theorem GetOk.small{H:Hp}(h:HOk H)(hF:FOk H.F){x:ByteArray}{e:Ent}(he:GetOk H x e) : -1≤e.holder∧e.holder≤200∧0≤e.slot∧e.slot≤12∧e.deps.length≤201∧∀ d∈e.deps,d.1≤200:=by
 obtain⟨h1,⟨_,h2⟩,pr,l,h3,h4⟩:=he
 rcases h4 with ⟨h5,h6,h7,h8⟩|⟨h5,h6,h7⟩
 ·have:=slotOf_lt hF h1 h3 x
  refine⟨by omega,by omega,by omega,by omega,h2,?_⟩
  rw[h6];intro d hd;cases hd
 ·obtain⟨g1,g2,g3,g4,g5⟩:=h7.small h hF
  exact⟨g1,g2,g3,g4,h2,g5⟩
theorem SetOk.small{H:Hp}(h:HOk H)(hF:FOk H.F){x:ByteArray}{e:Ent}(he:SetOk H x e):0≤e.slot∧e.slot≤12∧e.to≤H.F.length:=by
 obtain⟨h1,_,_,pr,l,h3,h4⟩:=he
 rcases h4 with ⟨h5,h6,h7⟩|⟨h5,h6,j,h7,h8⟩
 ·have:=slotOf_lt hF h1 h3 x
  exact⟨by omega,by omega,by omega⟩
 ·have:=(List.getElem?_eq_some_iff.1 h8).1
  exact⟨by omega,by omega,by omega⟩
def s0:Sit:=⟨false,false,false,⟨#[]⟩,[]⟩
def e0:Ent:=⟨0,0,0,0,[]⟩
structure Tab where
 fs:Nat
 n:Nat→Nat
 st:Nat→Nat→Sit
 hits:Nat
 misses:Nat
def hasT(T:Tab)(f k:Int):Prop:=0≤f∧f<T.fs∧0≤k∧k<T.n f.toNat
instance (T:Tab)(f k:Int):Decidable (hasT T f k):=inferInstanceAs (Decidable (_∧_∧_∧_))
def siteAt(T:Tab)(f k:Int):Sit:=T.st f.toNat k.toNat
def putT(T:Tab)(f k:Int)(z:Sit):Tab:={ T with st:=fun a b=>if a=f.toNat∧b=k.toNat then z else T.st a b }
def hitT(T:Tab):Tab:={ T with hits:=T.hits+1 }
def missT(T:Tab):Tab:={ T with misses:=T.misses+1 }
def playsB(z:Sit)(w:Bool)(x:ByteArray):Bool:=if z.mega then false else if z.used then decide (z.sets=w) && decide (z.name=x) else true
def playsS(z:Sit)(w:Bool)(x:ByteArray):Sit:=if z.used then z else { z with used:=true,sets:=w,name:=x }
def hitI(es:List Ent)(sh:Int):Option Nat:=es.findIdx? fun e=>decide ((e.shape:Int)=sh)
def keepS(z:Sit)(e:Ent):Sit:=match hitI z.es e.shape with
 |some i=>{ z with es:=z.es.set i e }
 |none=>if 4≤z.es.length then { z with es:=[],mega:=true } else { z with es:=z.es ++ [e] }
def keepO(z:Sit)(r:Option Ent):Sit:=match r with
 |some e=>keepS z e
 |none=>z
def getT(H:Hp)(T:Tab)(f k o:Int)(x:ByteArray)(r:Option Ent):Tab:=
 if shapeV H o=0 then missT T else if ¬ hasT T f k then missT T else if playsB (siteAt T f k) false x=false then missT T
 else match hitI (playsS (siteAt T f k) false x).es (shapeV H o) with
  |some i=>if holdsE H ((playsS (siteAt T f k) false x).es.getD i e0)=true then hitT (putT T f k (playsS (siteAt T f k) false x)) else missT (putT T f k (keepO (playsS (siteAt T f k) false x) r))
  |none=>missT (putT T f k (keepO (playsS (siteAt T f k) false x) r))
def newE(H:Hp)(o:Int)(x:ByteArray)(v:V3):Ent:=if 0≤slotOf H (shapeV H o) x then ⟨(shapeV H o).toNat,0,slotOf H (shapeV H o) x,0,[]⟩ else ⟨(shapeV H o).toNat,0,0,(shapeV (setH H o x v) o).toNat,[]⟩
def setT(H:Hp)(T:Tab)(f k o:Int)(x:ByteArray)(v:V3):Tab:=
 if shapeV H o=0 then missT T else if ¬ hasT T f k then missT T else if playsB (siteAt T f k) true x=false then missT T
 else match hitI (playsS (siteAt T f k) true x).es (shapeV H o) with
  |some _=>hitT (putT T f k (playsS (siteAt T f k) true x))
  |none=>if setE H o x=0∧shapeV (setH H o x v) o≠0 then missT (putT T f k (keepS (playsS (siteAt T f k) true x) (newE H o x v))) else missT (putT T f k (playsS (siteAt T f k) true x))
def flushT(T:Tab)(f:Int)(m:Bool):Tab:=if 0≤f∧f<T.fs then { T with st:=fun a b=>if a=f.toNat∧b<T.n a then { s0 with mega:=m || (T.st a b).mega } else T.st a b } else T
structure SitOk(H:Hp)(z:Sit):Prop where
 few:z.es.length≤4
 mega:z.mega=true→z.es=[]
 fresh:z.used=false→z.es=[]
 apart:(z.es.map (·.shape)).Nodup
 gets:z.sets=false→∀ e∈z.es,GetOk H z.name e
 sets:z.sets=true→∀ e∈z.es,SetOk H z.name e
def TabOk(H:Hp)(T:Tab):Prop:=∀ a b,a<T.fs→b<T.n a→SitOk H (T.st a b)
theorem s0_ok(H:Hp)(m:Bool):SitOk H { s0 with mega:=m }:=⟨Nat.zero_le _,fun _=>rfl,fun _=>rfl,List.nodup_nil,fun _ e he=>(by cases he),fun _ e he=>(by cases he)⟩
theorem SitOk.grows{H G:Hp}(hH:HOk H)(hG:HOk G)(h:Grows H G){z:Sit}(hz:SitOk H z):SitOk G z:=
 ⟨hz.few,hz.mega,hz.fresh,hz.apart,fun e a ha=>(hz.gets e a ha).grows hH hG h,fun e a ha=>(hz.sets e a ha).grows hH hG h⟩
theorem TabOk.grows{H G:Hp}(hH:HOk H)(hG:HOk G)(h:Grows H G){T:Tab}(hT:TabOk H T):TabOk G T:=fun a b h1 h2=>(hT a b h1 h2).grows hH hG h
theorem TabOk.put{H:Hp}{T:Tab}(hT:TabOk H T){f k:Int}{z:Sit}(hz:SitOk H z):TabOk H (putT T f k z):=fun a b h1 h2=>by
 show SitOk H (if a=f.toNat∧b=k.toNat then z else T.st a b)
 split
 ·exact hz
 ·exact hT a b h1 h2
theorem TabOk.miss{H:Hp}{T:Tab}(hT:TabOk H T):TabOk H (missT T):=hT
theorem TabOk.hit{H:Hp}{T:Tab}(hT:TabOk H T):TabOk H (hitT T):=hT
theorem TabOk.has{H:Hp}{T:Tab}(hT:TabOk H T){f k:Int}(h:hasT T f k):SitOk H (siteAt T f k):=hT _ _ (by have:=h.1;have:=h.2.1;omega) (by have:=h.2.2;omega)
theorem TabOk.flush{H:Hp}{T:Tab}(hT:TabOk H T)(f:Int)(m:Bool):TabOk H (flushT T f m):=by
 unfold flushT
 split
 ·intro a b h1 h2
  show SitOk H (if a=f.toNat∧b<T.n a then { s0 with mega:=m || (T.st a b).mega } else T.st a b)
  split
  ·exact s0_ok H _
  ·exact hT a b h1 h2
 ·exact hT
theorem hitI_some{es:List Ent}{sh:Int}{i:Nat}(h:hitI es sh=some i):∃ e,es[i]?=some e∧(e.shape:Int)=sh∧es.getD i e0=e:=by
 unfold hitI at h
 rw[List.findIdx?_eq_some_iff_getElem]at h
 obtain⟨hi,h1,_⟩:=h
 exact⟨es[i],List.getElem?_eq_getElem hi,of_decide_eq_true h1,by rw[List.getD_eq_getElem?_getD,List.getElem?_eq_getElem hi];rfl⟩
theorem hitI_none{es:List Ent}{sh:Int}(h:hitI es sh=none):∀ e∈es,(e.shape:Int)≠sh:=by
 unfold hitI at h
 rw[List.findIdx?_eq_none_iff]at h
 intro e he
 exact of_decide_eq_false (h e he)
theorem plays_ok{H:Hp}{z:Sit}(hz:SitOk H z)(w:Bool)(x:ByteArray):SitOk H (playsS z w x):=by
 unfold playsS
 cases hu:z.used with
 |true=>simp only[if_true];exact hz
 |false =>
  have:=hz.fresh hu
  simp only[Bool.false_eq_true,if_false]
  exact⟨hz.few,hz.mega,fun h=>(by cases h),hz.apart,fun _ e he=>(by rw[this]at he;cases he),fun _ e he=>(by rw[this]at he;cases he)⟩
theorem plays_is{z:Sit}{w:Bool}{x:ByteArray}(h:playsB z w x=true):z.mega=false∧(playsS z w x).sets=w∧(playsS z w x).name=x∧(playsS z w x).used=true∧(playsS z w x).mega=false∧(playsS z w x).es=z.es:=by
 unfold playsB at h
 cases hm:z.mega with
 |true=>rw[hm]at h;simp at h
 |false =>
  rw[hm]at h
  simp only[Bool.false_eq_true,if_false]at h
  unfold playsS
  cases hu:z.used with
  |true =>
   rw[hu]at h
   simp only[if_true,Bool.and_eq_true,decide_eq_true_eq]at h ⊢
   exact⟨trivial,h.1,h.2,hu,hm,trivial⟩
  |false =>
   simp only[Bool.false_eq_true,if_false]
   exact⟨trivial,trivial,trivial,trivial,hm,trivial⟩
theorem nodup_set{es:List Ent}(h:(es.map (·.shape)).Nodup){i:Nat}{e u:Ent}(hi:es[i]?=some u)(hs:u.shape=e.shape):((es.set i e).map (·.shape)).Nodup:=by
 have:(es.set i e).map (·.shape)=es.map (·.shape):=by
  apply List.ext_getElem?
  intro j
  rw[List.getElem?_map,List.getElem?_map,List.getElem?_set]
  split
  ·rename_i e1
   subst e1
   rw[if_pos (List.getElem?_eq_some_iff.1 hi).1,hi]
   simp[hs]
  ·rfl
 rw[this];exact h
theorem mem_set{α:Type}{l:List α}{i:Nat}{a b:α}(h:b∈l.set i a):b∈l∨b=a:=List.mem_or_eq_of_mem_set h
theorem keep_ok{H:Hp}{z:Sit}(hz:SitOk H z)(hu:z.used=true)(hm:z.mega=false){e:Ent}(hg:z.sets=false→GetOk H z.name e)(hs:z.sets=true→SetOk H z.name e):SitOk H (keepS z e):=by
 unfold keepS
 cases hi:hitI z.es e.shape with
 |some i =>
  obtain⟨u,h1,h2,_⟩:=hitI_some hi
  refine⟨by simpa using hz.few,fun h=>(by rw[hm]at h;cases h),fun h=>(by rw[hu]at h;cases h),nodup_set hz.apart h1 (by omega),fun h a ha=>?_,fun h a ha=>?_⟩
  ·rcases mem_set ha with ha|rfl
   ·exact hz.gets h a ha
   ·exact hg h
  ·rcases mem_set ha with ha|rfl
   ·exact hz.sets h a ha
   ·exact hs h
 |none =>
  simp only
  split
  ·exact⟨Nat.zero_le _,fun _=>rfl,fun _=>rfl,List.nodup_nil,fun _ a ha=>(by cases ha),fun _ a ha=>(by cases ha)⟩
  ·rename_i hl
   have hn:=hitI_none hi
   refine⟨by simp;omega,fun h=>(by rw[hm]at h;cases h),fun h=>(by rw[hu]at h;cases h),?_,fun h a ha=>?_,fun h a ha=>?_⟩
   ·show ((z.es ++ [e]).map (·.shape)).Nodup
    rw[List.map_append,List.nodup_append]
    refine⟨hz.apart,by simp,fun a ha b hb e2=>?_⟩
    simp only[List.map_cons,List.map_nil,List.mem_singleton]at hb
    subst hb;subst e2
    obtain⟨u,hu1,hu2⟩:=List.mem_map.1 ha
    exact hn u hu1 (by omega)
   ·rcases List.mem_append.1 ha with ha|ha
    ·exact hz.gets h a ha
    ·rw[List.mem_singleton.1 ha];exact hg h
   ·rcases List.mem_append.1 ha with ha|ha
    ·exact hz.sets h a ha
    ·rw[List.mem_singleton.1 ha];exact hs h
theorem get_ok{H:Hp}(h:HOk H)(hp:HPro H){T:Tab}(hT:TabOk H T){f k o:Int}{x:ByteArray}{r:Option Ent}(hr:LookE H x o r):TabOk H (getT H T f k o x r):=by
 unfold getT
 split
 ·exact hT.miss
 ·rename_i h0
  split
  ·exact hT.miss
  ·rename_i h1
   have hz:=hT.has (Decidable.not_not.1 h1)
   split
   ·exact hT.miss
   ·rename_i h2
    have hpl:=plays_is (Bool.not_eq_false _▸h2)
    have hk:SitOk H (keepO (playsS (siteAt T f k) false x) r):=by
     cases r with
     |none=>exact plays_ok hz false x
     |some e=>exact keep_ok (plays_ok hz false x) hpl.2.2.2.1 hpl.2.2.2.2.1 (fun _=>by rw[hpl.2.2.1];exact (hr.ok h hp h0).1) (fun hs=>by rw[hpl.2.1]at hs;cases hs)
    split
    ·split
     ·exact (hT.put (plays_ok hz false x)).hit
     ·exact (hT.put hk).miss
    ·exact (hT.put hk).miss
theorem get_hit{H:Hp}(h:HOk H)(hp:HPro H){z:Sit}(hz:SitOk H z){x:ByteArray}{o:Int}{i:Nat}(hpl:playsB z false x=true)(hi:hitI (playsS z false x).es (shapeV H o)=some i)(hh:holdsE H ((playsS z false x).es.getD i e0)=true):GetR H x o (valE H ((playsS z false x).es.getD i e0) o):=by
 obtain⟨e,h1,h2,h3⟩:=hitI_some hi
 have hp2:=plays_is hpl
 rw[h3]at hh ⊢
 have:=(plays_ok hz false x).gets hp2.2.1 e (List.mem_of_getElem? h1)
 rw[hp2.2.2.1]at this
 exact this.get h hp h2.symm hh
theorem set_hit{H:Hp}{z:Sit}(hz:SitOk H z){x:ByteArray}{o:Int}{i:Nat}(hpl:playsB z true x=true)(hi:hitI (playsS z true x).es (shapeV H o)=some i):∃ e,(playsS z true x).es.getD i e0=e∧(playsS z true x).es[i]?=some e∧shapeV H o=(e.shape:Int)∧SetOk H x e:=by
 obtain⟨e,h1,h2,h3⟩:=hitI_some hi
 have hp2:=plays_is hpl
 have:=(plays_ok hz true x).sets hp2.2.1 e (List.mem_of_getElem? h1)
 rw[hp2.2.2.1]at this
 exact⟨e,h3,h1,h2.symm,this⟩
theorem set_tab{H:Hp}(h:HOk H)(hp:HPro H){T:Tab}(hT:TabOk H T)(f k o:Int)(x:ByteArray)(v:V3):TabOk (setH H o x v) (setT H T f k o x v):=by
 have hT':=hT.grows h (set_ok h o x v) (set_grows H o x v)
 unfold setT
 split
 ·exact hT'.miss
 ·rename_i h0
  split
  ·exact hT'.miss
  ·rename_i h1
   have hz:=hT'.has (Decidable.not_not.1 h1)
   split
   ·exact hT'.miss
   ·rename_i h2
    have hpl:=plays_is (Bool.not_eq_false _▸h2)
    split
    ·exact (hT'.put (plays_ok hz true x)).hit
    ·split
     ·rename_i h3
      refine (hT'.put (keep_ok (plays_ok hz true x) hpl.2.2.2.1 hpl.2.2.2.2.1 (fun hs=>?_) (fun _=>?_))).miss
      ·rw[hpl.2.1]at hs;cases hs
      ·rw[hpl.2.2.1]
       exact set_new h hp h0 h3.1 h3.2
     ·exact (hT'.put (plays_ok hz true x)).miss
theorem getT_n(H:Hp)(T:Tab)(f k o:Int)(x:ByteArray)(r:Option Ent):(getT H T f k o x r).fs=T.fs∧(getT H T f k o x r).n=T.n∧(getT H T f k o x r).hits≤T.hits+1∧(getT H T f k o x r).misses≤T.misses+1:=by
 unfold getT
 split
 ·exact⟨rfl,rfl,Nat.le_succ _,Nat.le_refl _⟩
 ·split
  ·exact⟨rfl,rfl,Nat.le_succ _,Nat.le_refl _⟩
  ·split
   ·exact⟨rfl,rfl,Nat.le_succ _,Nat.le_refl _⟩
   ·split
    ·split
     ·exact⟨rfl,rfl,Nat.le_refl _,Nat.le_succ _⟩
     ·exact⟨rfl,rfl,Nat.le_succ _,Nat.le_refl _⟩
    ·exact⟨rfl,rfl,Nat.le_succ _,Nat.le_refl _⟩
theorem setT_n(H:Hp)(T:Tab)(f k o:Int)(x:ByteArray)(v:V3):(setT H T f k o x v).fs=T.fs∧(setT H T f k o x v).n=T.n∧(setT H T f k o x v).hits≤T.hits+1∧(setT H T f k o x v).misses≤T.misses+1:=by
 unfold setT
 split
 ·exact⟨rfl,rfl,Nat.le_succ _,Nat.le_refl _⟩
 ·split
  ·exact⟨rfl,rfl,Nat.le_succ _,Nat.le_refl _⟩
  ·split
   ·exact⟨rfl,rfl,Nat.le_succ _,Nat.le_refl _⟩
   ·split
    ·exact⟨rfl,rfl,Nat.le_refl _,Nat.le_succ _⟩
    ·split
     ·exact⟨rfl,rfl,Nat.le_succ _,Nat.le_refl _⟩
     ·exact⟨rfl,rfl,Nat.le_succ _,Nat.le_refl _⟩
theorem lookR_total{H:Hp}(h:HOk H)(x:ByteArray):∀ p:Int,0≤p→∃ r,LookR H x p r:=by
 obtain⟨d,hd⟩:=h.up
 have key:∀ n:Nat,∀ p:Int,0≤p→d p.toNat≤n→∃ r,LookR H x p r:=by
  intro n
  induction n with
  |zero =>
   intro p hp hn
   by_cases h0:p=0
   ·subst h0;exact⟨_,.stop⟩
   by_cases hs:shapeV H p=0
   ·exact⟨_,.loose h0 hs⟩
   by_cases hk:0≤slotOf H (shapeV H p) x
   ·exact⟨_,.hit h0 hs hk⟩
   obtain⟨o,ho,_,_⟩:=shapeV_some hs
   have hpr:protoV H p=(o.proto:Int):=by unfold protoV;rw[ho]
   obtain⟨j,rfl,hj,hoj⟩:=obAt_some ho
   rcases hd j o hoj with h1|⟨_,h1⟩
   ·exact⟨_,.up h0 hs (by omega) (by rw[hpr,h1];exact .stop)⟩
   ·rw[Int.toNat_natCast]at hn;omega
  |succ n ih =>
   intro p hp hn
   by_cases h0:p=0
   ·subst h0;exact⟨_,.stop⟩
   by_cases hs:shapeV H p=0
   ·exact⟨_,.loose h0 hs⟩
   by_cases hk:0≤slotOf H (shapeV H p) x
   ·exact⟨_,.hit h0 hs hk⟩
   obtain⟨o,ho,_,_⟩:=shapeV_some hs
   have hpr:protoV H p=(o.proto:Int):=by unfold protoV;rw[ho]
   obtain⟨j,rfl,hj,hoj⟩:=obAt_some ho
   rcases hd j o hoj with h1|⟨_,h1⟩
   ·exact⟨_,.up h0 hs (by omega) (by rw[hpr,h1];exact .stop)⟩
   ·rw[Int.toNat_natCast]at hn
    obtain⟨r,hr⟩:=ih (protoV H ((j+1:Nat):Int)) (by rw[hpr];omega) (by rw[hpr,Int.toNat_natCast];omega)
    exact⟨_,.up h0 hs (by omega) hr⟩
 exact fun p hp=>key _ p hp (Nat.le_refl _)
theorem look_total{H:Hp}(h:HOk H)(x:ByteArray)(o:Int):∃ r,LookE H x o r:=by
 unfold LookE
 by_cases hk:0≤slotOf H (shapeV H o) x
 ·exact⟨_,by rw[if_pos hk]⟩
 ·have hp:0≤protoV H o:=by unfold protoV;split<;>omega
  obtain⟨r,hr⟩:=lookR_total h x _ hp
  exact⟨_,by rw[if_neg hk];exact⟨r,hr,rfl⟩⟩
def depC(d:Nat×Nat):List Value:=[.int .i64 (d.1:Int),.int .i64 (d.2:Int)]
def entC(e:Ent)(dl:Value):List Value:=[.int .i64 (e.shape:Int),.int .i64 e.holder,.int .i64 e.slot,.int .i64 (e.to:Int),dl]
def sitC(z:Sit)(sl:Value):List Value:=[.bool z.used,.bool z.sets,.bool z.mega,.string z.name,sl]
structure STy where
 tT:TypeId
 tA:TypeId
 tR:TypeId
 tE:TypeId
 tD:TypeId
 w:Nat
 sc:Sit→Value→List Value
 len:∀ z v,(sc z v).length=w
 tr:tT≠tR
 ar:tA≠tR
 er:tE≠tR
 dr:tD≠tR
 te:tT≠tE
 ae:tA≠tE
 de:tD≠tE
 at':tA≠tT
 dt:tD≠tT
section
theorem at_apart{b c:Nat}{cs ds:List Value}{t u:TypeId}{x y:Bool}(h1:s.at' b=some (.cells cs t x))(h2:s.at' c=some (.cells ds u y))(htu:t≠u):b≠c:=by
 intro e
 subst e
 rw[h1]at h2
 injection h2 with h2
 injection h2 with h3 h4 h5
 exact htu h4
def DepsAt(Y:STy)(s:St M)(O:Nat→Prop)(dl:Value)(ds:List (Nat×Nat)):Prop:=SlU Y.tD 2 s dl (rows (fun j=>depC (ds.getD j (0,0))) ds.length) ds.length∧(∀ q n c,dl = .slice (some q) n c→O q.block)∧(ds=[]→dl = .slice none 0 0)
def EntsAt(Y:STy)(s:St M)(O:Nat→Prop)(sl:Value)(es:List Ent):Prop:=∃ dl:Nat→Value,SlU Y.tE 5 s sl (rows (fun j=>entC (es.getD j e0) (dl j)) es.length) es.length∧(∀ q n c,sl = .slice (some q) n c→O q.block)∧(∀ j,j<es.length→DepsAt Y s O (dl j) (es.getD j e0).deps)∧(es=[]→sl = .slice none 0 0)
theorem DepsAt.same{Y:STy}{s':St M}{O O':Nat→Prop}{dl:Value}{ds:List (Nat×Nat)}(h:DepsAt Y s O dl ds)(hs:∀ b,O b→O' b∧s'.at' b=s.at' b):DepsAt Y s' O' dl ds:=⟨h.1.same fun q n c e=>(hs _ (h.2.1 q n c e)).2,fun q n c e=>(hs _ (h.2.1 q n c e)).1,h.2.2⟩
theorem EntsAt.same{Y:STy}{s':St M}{O O':Nat→Prop}{sl:Value}{es:List Ent}(h:EntsAt Y s O sl es)(hs:∀ b,O b→O' b∧s'.at' b=s.at' b):EntsAt Y s' O' sl es:=by
 obtain⟨dl,h1,h2,h3,h4⟩:=h
 exact⟨dl,h1.same fun q n c e=>(hs _ (h2 q n c e)).2,fun q n c e=>(hs _ (h2 q n c e)).1,fun j hj=>(h3 j hj).same hs,h4⟩
structure SAt(Y:STy)(lo:Nat)(s:St M)(t:Nat)(T:Tab)(N:Nat)(O:Nat→Prop)(al:Value)(rb cp:Nat→Nat)(sl:Nat→Nat→Value):Prop where
 own:∀ b,O b→lo≤b∧b<s.next
 pin:O t
 bl:s.at' t=some (.cells [al,.int .i64 (T.hits:Int),.int .i64 (T.misses:Int)] Y.tT true)
 cnt:T.hits≤N∧T.misses≤N
 all:SlU Y.tA 1 s al (rows (fun i=>[.slice (some ⟨rb i,0,none⟩) (T.n i) (cp i)]) T.fs) T.fs
 allO:∀ q n c,al = .slice (some q) n c→O q.block
 pinR:∀ i,i<T.fs→O (rb i)
 row:∀ i,i<T.fs→s.at' (rb i)=some (.cells (rows (fun j=>Y.sc (T.st i j) (sl i j)) (T.n i)) Y.tR true)
 inj:∀ i j,i<T.fs→j<T.fs→rb i=rb j→i=j
 es:∀ i j,i<T.fs→j<T.n i→EntsAt Y s O (sl i j) (T.st i j).es
 apart:∀ i j i' j' q n c q' n' c',i<T.fs→j<T.n i→i' < T.fs→j' < T.n i'→sl i j = .slice (some q) n c→sl i' j' = .slice (some q') n' c'→q.block=q'.block→i=i'∧j=j'
 small:T.fs≤100∧∀ i,i<T.fs→T.n i≤4000
def STab(Y:STy)(lo:Nat)(s:St M)(t:Nat)(T:Tab)(N:Nat)(O:Nat→Prop):Prop:=∃ al rb cp sl,SAt Y lo s t T N O al rb cp sl
variable {Y:STy}{lo t N:Nat}{T:Tab}{O:Nat→Prop}{al:Value}{rb cp:Nat→Nat}{sl:Nat→Nat→Value}
theorem SAt.same{s':St M}(h:SAt Y lo s t T N O al rb cp sl)(hn:s.next≤s'.next)(hs:∀ b,O b→s'.at' b=s.at' b):SAt Y lo s' t T N O al rb cp sl:=
 ⟨fun b hb=>⟨(h.own b hb).1,by have:=(h.own b hb).2;omega⟩,h.pin,by rw[hs _ h.pin];exact h.bl,h.cnt,h.all.same fun q n c e=>hs _ (h.allO q n c e),h.allO,h.pinR,fun i hi=>by rw[hs _ (h.pinR i hi)];exact h.row i hi,h.inj,fun i j hi hj=>(h.es i j hi hj).same fun b hb=>⟨hb,hs b hb⟩,h.apart,h.small⟩
theorem STab.same{s':St M}(h:STab Y lo s t T N O)(hn:s.next≤s'.next)(hs:∀ b,O b→s'.at' b=s.at' b):STab Y lo s' t T N O:=by
 obtain⟨al,rb,cp,sl,h⟩:=h
 exact⟨al,rb,cp,sl,h.same hn hs⟩
theorem SAt.le{s':St M}(h:SAt Y lo s t T N O al rb cp sl)(hs:s.le s'):SAt Y lo s' t T N O al rb cp sl:=h.same hs.1 fun b hb=>hs.2 b (h.own b hb).2
theorem STab.own(h:STab Y lo s t T N O):∀ b,O b→lo≤b∧b<s.next:=by
 obtain⟨al,rb,cp,sl,h⟩:=h
 exact h.own
theorem STab.le{s':St M}(h:STab Y lo s t T N O)(hs:s.le s'):STab Y lo s' t T N O:=h.same hs.1 fun b hb=>hs.2 b (h.own b hb).2
theorem STab.mono{N':Nat}(h:STab Y lo s t T N O)(hN:N≤N'):STab Y lo s t T N' O:=by
 obtain⟨al,rb,cp,sl,h⟩:=h
 exact⟨al,rb,cp,sl,{ h with cnt:=⟨by have:=h.cnt.1;omega,by have:=h.cnt.2;omega⟩ }⟩
theorem STab.low{lo':Nat}(h:STab Y lo s t T N O)(hl:lo'≤lo):STab Y lo' s t T N O:=by
 obtain⟨al,rb,cp,sl,h⟩:=h
 exact⟨al,rb,cp,sl,{ h with own:=fun b hb=>⟨by have:=(h.own b hb).1;omega,(h.own b hb).2⟩ }⟩
theorem STab.other{s':St M}{O1 O1':Nat→Prop}(h:STab Y lo s t T N O)(hU:Upd s s' O1 O1')(hd:∀ b,O1 b→¬ O b):STab Y lo s' t T N O∧∀ b,O1' b→¬ O b:=by
 refine⟨h.same hU.next fun c hc=>hU.keep c (h.own c hc).2 fun h1=>hd c h1 hc,fun b hb hO=>?_⟩
 rcases hU.own b hb with h1|h1
 ·exact hd b h1 hO
 ·have:=(h.own b hO).2;omega
theorem EntsAt.blk{es:List Ent}{v:Value}(h:EntsAt Y s O v es){q:Addr}{n c:Nat}(e:v = .slice (some q) n c):∃ cs,s.at' q.block=some (.cells cs Y.tE true)∧q=⟨q.block,0,none⟩:=by
 obtain⟨dl,h1,_,_⟩:=h
 rcases h1 with ⟨_,_,h1⟩|⟨b,junk,h1,h2,_⟩
 ·rw[h1]at e;cases e
 ·rw[h1]at e;cases e;exact⟨_,h2,rfl⟩
theorem EntsAt.keep{s':St M}{O':Nat→Prop}{es:List Ent}{v:Value}(h:EntsAt Y s O v es)(hO:∀ b,O b→O' b)(hs:∀ b cs ty,O b→s.at' b=some (.cells cs ty true)→(ty=Y.tD∨(ty=Y.tE∧∃ q n c,v = .slice (some q) n c∧q.block=b))→s'.at' b=s.at' b):EntsAt Y s' O' v es:=by
 obtain⟨dl,h1,h2,h3,h3n⟩:=h
 refine⟨dl,?_,fun q n c e=>hO _ (h2 q n c e),fun j hj=>⟨?_,fun q n c e=>hO _ ((h3 j hj).2.1 q n c e),(h3 j hj).2.2⟩,h3n⟩
 ·rcases h1 with h1|⟨b,junk,g1,g2,g3⟩
  ·exact .inl h1
  ·exact .inr ⟨b,junk,g1,(hs b _ _ (h2 _ _ _ g1) g2 (.inr ⟨rfl,_,_,_,g1,rfl⟩)).trans g2,g3⟩
 ·obtain⟨h4,h5,_⟩:=h3 j hj
  rcases h4 with h4|⟨b,junk,g1,g2,g3⟩
  ·exact .inl h4
  ·exact .inr ⟨b,junk,g1,(hs b _ _ (h5 _ _ _ g1) g2 (.inl rfl)).trans g2,g3⟩
theorem SAt.set{s':St M}{O':Nat→Prop}(h:SAt Y lo s t T N O al rb cp sl){i j:Nat}{z':Sit}{v':Value}(hi:i<T.fs)(hj:j<T.n i)(hn:s.next≤s'.next)(hO:∀ b,O b→O' b)(hO':∀ b,O' b→lo≤b∧b<s'.next)
  (hrow:s'.at' (rb i)=some (.cells (rows (fun m=>if m=j then Y.sc z' v' else Y.sc (T.st i m) (sl i m)) (T.n i)) Y.tR true))
  (hkeep:∀ b,O b→b≠rb i→(∀ q n c,sl i j = .slice (some q) n c→b≠q.block)→s'.at' b=s.at' b)(hes:EntsAt Y s' O' v' z'.es)
  (hap:∀ q n c,v' = .slice (some q) n c→(∃ q0 n0 c0,sl i j = .slice (some q0) n0 c0∧q.block=q0.block)∨s.next≤q.block) :
  SAt Y lo s' t (putT T i j z') N O' al rb cp (fun a b=>if a=i∧b=j then v' else sl a b):=by
 have hrb:=h.row i hi
 have hold:∀ b cs ty,O b→s.at' b=some (.cells cs ty true)→ty≠Y.tR→ty≠Y.tE→s'.at' b=s.at' b:=fun b cs ty hb h1 h2 h3=>hkeep b hb (at_apart h1 hrb h2) fun q n c e=>by
  obtain⟨cs2,h4,_⟩:=(h.es i j hi hj).blk e
  exact at_apart h1 h4 h3
 have hst:∀ a b,(putT T i j z').st a b=if a=i∧b=j then z' else T.st a b:=fun a b=>by
  show (if a=(i:Int).toNat∧b=(j:Int).toNat then z' else T.st a b)=_
  rw[Int.toNat_natCast,Int.toNat_natCast]
 have hall:SlU Y.tA 1 s' al (rows (fun i=>[.slice (some ⟨rb i,0,none⟩) (T.n i) (cp i)]) T.fs) T.fs:=by
  rcases h.all with h1|⟨b,junk,g1,g2,g3⟩
  ·exact .inl h1
  ·exact .inr ⟨b,junk,g1,(hold _ _ _ (h.allO _ _ _ g1) g2 Y.ar Y.ae).trans g2,g3⟩
 refine⟨hO',hO _ h.pin,(hold _ _ _ h.pin h.bl Y.tr Y.te).trans h.bl,h.cnt,hall,fun q n c e=>hO _ (h.allO q n c e),fun a ha=>hO _ (h.pinR a ha),fun a ha2=>?_,h.inj,fun a b ha2 hb2=>?_,fun a b a' b' q n c q' n' c' h1 h2 h3 h4 e1 e2 eb=>?_,h.small⟩
 ·by_cases e:a=i
  ·subst e
   rw[hrow]
   congr 2
   refine rows_congr fun m hm=>?_
   show (if m=j then Y.sc z' v' else Y.sc (T.st a m) (sl a m))=Y.sc ((putT T a j z').st a m) (if a=a∧m=j then v' else sl a m)
   rw[hst]
   by_cases em:m=j
   ·rw[if_pos em,if_pos ⟨rfl,em⟩,if_pos ⟨rfl,em⟩]
   ·rw[if_neg em,if_neg (fun hc=>em hc.2),if_neg (fun hc=>em hc.2)]
  ·have hr:=h.row a ha2
   have hra:rb a≠rb i:=fun hc=>e (h.inj a i ha2 hi hc)
   have:s'.at' (rb a)=s.at' (rb a):=hkeep _ (h.pinR a ha2) hra fun q n c e2=>by
    obtain⟨cs2,h4,_⟩:=(h.es i j hi hj).blk e2
    exact at_apart hr h4 (fun e=>Y.er e.symm)
   rw[this,hr]
   congr 2
   refine rows_congr fun m hm=>?_
   show Y.sc (T.st a m) (sl a m)=Y.sc ((putT T i j z').st a m) (if a=i∧m=j then v' else sl a m)
   rw[hst,if_neg (fun hc=>e hc.1),if_neg (fun hc=>e hc.1)]
 ·show EntsAt Y s' O' (if a=i∧b=j then v' else sl a b) ((putT T i j z').st a b).es
  rw[hst]
  by_cases e:a=i∧b=j
  ·rw[if_pos e,if_pos e];exact hes
  ·rw[if_neg e,if_neg e]
   refine (h.es a b ha2 hb2).keep hO fun b2 cs ty h1 h2 h3=>?_
   rcases h3 with rfl|⟨rfl,q,n,c,h4,h5⟩
   ·exact hold _ _ _ h1 h2 Y.dr Y.de
   ·refine hkeep _ h1 (at_apart h2 hrb Y.er) fun q0 n0 c0 e0 hc=>?_
    have:=h.apart a b i j q n c q0 n0 c0 ha2 hb2 hi hj h4 e0 (by rw[h5,hc])
    exact e this
 ·have key:∀ a b q n c q' n' c',a<T.fs→b<T.n a→¬ (a=i∧b=j)→sl a b = .slice (some q) n c→v' = .slice (some q') n' c'→q.block≠q'.block:=fun a b q n c q' n' c' g1 g2 g3 g4 g5 g6=>by
   rcases hap q' n' c' g5 with ⟨q0,n0,c0,g7,g8⟩|g7
   ·exact g3 (h.apart a b i j q n c q0 n0 c0 g1 g2 hi hj g4 g7 (g6.trans g8))
   ·obtain⟨dl,_,g9,_⟩:=h.es a b g1 g2
    have:=(h.own _ (g9 _ _ _ g4)).2
    omega
  have e1:(if a=i∧b=j then v' else sl a b) = .slice (some q) n c:=e1
  have e2:(if a'=i∧b'=j then v' else sl a' b') = .slice (some q') n' c':=e2
  by_cases c1:a=i∧b=j
  ·by_cases c2:a'=i∧b'=j
   ·exact⟨by rw[c1.1,c2.1],by rw[c1.2,c2.2]⟩
   ·rw[if_pos c1]at e1
    rw[if_neg c2]at e2
    exact absurd eb.symm (key a' b' _ _ _ _ _ _ h3 h4 c2 e2 e1)
  ·by_cases c2:a'=i∧b'=j
   ·rw[if_neg c1]at e1
    rw[if_pos c2]at e2
    exact absurd eb (key a b _ _ _ _ _ _ h1 h2 c1 e1 e2)
   ·rw[if_neg c1]at e1
    rw[if_neg c2]at e2
    exact h.apart a b a' b' _ _ _ _ _ _ h1 h2 h3 h4 e1 e2 eb
theorem SAt.count{s':St M}{T':Tab}{N':Nat}(h:SAt Y lo s t T N O al rb cp sl)(hT:T'.fs=T.fs∧T'.n=T.n∧T'.st=T.st)(hc:T'.hits≤N'∧T'.misses≤N')(hn:s'.next=s.next)(hb:s'.at' t=some (.cells [al,.int .i64 (T'.hits:Int),.int .i64 (T'.misses:Int)] Y.tT true))(hk:∀ b,b≠t→s'.at' b=s.at' b):SAt Y lo s' t T' N' O al rb cp sl:=by
 obtain⟨fs,n,st,hits,misses⟩:=T'
 obtain⟨rfl,rfl,rfl⟩:=hT
 have hd:∀ b cs ty,s.at' b=some (.cells cs ty true)→ty≠Y.tT→s'.at' b=s.at' b:=fun b cs ty h1 h2=>hk b (at_apart h1 h.bl h2)
 have hall:SlU Y.tA 1 s' al (rows (fun i=>[.slice (some ⟨rb i,0,none⟩) (T.n i) (cp i)]) T.fs) T.fs:=by
  rcases h.all with h1|⟨b,junk,g1,g2,g3⟩
  ·exact .inl h1
  ·exact .inr ⟨b,junk,g1,(hd _ _ _ g2 Y.at').trans g2,g3⟩
 exact⟨fun b hb=>⟨(h.own b hb).1,by have:=(h.own b hb).2;omega⟩,h.pin,hb,hc,hall,h.allO,h.pinR,fun i hi=>(hd _ _ _ (h.row i hi) (fun e=>Y.tr e.symm)).trans (h.row i hi),h.inj,fun i j hi hj=>(h.es i j hi hj).keep (fun _ h=>h) fun b cs ty h1 h2 h3=>hd b cs ty h2 (by rcases h3 with rfl|⟨rfl,_⟩;exact Y.dt;exact fun e=>Y.te e.symm),h.apart,h.small⟩
end
theorem rows_get0{c:Nat→List Value}{k:Nat}(hc:∀ i,(c i).length=k){n i j:Nat}(hi:i<n)(hj:j<k):(rows c n)[i*k+j]?=(c i)[j]?:=by
 have:=rows_get hc [] hi hj
 simpa using this
theorem rows_set0{c d:Nat→List Value}{k:Nat}(hc:∀ i,(c i).length=k)(hd:∀ i,(d i).length=k){n i j:Nat}{v:Value}(hi:i<n)(hj:j<k)(he:∀ m,m≠i→d m=c m)(hs:d i=(c i).set j v) :
  (rows c n).set (i*k+j) v=rows d n:=by
 have:=rows_set hc hd [] hi hj he hs
 simpa using this
theorem nsA{x y:Operand}:cbin prog .eql 82 x y (.slice none 0 0) (.slice none 0 0)=some (.bool true):=by kernel_rfl
theorem nsB{x y:Operand}{a:Addr}{n c:Nat}:cbin prog .eql 82 x y (.slice (some a) n c) (.slice none 0 0)=some (.bool false):=by kernel_rfl
theorem nsC{x y:Operand}:cbin prog .eql 42 x y (.slice none 0 0) (.slice none 0 0)=some (.bool true):=by kernel_rfl
theorem nsD{x y:Operand}{a:Addr}{n c:Nat}:cbin prog .eql 42 x y (.slice (some a) n c) (.slice none 0 0)=some (.bool false):=by kernel_rfl
theorem nsE{x y:Operand}:cbin prog .eql 49 x y (.slice none 0 0) (.slice none 0 0)=some (.bool true):=by kernel_rfl
theorem nsF{x y:Operand}{a:Addr}{n c:Nat}:cbin prog .eql 49 x y (.slice (some a) n c) (.slice none 0 0)=some (.bool false):=by kernel_rfl
theorem bbA:(false == true)=false:=rfl
theorem bbB:(true == false)=false:=rfl
theorem bbC:(false == false)=true:=rfl
theorem bbD:(true == true)=true:=rfl
def STx:=(And.intro (And.intro (And.intro (And.intro (And.intro (And.intro (And.intro @underlying84 @sz84) (And.intro @is84 @ce84)) (And.intro (And.intro @ag84 @ze84) (And.intro @fa84x0 @fa84x1))) (And.intro (And.intro (And.intro @fa84x2 @underlying29) (And.intro @sz29 @is29)) (And.intro (And.intro @ce29 @ag29) (And.intro @ze29 @nt29)))) (And.intro (And.intro (And.intro (And.intro @nn29 @nf29) (And.intro @ng29 @underlying96)) (And.intro (And.intro @sz96 @is96) (And.intro @ce96 @ag96))) (And.intro (And.intro (And.intro @ze96 @fa96x0) (And.intro @fa96x1 @fa96x2)) (And.intro (And.intro @fa96x3 @fa96x4) (And.intro @underlying93 (And.intro @sz93 @is93)))))) (And.intro (And.intro (And.intro (And.intro (And.intro @ce93 @ag93) (And.intro @ze93 @nt93)) (And.intro (And.intro @nn93 @nf93) (And.intro @ng93 @underlying85))) (And.intro (And.intro (And.intro @sz85 @is85) (And.intro @ce85 @ag85)) (And.intro (And.intro @ze85 @underlying82) (And.intro @sz82 @is82)))) (And.intro (And.intro (And.intro (And.intro @ce82 @ag82) (And.intro @ze82 @underlying51)) (And.intro (And.intro @sz51 @is51) (And.intro @ce51 @ag51))) (And.intro (And.intro (And.intro @ze51 @fa51x0) (And.intro @fa51x1 @fa51x2)) (And.intro (And.intro @fa51x3 @fa51x4) (And.intro @underlying121 (And.intro @sz121 @is121))))))) (And.intro (And.intro (And.intro (And.intro (And.intro (And.intro @ce121 @ag121) (And.intro @ze121 @nt121)) (And.intro (And.intro @nn121 @nf121) (And.intro @ng121 @underlying42))) (And.intro (And.intro (And.intro @sz42 @is42) (And.intro @ce42 @ag42)) (And.intro (And.intro @ze42 @underlying99) (And.intro @sz99 @is99)))) (And.intro (And.intro (And.intro (And.intro @ce99 @ag99) (And.intro @ze99 @fa99x0)) (And.intro (And.intro @fa99x1 @underlying49) (And.intro @sz49 @is49))) (And.intro (And.intro (And.intro @ce49 @ag49) (And.intro @ze49 @underlying125)) (And.intro (And.intro @sz125 @is125) (And.intro @ce125 (And.intro @ag125 @underlying200)))))) (And.intro (And.intro (And.intro (And.intro (And.intro @sz200 @is200) (And.intro @ce200 @ag200)) (And.intro (And.intro @underlying43 @sz43) (And.intro @is43 @ce43))) (And.intro (And.intro (And.intro @ag43 @underlying157) (And.intro @sz157 @is157)) (And.intro (And.intro @ce157 @ag157) (And.intro @underlying149 (And.intro @sz149 @is149))))) (And.intro (And.intro (And.intro (And.intro @ce149 @ag149) (And.intro @underlying86 @sz86)) (And.intro (And.intro @is86 @ce86) (And.intro @ag86 @nsA))) (And.intro (And.intro (And.intro @nsB @nsC) (And.intro @nsD @nsE)) (And.intro (And.intro @nsF @bbA) (And.intro @bbB (And.intro @bbC @bbD))))))))
def PY:STy:=⟨84,85,96,51,99,5,sitC,fun _ _=>rfl,by decide,by decide,by decide,by decide,by decide,by decide,by decide,by decide,by decide⟩
section
variable {lo t N:Nat}{T:Tab}{O:Nat→Prop}{al:Value}{rb cp:Nat→Nat}{sl:Nat→Nat→Value}
theorem sdead_spec(h:SAt PY lo s t T N O al rb cp sl)(hfs:0<T.fs)(hR:R (.bool false) s):QC prog w0 51 #[.pointer (some ⟨t,0,none⟩)] s R:=by
 refine wfun2 hmix ok51 func51 rfl ntmps51 results51 (by simp) ?_
 have hb:s.at' t=some (.cells [al,.int .i64 (T.hits:Int),.int .i64 (T.misses:Int)] 84 true):=h.bl
 rcases h.all with ⟨h0,_,rfl⟩|⟨b0,junk,rfl,ha,_⟩
 ·omega
 ·simp -implicitDefEqProofs only[↓Zd,(Zp),simprocAttr,cld2,(STx),hb]
  exact hR
theorem sfind_spec(h:SAt PY lo s t T N O al rb cp sl)(hfs:0<T.fs){f k:Int}(hno:¬ hasT T f k→R (.pointer none) s)(hyes:∀ i j:Nat,f=(i:Int)→k=(j:Int)→i<T.fs→j<T.n i→hasT T f k→R (.pointer (some ⟨rb i,j*5,none⟩)) s) :
  QC prog w0 36 #[.pointer (some ⟨t,0,none⟩),.int .i64 f,.int .i64 k] s R:=by
 refine wfun2 hmix ok36 func36 rfl ntmps36 results36 (by simp) ?_
 simp -implicitDefEqProofs only[↓Zd,(Zp),simprocAttr,co51]
 refine sdead_spec h hfs ?_
 by_cases f1:f<0
 ·simp -implicitDefEqProofs only[↓Zd,(Zp),simprocAttr,(HEx),f1]
  exact hno fun hc=>by have:=hc.1;omega
 have hb:s.at' t=some (.cells [al,.int .i64 (T.hits:Int),.int .i64 (T.misses:Int)] 84 true):=h.bl
 rcases h.all with ⟨h0,_,rfl⟩|⟨b0,junk,rfl,ha,_⟩
 ·exact absurd h0 (by omega)
 have ha:s.at' b0=some (.cells (rows (fun i=>[.slice (some ⟨rb i,0,none⟩) (T.n i) (cp i)]) T.fs++junk) 85 true):=ha
 by_cases f2:(T.fs:Int)≤f
 ·simp -implicitDefEqProofs only[↓Zd,(Zp),simprocAttr,cld2,(HEx),(STx),hb,f1,f2]
  exact hno fun hc=>by have:=hc.2.1;omega
 by_cases k1:k<0
 ·simp -implicitDefEqProofs only[↓Zd,(Zp),simprocAttr,cld2,(HEx),(STx),hb,f1,f2,k1]
  exact hno fun hc=>by have:=hc.2.2.1;omega
 obtain⟨i,rfl⟩:∃ i:Nat,f=(i:Int):=⟨f.toNat,by omega⟩
 obtain⟨j,rfl⟩:∃ j:Nat,k=(j:Int):=⟨k.toNat,by omega⟩
 have hi:i<T.fs:=by omega
 have hii:(0:Int)≤(i:Int)∧(i:Int)<(T.fs:Int):=by omega
 have hg:=rows_get (c:=fun i=>[.slice (some ⟨rb i,0,none⟩) (T.n i) (cp i)]) (k:=1) (fun _=>rfl) (j:=0) junk hi (by omega)
 simp only[Nat.mul_one,Nat.add_zero,List.getElem?_cons_zero]at hg
 by_cases k2:(T.n i:Int)≤(j:Int)
 ·simp -implicitDefEqProofs only[↓Zd,(Zp),simprocAttr,cld2,(HEx),(STx),hb,f1,f2,k1,k2,hii,ha,hg,Nat.add_zero]
  exact hno fun hc=>by have:=hc.2.2.2;rw[Int.toNat_natCast]at this;omega
 ·have hj:j<T.n i:=by omega
  have hjj:(0:Int)≤(j:Int)∧(j:Int)<(T.n i:Int):=by omega
  simp -implicitDefEqProofs only[↓Zd,(Zp),simprocAttr,cld2,(HEx),(STx),hb,f1,f2,k1,k2,hii,hjj,ha,hg,Nat.add_zero]
  exact hyes i j rfl rfl hi hj ⟨by omega,by omega,by omega,by rw[Int.toNat_natCast];omega⟩
theorem scounts_spec(h:SAt PY lo s t T N O al rb cp sl)(hR:R (.tuple #[.int .i64 (T.hits:Int),.int .i64 (T.misses:Int)]) s):QC prog w0 34 #[.pointer (some ⟨t,0,none⟩)] s R:=by
 refine wfun2 hmix ok34 func34 rfl ntmps34 results34 (by simp) ?_
 have hb:s.at' t=some (.cells [al,.int .i64 (T.hits:Int),.int .i64 (T.misses:Int)] 84 true):=h.bl
 simp -implicitDefEqProofs only[↓Zd,(Zp),simprocAttr,cld2,(HEx),(STx),hb,ord34]
 exact hR
theorem splays0_spec{w:Bool}{x:ByteArray}(hR:R (.bool false) s):QC prog w0 52 #[.pointer none,.bool w,.string x] s R:=by
 refine wfun2 hmix ok52 func52 rfl ntmps52 results52 (by simp) ?_
 simp -implicitDefEqProofs only[↓Zd,(Zp),simprocAttr,(STx)]
 exact hR
theorem splays_spec{b n j:Nat}{c:Nat→List Value}{z:Sit}{v:Value}{w:Bool}{x:ByteArray}(hb:s.at' b=some (.cells (rows c n) 96 true))(hc:∀ i,(c i).length=5)(hj:j<n)(hcj:c j=sitC z v)
  (hR:∀ s',s'.next=s.next→s'.at' b=some (.cells (rows (fun m=>if m=j then sitC (if z.mega then z else playsS z w x) v else c m) n) 96 true)→(∀ a,a≠b→s'.at' a=s.at' a)→R (.bool (playsB z w x)) s') :
  QC prog w0 52 #[.pointer (some ⟨b,j*5,none⟩),.bool w,.string x] s R:=by
 refine wfun2 hmix ok52 func52 rfl ntmps52 results52 (by simp) ?_
 have g0:=rows_get0 hc hj (j:=0) (by omega)
 have g1:=rows_get0 hc hj (j:=1) (by omega)
 have g2:=rows_get0 hc hj (j:=2) (by omega)
 have g3:=rows_get0 hc hj (j:=3) (by omega)
 rw[hcj]at g0 g1 g2 g3
 simp only[sitC,List.getElem?_cons_zero,List.getElem?_cons_succ,Nat.add_zero]at g0 g1 g2 g3
 have hself:(fun m=>if m=j then sitC z v else c m)=c:=by
  funext m
  split
  ·rename_i e;rw[e,hcj]
  ·rfl
 obtain⟨zu,zs,zm,zn,ze⟩:=z
 cases zm with
 |true =>
  have hR2:=hR s rfl (by simp only[if_true,hself];exact hb) (fun _ _=>rfl)
  unfold playsB at hR2
  simp -implicitDefEqProofs only[↓Zd,(Zp),simprocAttr,cld2,(HEx),(STx),hb,g2]
  exact hR2
 |false =>
  cases zu with
  |true =>
   have hR2:=hR s rfl (by simp only[playsS,if_true,Bool.false_eq_true,if_false,hself];exact hb) (fun _ _=>rfl)
   unfold playsB at hR2
   simp only[Bool.false_eq_true,if_false,if_true]at hR2
   by_cases e2:zn=x
   ·subst e2
    simp only[decide_true,Bool.and_true]at hR2
    cases zs<;>cases w <;>
    ·simp only[reduceCtorEq,decide_true,decide_false]at hR2
     simp -implicitDefEqProofs only[↓Zd,(Zp),simprocAttr,cld2,(HEx),(STx),hb,g0,g1,g2,g3,Nat.add_zero]
     exact hR2
   ·simp only[e2,decide_false,Bool.and_false]at hR2
    cases zs<;>cases w <;>
    ·simp -implicitDefEqProofs only[↓Zd,(Zp),simprocAttr,cld2,(HEx),(STx),hb,g0,g1,g2,g3,e2,Nat.add_zero]
     exact hR2
  |false =>
   have e1:=rows_set0 (k:=5) (c:=c) (d:=fun m=>if m=j then [.bool true,.bool zs,.bool false,.string zn,v] else c m) (j:=0) (v := .bool true) hc (fun i=>by (try dsimp only);split;rfl;exact hc i) hj (by omega) (fun m hm=>if_neg hm) (by (try dsimp only);rw[if_pos rfl,hcj];rfl)
   have e2:=rows_set0 (k:=5) (c:=fun m=>if m=j then [.bool true,.bool zs,.bool false,.string zn,v] else c m) (d:=fun m=>if m=j then [.bool true,.bool w,.bool false,.string zn,v] else c m) (j:=1) (v := .bool w) (fun i=>by (try dsimp only);split;rfl;exact hc i) (fun i=>by (try dsimp only);split;rfl;exact hc i) hj (by omega) (fun m hm=>by (try dsimp only);rw[if_neg hm,if_neg hm]) (by (try dsimp only);rw[if_pos rfl,if_pos rfl];rfl)
   have e3:=rows_set0 (k:=5) (c:=fun m=>if m=j then [.bool true,.bool w,.bool false,.string zn,v] else c m) (d:=fun m=>if m=j then [.bool true,.bool w,.bool false,.string x,v] else c m) (j:=3) (v := .string x) (fun i=>by (try dsimp only);split;rfl;exact hc i) (fun i=>by (try dsimp only);split;rfl;exact hc i) hj (by omega) (fun m hm=>by (try dsimp only);rw[if_neg hm,if_neg hm]) (by (try dsimp only);rw[if_pos rfl,if_pos rfl];rfl)
   have k1:=rows_get0 (k:=5) (c:=fun m=>if m=j then [.bool true,.bool w,.bool false,.string x,v] else c m) (fun i=>by (try dsimp only);split;rfl;exact hc i) hj (j:=1) (by omega)
   have k3:=rows_get0 (k:=5) (c:=fun m=>if m=j then [.bool true,.bool w,.bool false,.string x,v] else c m) (fun i=>by (try dsimp only);split;rfl;exact hc i) hj (j:=3) (by omega)
   simp only[if_true,List.getElem?_cons_zero,List.getElem?_cons_succ]at k1 k3
   have l0:=rows_len hc n
   have l1:=rows_len (c:=fun m=>if m=j then [.bool true,.bool zs,.bool false,.string zn,v] else c m) (k:=5) (fun i=>by (try dsimp only);split;rfl;exact hc i) n
   have l2:=rows_len (c:=fun m=>if m=j then [.bool true,.bool w,.bool false,.string zn,v] else c m) (k:=5) (fun i=>by (try dsimp only);split;rfl;exact hc i) n
   have m0:j*5+1≤n*5:=by omega
   have m1:j*5+2≤n*5:=by omega
   have m2:j*5+4≤n*5:=by omega
   rw[Nat.add_zero]at e1
   have hR2:∀ s',s'.next=s.next→s'.at' b=some (.cells (rows (fun m=>if m=j then [.bool true,.bool w,.bool false,.string x,v] else c m) n) 96 true)→(∀ a,a≠b→s'.at' a=s.at' a)→R (.bool true) s':=fun s' h1 h2 h3=>by
    have:=hR s' h1 (by simp only[playsS,Bool.false_eq_true,if_false,sitC];exact h2) h3
    simpa [playsB] using this
   cases w <;>
   ·simp -implicitDefEqProofs only[↓Zd,(Zp),simprocAttr,qP,Value.cells,qC,cld2,(HEx),(STx),hb,g0,g2,e1,e2,e3,k1,k3,l0,l1,l2,m0,m1,m2,Nat.add_zero]
    refine hR2 _ rfl ?_ fun a ha=>?_
    ·rw[St.at_put,if_pos rfl]
    ·rw[St.at_put,if_neg ha,St.at_put,if_neg ha,St.at_put,if_neg ha]
end
section
variable {lo t N:Nat}{T:Tab}{O:Nat→Prop}{al:Value}{rb cp:Nat→Nat}{sl:Nat→Nat→Value}
theorem infoEnt:∃ ie,prog.info? 51=some ie∧ie.size=5∧0<ie.bytes∧ie.bytes≤100:=by
 obtain⟨ie,h⟩:=Option.isSome_iff_exists.1 is51
 have h1:=ce51
 have h2:decide (0<prog.bytesOf 51∧prog.bytesOf 51≤100)=true:=by kernel_rfl
 rw[cellsOf_info h]at h1
 simp only[Program.bytesOf,h,decide_eq_true_eq]at h2
 exact⟨ie,h,h1,h2.1,h2.2⟩
theorem appEnt{sl:Value}{cs new:List Value}{k:Nat}(hnew:new.length=5)(hok:new.all qC=true)(hlen:k≤1000000)(hsl:SlU 51 5 s sl cs k)(hfr:∀ q m c,sl = .slice (some q) m c→q.block<s.next) :
  ∃ s',capp prog #[42,42] #[sl,.slice (some ⟨s.next,0,none⟩) 1 1] (s.new (.cells new 51 true))=some (.slice (some ⟨s.next+1,0,none⟩) (k+1) UNK,s')∧s'.next=s.next+2 ∧
   s'.at' (s.next+1)=some (.cells (cs++new) 51 true)∧(∀ b,b<s.next→(∀ q n c,sl = .slice (some q) n c→b≠q.block)→s'.at' b=s.at' b):=by
 obtain⟨ie,hie,h1,h2,h3⟩:=infoEnt
 have hcapp:capp prog #[42,42] #[sl,.slice (some ⟨s.next,0,none⟩) 1 1] (s.new (.cells new 51 true))=capp3 prog 51 ie sl (s.new (.cells new 51 true)) (cmore ie.size (.slice (some ⟨s.next,0,none⟩) 1 1) (s.new (.cells new 51 true))):=
  app_eq underlying42 underlying42 hie
 have hv:cmore ie.size (.slice (some ⟨s.next,0,none⟩) 1 1) (s.new (.cells new 51 true))=some (1,new):=by
  simp only[more_at,St.at_new,if_true,more2,h1]
  rw[cut_all (by omega)];rfl
 obtain⟨s',h3,h4,h5,h6⟩:=app_rowU (n:=k) (k:=1) hie ze51 (by rw[h1];rfl) h2 hcapp (by omega) (by
  have:(k+1)*ie.bytes≤1000001*100:=Nat.mul_le_mul (by omega) h3
  omega) hok hv (by rw[h1];exact hsl.same fun q m c e=>by rw[St.at_new,if_neg (by have:=hfr q m c e;omega)])
 refine⟨s',by simpa using h3,by simp at h4;omega,h5,fun b hb hq=>?_⟩
 rw[h6 b (by simp;omega) hq,St.at_new,if_neg (by omega)]
theorem wch_appEnt{sl:Value}{cs new:List Value}{k:Nat}{K:Value→St M→Prop}(hnew:new.length=5)(hok:new.all qC=true)(hlen:k≤1000000)(hsl:SlU 51 5 s sl cs k)(hfr:∀ q m c,sl = .slice (some q) m c→q.block<s.next)
  (h:∀ s',s'.next=s.next+2→s'.at' (s.next+1)=some (.cells (cs++new) 51 true)→(∀ b,b<s.next→(∀ q n c,sl = .slice (some q) n c→b≠q.block)→s'.at' b=s.at' b)→K (.slice (some ⟨s.next+1,0,none⟩) (k+1) UNK) s') :
  wch (capp prog #[42,42] #[sl,.slice (some ⟨s.next,0,none⟩) 1 1] (s.new (.cells new 51 true))) K:=by
 obtain⟨s',h1,h2,h3,h4⟩:=appEnt hnew hok hlen hsl hfr
 exact⟨_,_,h1,h s' h2 h3 h4⟩
theorem clEnt{b:Nat}{cs junk:List Value}{n:Nat}{K:Value→St M→Prop}(hn:n≠0)(hlen:n≤1000000)(hok:cs.all qC=true)(hb:s.at' b=some (.cells (cs++junk) 51 true))(hbn:b<s.next)(hcs:cs.length=n*5)
  (h:∀ s',s'.next=s.next+2→s'.at' (s.next+1)=some (.cells cs 51 true)→(∀ b,b<s.next→s'.at' b=s.at' b)→K (.slice (some ⟨s.next+1,0,none⟩) n UNK) s') :
  wch (capp prog #[42,42] #[.slice (some ⟨s.next,0,none⟩) 0 0,.slice (some ⟨b,0,none⟩) n UNK] (s.new (.cells [] 51 true))) K:=by
 obtain⟨ie,hie,h1,h2,h3⟩:=infoEnt
 have hcapp:capp prog #[42,42] #[.slice (some ⟨s.next,0,none⟩) 0 0,.slice (some ⟨b,0,none⟩) n UNK] (s.new (.cells [] 51 true))=capp3 prog 51 ie (.slice (some ⟨s.next,0,none⟩) 0 0) (s.new (.cells [] 51 true)) (cmore ie.size (.slice (some ⟨b,0,none⟩) n UNK) (s.new (.cells [] 51 true))):=
  app_eq underlying42 underlying42 hie
 have hv:cmore ie.size (.slice (some ⟨b,0,none⟩) n UNK) (s.new (.cells [] 51 true))=some (n,cs):=by
  simp only[more_at,St.at_new,if_neg (show ¬ b=s.next by omega),hb,more2,h1]
  have:cut (cs++junk) 0 (n*5)=some cs:=by
   unfold cut
   rw[if_pos (by rw[List.length_append];omega),List.drop_zero,← hcs,List.take_left']
   rfl
  rw[this];rfl
 obtain⟨s',h3,h4,h5,h6⟩:=app_row (n:=0) (k:=n) (old:=[]) hie ze51 (by rw[h1];rfl) h2 hcapp hn (by
  have:(0+n)*ie.bytes≤1000000*100:=Nat.mul_le_mul (by omega) h3
  omega) hok hv (.inr ⟨s.next,0,rfl,.inr ⟨rfl,by decide⟩,by rw[St.at_new,if_pos rfl],by simp⟩)
 refine⟨_,s',h3,?_⟩
 rw[Nat.zero_add]
 refine h s' (by simp at h4;omega) h5 fun c hc=>?_
 rw[h6 c (by simp;omega) (fun q m c' e=>by cases e;simp;omega),St.at_new,if_neg (by omega)]
theorem infoDep:∃ ie,prog.info? 99=some ie∧ie.size=2∧0<ie.bytes∧ie.bytes≤100:=by
 obtain⟨ie,h⟩:=Option.isSome_iff_exists.1 is99
 have h1:=ce99
 have h2:decide (0<prog.bytesOf 99∧prog.bytesOf 99≤100)=true:=by kernel_rfl
 rw[cellsOf_info h]at h1
 simp only[Program.bytesOf,h,decide_eq_true_eq]at h2
 exact⟨ie,h,h1,h2.1,h2.2⟩
theorem appDep{sl:Value}{cs new:List Value}{k:Nat}(hnew:new.length=2)(hok:new.all qC=true)(hlen:k≤1000000)(hsl:SlU 99 2 s sl cs k)(hfr:∀ q m c,sl = .slice (some q) m c→q.block<s.next) :
  ∃ s',capp prog #[49,49] #[sl,.slice (some ⟨s.next,0,none⟩) 1 1] (s.new (.cells new 99 true))=some (.slice (some ⟨s.next+1,0,none⟩) (k+1) UNK,s')∧s'.next=s.next+2 ∧
   s'.at' (s.next+1)=some (.cells (cs++new) 99 true)∧(∀ b,b<s.next→(∀ q n c,sl = .slice (some q) n c→b≠q.block)→s'.at' b=s.at' b):=by
 obtain⟨ie,hie,h1,h2,h3⟩:=infoDep
 have hcapp:capp prog #[49,49] #[sl,.slice (some ⟨s.next,0,none⟩) 1 1] (s.new (.cells new 99 true))=capp3 prog 99 ie sl (s.new (.cells new 99 true)) (cmore ie.size (.slice (some ⟨s.next,0,none⟩) 1 1) (s.new (.cells new 99 true))):=
  app_eq underlying49 underlying49 hie
 have hv:cmore ie.size (.slice (some ⟨s.next,0,none⟩) 1 1) (s.new (.cells new 99 true))=some (1,new):=by
  simp only[more_at,St.at_new,if_true,more2,h1]
  rw[cut_all (by omega)];rfl
 obtain⟨s',h3,h4,h5,h6⟩:=app_rowU (n:=k) (k:=1) hie ze99 (by rw[h1];rfl) h2 hcapp (by omega) (by
  have:(k+1)*ie.bytes≤1000001*100:=Nat.mul_le_mul (by omega) h3
  omega) hok hv (by rw[h1];exact hsl.same fun q m c e=>by rw[St.at_new,if_neg (by have:=hfr q m c e;omega)])
 refine⟨s',by simpa using h3,by simp at h4;omega,h5,fun b hb hq=>?_⟩
 rw[h6 b (by simp;omega) hq,St.at_new,if_neg (by omega)]
theorem wch_appDep{sl:Value}{cs new:List Value}{k:Nat}{K:Value→St M→Prop}(hnew:new.length=2)(hok:new.all qC=true)(hlen:k≤1000000)(hsl:SlU 99 2 s sl cs k)(hfr:∀ q m c,sl = .slice (some q) m c→q.block<s.next)
  (h:∀ s',s'.next=s.next+2→s'.at' (s.next+1)=some (.cells (cs++new) 99 true)→(∀ b,b<s.next→(∀ q n c,sl = .slice (some q) n c→b≠q.block)→s'.at' b=s.at' b)→K (.slice (some ⟨s.next+1,0,none⟩) (k+1) UNK) s') :
  wch (capp prog #[49,49] #[sl,.slice (some ⟨s.next,0,none⟩) 1 1] (s.new (.cells new 99 true))) K:=by
 obtain⟨s',h1,h2,h3,h4⟩:=appDep hnew hok hlen hsl hfr
 exact⟨_,_,h1,h s' h2 h3 h4⟩
theorem clDep{b:Nat}{cs junk:List Value}{n:Nat}{K:Value→St M→Prop}(hn:n≠0)(hlen:n≤1000000)(hok:cs.all qC=true)(hb:s.at' b=some (.cells (cs++junk) 99 true))(hbn:b<s.next)(hcs:cs.length=n*2)
  (h:∀ s',s'.next=s.next+2→s'.at' (s.next+1)=some (.cells cs 99 true)→(∀ b,b<s.next→s'.at' b=s.at' b)→K (.slice (some ⟨s.next+1,0,none⟩) n UNK) s') :
  wch (capp prog #[49,49] #[.slice (some ⟨s.next,0,none⟩) 0 0,.slice (some ⟨b,0,none⟩) n UNK] (s.new (.cells [] 99 true))) K:=by
 obtain⟨ie,hie,h1,h2,h3⟩:=infoDep
 have hcapp:capp prog #[49,49] #[.slice (some ⟨s.next,0,none⟩) 0 0,.slice (some ⟨b,0,none⟩) n UNK] (s.new (.cells [] 99 true))=capp3 prog 99 ie (.slice (some ⟨s.next,0,none⟩) 0 0) (s.new (.cells [] 99 true)) (cmore ie.size (.slice (some ⟨b,0,none⟩) n UNK) (s.new (.cells [] 99 true))):=
  app_eq underlying49 underlying49 hie
 have hv:cmore ie.size (.slice (some ⟨b,0,none⟩) n UNK) (s.new (.cells [] 99 true))=some (n,cs):=by
  simp only[more_at,St.at_new,if_neg (show ¬ b=s.next by omega),hb,more2,h1]
  have:cut (cs++junk) 0 (n*2)=some cs:=by
   unfold cut
   rw[if_pos (by rw[List.length_append];omega),List.drop_zero,← hcs,List.take_left']
   rfl
  rw[this];rfl
 obtain⟨s',h3,h4,h5,h6⟩:=app_row (n:=0) (k:=n) (old:=[]) hie ze99 (by rw[h1];rfl) h2 hcapp hn (by
  have:(0+n)*ie.bytes≤1000000*100:=Nat.mul_le_mul (by omega) h3
  omega) hok hv (.inr ⟨s.next,0,rfl,.inr ⟨rfl,by decide⟩,by rw[St.at_new,if_pos rfl],by simp⟩)
 refine⟨_,s',h3,?_⟩
 rw[Nat.zero_add]
 refine h s' (by simp at h4;omega) h5 fun c hc=>?_
 rw[h6 c (by simp;omega) (fun q m c' e=>by cases e;simp;omega),St.at_new,if_neg (by omega)]
theorem ixe_spec{c:Nat→List Value}{n b:Nat}{junk:List Value}{fn:FuncId}{cap:Array Value}{q:Nat→Bool}(hcc:qK prog fn=true)(hc:∀ i,(c i).length=5)(hb:s.at' b=some (.cells (rows c n++junk) 51 true))(hbn:b<s.next)(hN:n≤1000001)
  (hcl:∀ (s':St M) (i:Nat) (R':Value→St M→Prop),s.le s'→i<n→(∀ s2,s'.le s2→R' (.bool (q i)) s2)→QC prog w0 fn (#[.agg (c i).toArray]++cap) s' R')
  (h:∀ s' (j:Nat),s.le s'→j<n→q j=true→(∀ k,k<j→q k=false)→R (.int .i64 (j:Int)) s')(h':∀ s',s.le s'→(∀ k:Nat,k<n→q k=false)→R (.int .i64 (-1)) s') :
  QC prog w0 103 #[.slice (some ⟨b,0,none⟩) n UNK,.func (.func fn) #[] cap] s R:=by
 refine wfun2 hmix ok103 func103 rfl ntmps103 results103 (by simp) ?_
 simp -implicitDefEqProofs only[↓Zd,(Zp),simprocAttr,(STx)]
 refine wloop_fix hmix [9,10,5,11,12,13,14,15,16,17,4,18,8] (fun fuel env s'=>∃ m:Nat,fuel=n - m∧m≤n∧env 8 = .int .i64 (m:Int)∧(∀ k:Nat,k<m→q k=false)∧s.le s') (n - 0) ?_ ?_
 ·exact⟨0,rfl,by omega,rfl,fun k hk=>by omega,lR _⟩
 ·rintro fuel env s' hF ⟨m,rfl,hqP,e8,hno,hs⟩
  have hsn:=hs.1
  have e0:env 0 = .slice (some ⟨b,0,none⟩) n UNK:=by rw[hF 0 rfl];rfl
  have e1:env 1 = .func (.func fn) #[] cap:=by rw[hF 1 rfl];rfl
  have e7:env 7 = .int .i64 (n:Int):=by rw[hF 7 rfl];rfl
  by_cases hlt:m<n
  ·have hlt':(m:Int)<(n:Int):=by omega
   have hge:(0:Int)≤(m:Int):=by omega
   have hb':s'.at' b=some (.cells (rows c n++junk) 51 true):=by rw[hs.2 b hbn];exact hb
   have w1:IntKind.i64.wrap ((m:Int)+1)=((m+1:Nat):Int):=by rw[wrap_i64 (by omega)];omega
   obtain⟨hle5,htk5⟩:=rows_cut hc junk hlt
   simp -implicitDefEqProofs only[↓Zd,(Zp),simprocAttr,cut,cld2,(STx),e0,e1,e7,e8,hlt',hge,hb',hle5,htk5,calv hcc]
   refine hcl _ m _ (by first|exact hs|skip) hlt fun s2 hs2=>?_
   have hs02:s.le s2:=lT hs hs2
   cases hp:q m with
   |true =>
    simp -implicitDefEqProofs only[↓Zd,(Zp),simprocAttr,(HEx)]
    exact h _ m hs02 hlt hp hno
   |false =>
    simp -implicitDefEqProofs only[↓Zd,(Zp),simprocAttr,(HEx),w1,e8]
    refine⟨?_,n - (m+1),by omega,m+1,rfl,by omega,rfl,fun k hk=>?_,hs02⟩
    ·repeat (first|exact hF|refine Fix.upd (by decide) ?_)
    ·by_cases e:k<m
     ·exact hno k e
     ·have:k=m:=by omega
      subst this
      exact hp
  ·have hlt':¬ (m:Int)<(n:Int):=by omega
   simp -implicitDefEqProofs only[↓Zd,(Zp),simprocAttr,e7,e8,hlt']
   exact h' _ hs fun k hk=>hno k (by omega)
theorem ixe0_spec{fv:Value}(hR:R (.int .i64 (-1)) s):QC prog w0 103 #[.slice none 0 0,fv] s R:=by
 refine wfun2 hmix ok103 func103 rfl ntmps103 results103 (by simp) ?_
 simp -implicitDefEqProofs only[↓Zd,(Zp),simprocAttr,(STx)]
 refine wloop_fix hmix [9,10,5,11,12,13,14,15,16,17,4,18,8] (fun fuel env s'=>env 8 = .int .i64 0∧s'=s) 0 ⟨rfl,rfl⟩ ?_
 rintro fuel env s' hF ⟨e8,rfl⟩
 have e7:env 7 = .int .i64 0:=by rw[hF 7 rfl];rfl
 simp -implicitDefEqProofs only[↓Zd,(Zp),simprocAttr,e7,e8]
 exact hR
theorem ixd_spec{c:Nat→List Value}{n b:Nat}{junk:List Value}{fn:FuncId}{cap:Array Value}{q:Nat→Bool}(hcc:qK prog fn=true)(hc:∀ i,(c i).length=2)(hb:s.at' b=some (.cells (rows c n++junk) 99 true))(hbn:b<s.next)(hN:n≤1000001)
  (hcl:∀ (s':St M) (i:Nat) (R':Value→St M→Prop),s.le s'→i<n→(∀ s2,s'.le s2→R' (.bool (q i)) s2)→QC prog w0 fn (#[.agg (c i).toArray]++cap) s' R')
  (h:∀ s' (j:Nat),s.le s'→j<n→q j=true→(∀ k,k<j→q k=false)→R (.int .i64 (j:Int)) s')(h':∀ s',s.le s'→(∀ k:Nat,k<n→q k=false)→R (.int .i64 (-1)) s') :
  QC prog w0 139 #[.slice (some ⟨b,0,none⟩) n UNK,.func (.func fn) #[] cap] s R:=by
 refine wfun2 hmix ok139 func139 rfl ntmps139 results139 (by simp) ?_
 simp -implicitDefEqProofs only[↓Zd,(Zp),simprocAttr,(STx)]
 refine wloop_fix hmix [9,10,5,11,12,13,14,15,16,17,4,18,8] (fun fuel env s'=>∃ m:Nat,fuel=n - m∧m≤n∧env 8 = .int .i64 (m:Int)∧(∀ k:Nat,k<m→q k=false)∧s.le s') (n - 0) ?_ ?_
 ·exact⟨0,rfl,by omega,rfl,fun k hk=>by omega,lR _⟩
 ·rintro fuel env s' hF ⟨m,rfl,hqP,e8,hno,hs⟩
  have hsn:=hs.1
  have e0:env 0 = .slice (some ⟨b,0,none⟩) n UNK:=by rw[hF 0 rfl];rfl
  have e1:env 1 = .func (.func fn) #[] cap:=by rw[hF 1 rfl];rfl
  have e7:env 7 = .int .i64 (n:Int):=by rw[hF 7 rfl];rfl
  by_cases hlt:m<n
  ·have hlt':(m:Int)<(n:Int):=by omega
   have hge:(0:Int)≤(m:Int):=by omega
   have hb':s'.at' b=some (.cells (rows c n++junk) 99 true):=by rw[hs.2 b hbn];exact hb
   have w1:IntKind.i64.wrap ((m:Int)+1)=((m+1:Nat):Int):=by rw[wrap_i64 (by omega)];omega
   obtain⟨hle5,htk5⟩:=rows_cut hc junk hlt
   simp -implicitDefEqProofs only[↓Zd,(Zp),simprocAttr,cut,cld2,(STx),e0,e1,e7,e8,hlt',hge,hb',hle5,htk5,calv hcc]
   refine hcl _ m _ (by first|exact hs|skip) hlt fun s2 hs2=>?_
   have hs02:s.le s2:=lT hs hs2
   cases hp:q m with
   |true =>
    simp -implicitDefEqProofs only[↓Zd,(Zp),simprocAttr,(HEx)]
    exact h _ m hs02 hlt hp hno
   |false =>
    simp -implicitDefEqProofs only[↓Zd,(Zp),simprocAttr,(HEx),w1,e8]
    refine⟨?_,n - (m+1),by omega,m+1,rfl,by omega,rfl,fun k hk=>?_,hs02⟩
    ·repeat (first|exact hF|refine Fix.upd (by decide) ?_)
    ·by_cases e:k<m
     ·exact hno k e
     ·have:k=m:=by omega
      subst this
      exact hp
  ·have hlt':¬ (m:Int)<(n:Int):=by omega
   simp -implicitDefEqProofs only[↓Zd,(Zp),simprocAttr,e7,e8,hlt']
   exact h' _ hs fun k hk=>hno k (by omega)
theorem ixd0_spec{fv:Value}(hR:R (.int .i64 (-1)) s):QC prog w0 139 #[.slice none 0 0,fv] s R:=by
 refine wfun2 hmix ok139 func139 rfl ntmps139 results139 (by simp) ?_
 simp -implicitDefEqProofs only[↓Zd,(Zp),simprocAttr,(STx)]
 refine wloop_fix hmix [9,10,5,11,12,13,14,15,16,17,4,18,8] (fun fuel env s'=>env 8 = .int .i64 0∧s'=s) 0 ⟨rfl,rfl⟩ ?_
 rintro fuel env s' hF ⟨e8,rfl⟩
 have e7:env 7 = .int .i64 0:=by rw[hF 7 rfl];rfl
 simp -implicitDefEqProofs only[↓Zd,(Zp),simprocAttr,e7,e8]
 exact hR
end
section
variable {lo p N:Nat}{H:Hp}{O P:Nat→Prop}{tg:Nat→Nat}{pf pn:Nat}{sl0:Value}{bs:List Nat}
theorem gotV_z(o:Option V3):gotV o = .tuple #[.agg #[.int .i64 (o.getD z3).1,.int .i64 (o.getD z3).2.1,.string (o.getD z3).2.2],.bool o.isSome]:=by
 cases o<;>rfl
theorem sval_spec(h:HpIn lo s p H N P tg pf pn sl0 bs){c:Nat→List Value}{n eb i:Nat}{junk:List Value}{e:Ent}{dl:Value}{o:Int}(hc:∀ i,(c i).length=5)(hb:s.at' eb=some (.cells (rows c n++junk) 51 true))(hbn:eb<s.next)(hi:i<n)(hci:c i=entC e dl)
  (ho : -9223372036854775808≤o∧o≤9223372036854775807)(hh : -9223372036854775808≤e.holder∧e.holder≤9223372036854775807)(hsl : -9223372036854775808≤e.slot∧e.slot≤9223372036854775807)(hR:∀ s',s.le s'→R (vOf (valE H e o)) s') :
  QC prog w0 55 #[.pointer (some ⟨p,0,none⟩),.pointer (some ⟨eb,i*5,none⟩),.int .i64 o] s R:=by
 refine wfun2 hmix ok55 func55 rfl ntmps55 results55 (by simp) ?_
 have g1:=rows_get hc junk hi (j:=1) (by omega)
 have g2:=rows_get hc junk hi (j:=2) (by omega)
 rw[hci]at g1 g2
 simp only[entC,List.getElem?_cons_zero,List.getElem?_cons_succ]at g1 g2
 have hne:¬ eb=s.next:=by omega
 have l1:s.le (s.new (.cells [.int .i64 0,.int .i64 0,.string ⟨#[]⟩] 36 true)):=lN (lR _)
 unfold valE vOf vA at hR
 by_cases h1:0<e.holder
 ·simp only[if_pos h1]at hR
  have h2:¬ e.holder<0:=by omega
  simp -implicitDefEqProofs only[↓Zd,(Zp),simprocAttr,Value.cells,cld2,(HEx),(STx),hb,hne,g1,g2,h1,h2,co47]
  refine hslot_spec (h.le l1) hh hsl fun s2 hs2=>?_
  have hn2:=hs2.1
  have c1:s2.at' s.next=some (.cells [.int .i64 0,.int .i64 0,.string ⟨#[]⟩] 36 true):=by rw[hs2.2 _ (by simp only[St.next_new];omega),St.at_new,if_pos rfl]
  simp only[St.next_new]at hn2
  have hne2:¬ s.next=s2.next:=by omega
  rw[gotV_z]
  simp -implicitDefEqProofs only[↓Zd,(Zp),simprocAttr,qP,Value.cells,cut,qC,cld2,(HEx),c1,hne2]
  exact hR _ (lP (lP (lN (lT l1 hs2)) (by omega)) (by omega))
 ·by_cases h2:e.holder<0
  ·simp only[if_neg h1,if_pos h2,z3]at hR
   simp -implicitDefEqProofs only[↓Zd,(Zp),simprocAttr,qP,Value.cells,cut,qC,cld2,(HEx),(STx),hb,hne,g1,h1,h2]
   exact hR _ (by repeat (first|exact lR _|assumption|refine lN ?_|refine lP ?_ (by first|omega|(simp only[(Sn)];omega))|refine lT ?_ (by assumption)))
  ·simp only[if_neg h1,if_neg h2]at hR
   simp -implicitDefEqProofs only[↓Zd,(Zp),simprocAttr,Value.cells,cld2,(HEx),(STx),hb,hne,g1,g2,h1,h2,co47]
   refine hslot_spec (h.le l1) ho hsl fun s2 hs2=>?_
   have hn2:=hs2.1
   have c1:s2.at' s.next=some (.cells [.int .i64 0,.int .i64 0,.string ⟨#[]⟩] 36 true):=by rw[hs2.2 _ (by simp only[St.next_new];omega),St.at_new,if_pos rfl]
   simp only[St.next_new]at hn2
   have hne2:¬ s.next=s2.next:=by omega
   rw[gotV_z]
   simp -implicitDefEqProofs only[↓Zd,(Zp),simprocAttr,qP,Value.cells,cut,qC,cld2,(HEx),c1,hne2]
   exact hR _ (lP (lP (lN (lT l1 hs2)) (by omega)) (by omega))
theorem getD_at{α:Type}{l:List α}{k:Nat}{d:α}(h:k<l.length):l.getD k d=l[k]:=by
 rw[List.getD_eq_getElem?_getD,List.getElem?_eq_getElem h];rfl
theorem hitI_of{es:List Ent}{sh:Int}{j:Nat}(hj:j<es.length)(h1:decide (((es.getD j e0).shape:Int)=sh)=true)(h2:∀ k,k<j→decide (((es.getD k e0).shape:Int)=sh)=false):hitI es sh=some j:=by
 unfold hitI
 rw[List.findIdx?_eq_some_iff_getElem]
 rw[getD_at hj]at h1
 exact⟨hj,h1,fun k hk=>by have:=h2 k hk;rw[getD_at (by omega)]at this;rw[this];decide⟩
theorem hitI_no{es:List Ent}{sh:Int}(h:∀ k,k<es.length→decide (((es.getD k e0).shape:Int)=sh)=false):hitI es sh=none:=by
 unfold hitI
 rw[List.findIdx?_eq_none_iff]
 intro e he
 obtain⟨k,hk,rfl⟩:=List.getElem_of_mem he
 have:=h k hk
 rwa [getD_at hk]at this
theorem hitc_spec{e:Ent}{dl:Value}{sh:Int}{ib:Nat}(hb:s.at' ib=some (.cells [.int .i64 sh] 3 true))(hbn:ib<s.next)(hR:∀ s',s.le s'→R (.bool (decide ((e.shape:Int)=sh))) s') :
  QC prog w0 104 #[.agg (entC e dl).toArray,.pointer (some ⟨ib,0,none⟩)] s R:=by
 refine wfun2 hmix ok104 func104 rfl ntmps104 results104 (by simp) ?_
 have hne:¬ ib=s.next:=by omega
 simp only[entC]
 by_cases h1:(e.shape:Int)=sh
 ·rw[decide_eq_true h1]at hR
  simp -implicitDefEqProofs only[↓Zd,(Zp),simprocAttr,qP,Value.cells,cld2,(HEx),(STx),hb,hne,h1]
  exact hR _ (by repeat (first|exact lR _|assumption|refine lN ?_|refine lP ?_ (by first|omega|(simp only[(Sn)];omega))|refine lT ?_ (by assumption)))
 ·rw[decide_eq_false h1]at hR
  simp -implicitDefEqProofs only[↓Zd,(Zp),simprocAttr,qP,Value.cells,cld2,(HEx),(STx),hb,hne,h1]
  exact hR _ (by repeat (first|exact lR _|assumption|refine lN ?_|refine lP ?_ (by first|omega|(simp only[(Sn)];omega))|refine lT ?_ (by assumption)))
theorem keepc_spec{e u:Ent}{dl ul:Value}{ib:Nat}(hb:s.at' ib=some (.cells (entC u ul) 51 true))(hbn:ib<s.next)(hR:∀ s',s.le s'→R (.bool (decide ((e.shape:Int)=(u.shape:Int)))) s') :
  QC prog w0 107 #[.agg (entC e dl).toArray,.pointer (some ⟨ib,0,none⟩)] s R:=by
 refine wfun2 hmix ok107 func107 rfl ntmps107 results107 (by simp) ?_
 have hne:¬ ib=s.next:=by omega
 simp only[entC]at hb ⊢
 by_cases h1:(e.shape:Int)=(u.shape:Int)
 ·rw[decide_eq_true h1]at hR
  simp -implicitDefEqProofs only[↓Zd,(Zp),simprocAttr,qP,Value.cells,cld2,(HEx),(STx),hb,hne,h1]
  exact hR _ (by repeat (first|exact lR _|assumption|refine lN ?_|refine lP ?_ (by first|omega|(simp only[(Sn)];omega))|refine lT ?_ (by assumption)))
 ·rw[decide_eq_false h1]at hR
  simp -implicitDefEqProofs only[↓Zd,(Zp),simprocAttr,qP,Value.cells,cld2,(HEx),(STx),hb,hne,h1]
  exact hR _ (by repeat (first|exact lR _|assumption|refine lN ?_|refine lP ?_ (by first|omega|(simp only[(Sn)];omega))|refine lT ?_ (by assumption)))
theorem shit_spec{b n j:Nat}{c:Nat→List Value}{z:Sit}{v:Value}{sh:Int}(hb:s.at' b=some (.cells (rows c n) 96 true))(hbn:b<s.next)(hc:∀ i,(c i).length=5)(hj:j<n)(hcj:c j=sitC z v)(hE:EntsAt PY s O v z.es)(hO:∀ a,O a→a<s.next)(hl:z.es.length≤1000)
  (hno:hitI z.es sh=none→∀ s',s.le s'→R (.pointer none) s')(hyes:∀ (i eb:Nat),hitI z.es sh=some i→i<z.es.length→v = .slice (some ⟨eb,0,none⟩) z.es.length UNK→∀ s',s.le s'→R (.pointer (some ⟨eb,i*5,none⟩)) s') :
  QC prog w0 53 #[.pointer (some ⟨b,j*5,none⟩),.int .i64 sh] s R:=by
 refine wfun2 hmix ok53 func53 rfl ntmps53 results53 (by simp) ?_
 have g4:=rows_get0 hc hj (j:=4) (by omega)
 rw[hcj]at g4
 simp only[sitC,List.getElem?_cons_zero,List.getElem?_cons_succ]at g4
 have hne:¬ b=s.next:=by omega
 have l1:s.le (s.new (.cells [.int .i64 sh] 3 true)):=lN (lR _)
 obtain⟨dl,h1,h2,h3,h4⟩:=hE
 rcases h1 with ⟨g1,_,rfl⟩|⟨eb,junk,rfl,g2,g3⟩
 ·simp -implicitDefEqProofs only[↓Zd,(Zp),simprocAttr,qP,Value.cells,cld2,(HEx),(STx),hb,hne,g4,co103]
  refine ixe0_spec ?_
  simp -implicitDefEqProofs only[↓Zd,(Zp),simprocAttr,(HEx)]
  exact hno (hitI_no fun k hk=>by omega) _ l1
 ·have hebn:eb<s.next:=hO _ (h2 _ _ _ rfl)
  have hebne:¬ eb=s.next:=by omega
  simp -implicitDefEqProofs only[↓Zd,(Zp),simprocAttr,qP,Value.cells,cld2,(HEx),(STx),hb,hne,g4,co103]
  refine ixe_spec (c:=fun j=>entC (z.es.getD j e0) (dl j)) (junk:=junk) (q:=fun j=>decide (((z.es.getD j e0).shape:Int)=sh)) co104 (fun _=>rfl) (by rw[St.at_new,if_neg hebne];exact g2) (by simp only[St.next_new];omega) (by omega) (fun s' i R' hs' hi hR'=>?_) (fun s2 i hs2 hi hq hq2=>?_) (fun s2 hs2 hq=>?_)
  ·refine hitc_spec (ib:=s.next) ?_ ?_ hR'
   ·rw[hs'.2 _ (by simp only[St.next_new];omega),St.at_new,if_pos rfl]
   ·have:=hs'.1;simp only[St.next_new]at this;omega
  ·have hlt:¬ (i:Int)<0:=by omega
   have hii:(0:Int)≤(i:Int)∧(i:Int)<(z.es.length:Int):=by omega
   have hb2:s2.at' b=some (.cells (rows c n) 96 true):=by rw[hs2.2 _ (by simp only[St.next_new];omega),St.at_new,if_neg hne];exact hb
   simp -implicitDefEqProofs only[↓Zd,(Zp),simprocAttr,cld2,(HEx),(STx),hb2,g4,hlt,hii]
   exact hyes i eb (hitI_of hi hq hq2) hi rfl _ (lT l1 hs2)
  ·simp -implicitDefEqProofs only[↓Zd,(Zp),simprocAttr,(HEx)]
   exact hno (hitI_no hq) _ (lT l1 hs2)
theorem holdc_spec(h:HpIn lo s p H N P tg pf pn sl0 bs){d:Nat×Nat}{ib:Nat}(hb:s.at' ib=some (.cells [.pointer (some ⟨p,0,none⟩)] 23 true))(hbn:ib<s.next)(hd:d.1≤9223372036854775807)(hR:∀ s',s.le s'→R (.bool (decide (epochV H d.1≠(d.2:Int)))) s') :
  QC prog w0 106 #[.agg (depC d).toArray,.pointer (some ⟨ib,0,none⟩)] s R:=by
 refine wfun2 hmix ok106 func106 rfl ntmps106 results106 (by simp) ?_
 have hne:¬ ib=s.next:=by omega
 simp only[depC]
 have l1:s.le (s.new (.cells [.int .i64 (d.1:Int),.int .i64 (d.2:Int)] 99 true)):=lN (lR _)
 simp -implicitDefEqProofs only[↓Zd,(Zp),simprocAttr,qP,Value.cells,cld2,(HEx),(STx),hb,hne,ord106,co45]
 refine hepoch_spec (i:=(d.1:Int)) (h.le l1) (by omega) ?_
 by_cases h1:epochV H d.1=(d.2:Int)
 ·rw[decide_eq_false (fun hc=>hc h1)]at hR
  simp -implicitDefEqProofs only[↓Zd,(Zp),simprocAttr,cld2,(HEx),h1]
  exact hR _ (by repeat (first|exact lR _|assumption|refine lN ?_|refine lP ?_ (by first|omega|(simp only[(Sn)];omega))|refine lT ?_ (by assumption)))
 ·rw[decide_eq_true h1]at hR
  simp -implicitDefEqProofs only[↓Zd,(Zp),simprocAttr,cld2,(HEx),h1]
  exact hR _ (by repeat (first|exact lR _|assumption|refine lN ?_|refine lP ?_ (by first|omega|(simp only[(Sn)];omega))|refine lT ?_ (by assumption)))
theorem holds_all{H:Hp}{e:Ent}(h:∀ k,k<e.deps.length→decide (epochV H (e.deps.getD k (0,0)).1≠((e.deps.getD k (0,0)).2:Int))=false):holdsE H e=true:=by
 unfold holdsE
 rw[List.all_eq_true]
 intro d hd
 obtain⟨k,hk,rfl⟩:=List.getElem_of_mem hd
 have:=h k hk
 rw[getD_at hk]at this
 simpa using this
theorem holds_not{H:Hp}{e:Ent}{k:Nat}(hk:k<e.deps.length)(h:decide (epochV H (e.deps.getD k (0,0)).1≠((e.deps.getD k (0,0)).2:Int))=true):holdsE H e=false:=by
 cases hh:holdsE H e with
 |false=>rfl
 |true =>
  unfold holdsE at hh
  rw[List.all_eq_true]at hh
  rw[getD_at hk]at h
  have:=hh _ (List.getElem_mem hk)
  simp only[decide_eq_true_eq]at this h
  exact absurd this h
theorem sholds_spec(h:HpIn lo s p H N P tg pf pn sl0 bs){c:Nat→List Value}{n eb i:Nat}{junk:List Value}{e:Ent}{dl:Value}(hc:∀ i,(c i).length=5)(hb:s.at' eb=some (.cells (rows c n++junk) 51 true))(hbn:eb<s.next)(hi:i<n)(hci:c i=entC e dl)
  (hD:DepsAt PY s O dl e.deps)(hO:∀ a,O a→a<s.next)(hl:e.deps.length≤1000)(hd:∀ d∈e.deps,d.1≤9223372036854775807)(hR:∀ s',s.le s'→R (.bool (holdsE H e)) s') :
  QC prog w0 54 #[.pointer (some ⟨p,0,none⟩),.pointer (some ⟨eb,i*5,none⟩)] s R:=by
 refine wfun2 hmix ok54 func54 rfl ntmps54 results54 (by simp) ?_
 have g4:=rows_get hc junk hi (j:=4) (by omega)
 rw[hci]at g4
 simp only[entC,List.getElem?_cons_zero,List.getElem?_cons_succ]at g4
 have hne:¬ eb=s.next:=by omega
 have l1:s.le (s.new (.cells [.pointer (some ⟨p,0,none⟩)] 23 true)):=lN (lR _)
 obtain⟨h1,h2,_⟩:=hD
 simp -implicitDefEqProofs only[↓Zd,(Zp),simprocAttr,qP,Value.cells,cld2,(HEx),(STx),hb,hne,g4,co105]
 refine wfun2 hmix ok105 func105 rfl ntmps105 results105 (by simp) ?_
 rcases h1 with ⟨g1,_,rfl⟩|⟨db,junk2,rfl,g2,g3⟩
 ·rw[holds_all fun k hk=>by omega]at hR
  simp -implicitDefEqProofs only[↓Zd,(Zp),simprocAttr,co139]
  refine ixd0_spec ?_
  simp -implicitDefEqProofs only[↓Zd,(Zp),simprocAttr,(HEx)]
  exact hR _ l1
 ·have hdbn:db<s.next:=hO _ (h2 _ _ _ rfl)
  have hdbne:¬ db=s.next:=by omega
  simp -implicitDefEqProofs only[↓Zd,(Zp),simprocAttr,co139]
  refine ixd_spec (c:=fun j=>depC (e.deps.getD j (0,0))) (junk:=junk2) (q:=fun j=>decide (epochV H (e.deps.getD j (0,0)).1≠((e.deps.getD j (0,0)).2:Int))) co106 (fun _=>rfl) (by rw[St.at_new,if_neg hdbne];exact g2) (by simp only[St.next_new];omega) (by omega) (fun s' i R' hs' hi hR'=>?_) (fun s2 i hs2 hi hq hq2=>?_) (fun s2 hs2 hq=>?_)
  ·refine holdc_spec (h.le (lT l1 hs')) (ib:=s.next) ?_ ?_ ?_ hR'
   ·rw[hs'.2 _ (by simp only[St.next_new];omega),St.at_new,if_pos rfl]
   ·have:=hs'.1;simp only[St.next_new]at this;omega
   ·rw[getD_at hi];exact hd _ (List.getElem_mem hi)
  ·rw[holds_not hi hq]at hR
   have hlt:(0:Int)≤(i:Int):=by omega
   simp -implicitDefEqProofs only[↓Zd,(Zp),simprocAttr,(HEx),hlt]
   exact hR _ (lT l1 hs2)
  ·rw[holds_all hq]at hR
   simp -implicitDefEqProofs only[↓Zd,(Zp),simprocAttr,(HEx)]
   exact hR _ (lT l1 hs2)
end
theorem bEnt0:cbuild prog 51 #[]=some (.agg #[.int .i64 0,.int .i64 0,.int .i64 0,.int .i64 0,.slice none 0 0]):=by kernel_rfl
theorem bEnt1(a:Int):cbuild prog 51 #[(0,.int .i64 a)]=some (.agg #[.int .i64 a,.int .i64 0,.int .i64 0,.int .i64 0,.slice none 0 0]):=by kernel_rfl
theorem bEnt2(a b:Int):cbuild prog 51 #[(0,.int .i64 a),(2,.int .i64 b)]=some (.agg #[.int .i64 a,.int .i64 0,.int .i64 b,.int .i64 0,.slice none 0 0]):=by kernel_rfl
theorem bDep2(a b:Int):cbuild prog 99 #[(0,.int .i64 a),(1,.int .i64 b)]=some (.agg #[.int .i64 a,.int .i64 b]):=by kernel_rfl
theorem rowDep(a b:Int):crow prog 49 1 #[(0,.agg #[.int .i64 a,.int .i64 b])]=some (.cells [.int .i64 a,.int .i64 b] 99 true):=by kernel_rfl
section
variable {lo p N:Nat}{H:Hp}{O P:Nat→Prop}{tg:Nat→Nat}{pf pn:Nat}{sl0:Value}{bs:List Nat}
theorem deps_more{s':St M}{acc:List (Nat×Nat)}{d:Nat×Nat}{b:Nat}(hb:s'.at' b=some (.cells (rows (fun j=>depC (acc.getD j (0,0))) acc.length ++ [.int .i64 (d.1:Int),.int .i64 (d.2:Int)]) 99 true))(hO:O b):DepsAt PY s' O (.slice (some ⟨b,0,none⟩) (acc.length+1) UNK) (acc ++ [d]):=by
 refine⟨.inr ⟨b,[],by simp,?_,?_⟩,fun q n c e=>by cases e;exact hO,fun h=>by simp at h⟩
 ·rw[hb,List.append_nil,List.length_append]
  show some (Blk.cells _ _ true)=some (.cells (rows _ (acc.length+1)) _ true)
  rw[rows_succ,rows_congr (c:=fun j=>depC ((acc ++ [d]).getD j (0,0))) (d:=fun j=>depC (acc.getD j (0,0))) fun j hj=>by rw[List.getD_eq_getElem?_getD,List.getD_eq_getElem?_getD,List.getElem?_append_left hj]]
  simp[depC]
  rfl
 ·exact rows_len (k:=2) (fun _=>rfl) _
theorem slook_spec(h:HpIn lo s p H N P tg pf pn sl0 bs)(hpro:HPro H){o:Int}{x:ByteArray}(ho : -9223372036854775808≤o∧o≤9223372036854775807)
  (hno:∀ s',s.le s'→LookE H x o none→R (.tuple #[.agg #[.int .i64 0,.int .i64 0,.int .i64 0,.int .i64 0,.slice none 0 0],.bool false]) s')
  (hyes:∀ s' e dl,s.le s'→LookE H x o (some e)→DepsAt PY s' (fun b=>s.next≤b∧b<s'.next) dl e.deps→R (.tuple #[.agg (entC e dl).toArray,.bool true]) s') :
  QC prog w0 56 #[.pointer (some ⟨p,0,none⟩),.int .i64 o,.string x] s R:=by
 refine wfun2 hmix ok56 func56 rfl ntmps56 results56 (by simp) ?_
 have l1:s.le (s.new (.cells [.int .i64 0,.int .i64 0,.int .i64 0,.int .i64 0,.slice none 0 0] 51 true)):=lN (lR _)
 have hsh0:0≤shapeV H o:=by unfold shapeV;split<;>omega
 have hlim:=h.ok.lim
 have hshb:∀ i,0≤shapeV H i∧shapeV H i≤9223372036854775807:=fun i=>by
  unfold shapeV
  split
  ·rename_i o' ho'
   refine⟨by omega,?_⟩
   by_cases hs:0<o'.shape
   ·obtain⟨l,hl⟩:=fits_at h.ok hpro ho' hs
    have:=(List.getElem?_eq_some_iff.1 hl).1
    have:=h.fo.le
    omega
   ·omega
  ·omega
 simp -implicitDefEqProofs only[↓Zd,(Zp),simprocAttr,Value.cells,(STx),co12]
 refine hshape_spec (h.le l1) ho ?_
 have hBA:¬ s.next+1=s.next:=by omega
 have hAB:¬ s.next=s.next+1:=by omega
 have l2:s.le (((s.new (.cells [.int .i64 0,.int .i64 0,.int .i64 0,.int .i64 0,.slice none 0 0] 51 true)).new (.cells [.int .i64 0,.int .i64 0,.int .i64 0,.int .i64 0,.slice none 0 0] 51 true)).put (s.next+1) (.cells [.int .i64 (shapeV H o),.int .i64 0,.int .i64 0,.int .i64 0,.slice none 0 0] 51 true)):=lP (lN l1) (by omega)
 have cA1:(((s.new (.cells [.int .i64 0,.int .i64 0,.int .i64 0,.int .i64 0,.slice none 0 0] 51 true)).new (.cells [.int .i64 0,.int .i64 0,.int .i64 0,.int .i64 0,.slice none 0 0] 51 true)).put (s.next+1) (.cells [.int .i64 (shapeV H o),.int .i64 0,.int .i64 0,.int .i64 0,.slice none 0 0] 51 true)).at' s.next=some (.cells [.int .i64 0,.int .i64 0,.int .i64 0,.int .i64 0,.slice none 0 0] 51 true):=by rw[St.at_put,if_neg hAB,St.at_new,if_neg (by simp only[St.next_new];omega),St.at_new,if_pos rfl]
 have cB1:(((s.new (.cells [.int .i64 0,.int .i64 0,.int .i64 0,.int .i64 0,.slice none 0 0] 51 true)).new (.cells [.int .i64 0,.int .i64 0,.int .i64 0,.int .i64 0,.slice none 0 0] 51 true)).put (s.next+1) (.cells [.int .i64 (shapeV H o),.int .i64 0,.int .i64 0,.int .i64 0,.slice none 0 0] 51 true)).at' (s.next+1)=some (.cells [.int .i64 (shapeV H o),.int .i64 0,.int .i64 0,.int .i64 0,.slice none 0 0] 51 true):=by rw[St.at_put,if_pos rfl]
 have n1:(((s.new (.cells [.int .i64 0,.int .i64 0,.int .i64 0,.int .i64 0,.slice none 0 0] 51 true)).new (.cells [.int .i64 0,.int .i64 0,.int .i64 0,.int .i64 0,.slice none 0 0] 51 true)).put (s.next+1) (.cells [.int .i64 (shapeV H o),.int .i64 0,.int .i64 0,.int .i64 0,.slice none 0 0] 51 true)).next=s.next+2:=rfl
 simp -implicitDefEqProofs only[↓Zd,(Zp),simprocAttr,qP,Value.cells,qC,cld2,(HEx),(STx),bEnt1,co62]
 generalize ((s.new (.cells [.int .i64 0,.int .i64 0,.int .i64 0,.int .i64 0,.slice none 0 0] 51 true)).new (.cells [.int .i64 0,.int .i64 0,.int .i64 0,.int .i64 0,.slice none 0 0] 51 true)).put (s.next+1) (.cells [.int .i64 (shapeV H o),.int .i64 0,.int .i64 0,.int .i64 0,.slice none 0 0] 51 true)=s1 at l2 cA1 cB1 n1 ⊢
 refine hslotof_spec (i:=shapeV H o) (h.le l2) (by have:=hshb o;omega) fun s2 hs2=>?_
 have hn2:=hs2.1
 have cA2:=(hs2.2 s.next (by omega)).trans cA1
 have cB2:=(hs2.2 (s.next+1) (by omega)).trans cB1
 have hs2':=lT l2 hs2
 have hyes2:∀ s' (e:Ent) (dl:Value) {a b c d:Int},(e.shape:Int)=a→e.holder=b→e.slot=c→(e.to:Int)=d→s.le s'→LookE H x o (some e)→DepsAt PY s' (fun b=>s.next≤b∧b<s'.next) dl e.deps→R (.tuple #[.agg #[.int .i64 a,.int .i64 b,.int .i64 c,.int .i64 d,dl],.bool true]) s':=by
  rintro s' e dl _ _ _ _ rfl rfl rfl rfl h1 h2 h3
  exact hyes s' e dl h1 h2 h3
 clear hyes
 have hsn:=Int.toNat_of_nonneg hsh0
 by_cases hk:0≤slotOf H (shapeV H o) x
 ·simp -implicitDefEqProofs only[↓Zd,(Zp),simprocAttr,qP,Value.cells,cut,qC,cld2,(HEx),(STx),cA2,cB2,hAB,hk]
  exact hyes2 _ ⟨(shapeV H o).toNat,0,slotOf H (shapeV H o) x,0,[]⟩ _ hsn rfl rfl rfl (lP (lP hs2' (by omega)) (by omega)) (by unfold LookE;rw[if_pos hk]) ⟨.inl ⟨rfl,rfl,rfl⟩,fun q n c e=>(by cases e),fun _=>rfl⟩
 have hle:∀ {q},LookR H x (protoV H o) q→LookE H x o (q.map fun q=>⟨(shapeV H o).toNat,q.2.1,q.2.2,0,q.1⟩):=fun hq=>by
  unfold LookE
  rw[if_neg hk]
  exact⟨_,hq,rfl⟩
 obtain⟨d,hd,hdl⟩:=deep_few h.ok
 have hpv:∀ i,protoV H i=0∨∃ j:Nat,j<H.obs.length∧protoV H i=((j+1:Nat):Int):=fun i=>by
  unfold protoV
  split
  ·rename_i o' ho'
   obtain⟨j,rfl,hj,hoj⟩:=obAt_some ho'
   by_cases h0:o'.proto=0
   ·exact .inl (by rw[h0];rfl)
   ·rcases hd j o' hoj with h1|⟨h1,_⟩
    ·exact absurd h1 h0
    ·exact .inr ⟨o'.proto - 1,by omega,by omega⟩
  ·exact .inl rfl
 simp -implicitDefEqProofs only[↓Zd,(Zp),simprocAttr,qP,Value.cells,qC,cld2,(HEx),(STx),cB2,hk,co73]
 refine hproto_spec (h.le (lP hs2' (by omega))) ho ?_
 simp -implicitDefEqProofs only[↓Zd,(Zp),simprocAttr,(HEx)]
 have hstep:∀ j:Nat,j<H.obs.length→(if protoV H ((j+1:Nat):Int)=0 then 0 else d (protoV H ((j+1:Nat):Int)).toNat+1)<d (j+1)+1:=fun j hj=>by
  have ho':H.obs[j]?=some H.obs[j]:=List.getElem?_eq_getElem hj
  have hpr:protoV H ((j+1:Nat):Int)=(H.obs[j].proto:Int):=by unfold protoV;rw[obAt_get,ho']
  rw[hpr]
  split
  ·omega
  ·rw[Int.toNat_natCast]
   rcases hd j _ ho' with h1|⟨_,h1⟩<;>omega
 refine wloop_inv hmix (fun fuel env s'=>env 0 = .pointer (some ⟨p,0,none⟩)∧env 2 = .string x∧env 6 = .pointer (some ⟨s.next,0,none⟩)∧env 8 = .pointer (some ⟨s.next+1,0,none⟩) ∧
  ∃ (p1:Int) (acc:List (Nat×Nat)) (dl:Value),env 9 = .int .i64 p1∧(p1=0∨∃ j:Nat,j<H.obs.length∧p1=((j+1:Nat):Int))∧fuel=(if p1=0 then 0 else d p1.toNat+1)∧acc.length+fuel≤201∧s.le s'∧s.next+2≤s'.next ∧
   s'.at' s.next=some (.cells [.int .i64 0,.int .i64 0,.int .i64 0,.int .i64 0,.slice none 0 0] 51 true)∧s'.at' (s.next+1)=some (.cells [.int .i64 (shapeV H o),.int .i64 0,.int .i64 (slotOf H (shapeV H o) x),.int .i64 0,dl] 51 true) ∧
   DepsAt PY s' (fun b=>s.next+2≤b∧b<s'.next) dl acc∧(∀ q,LookR H x p1 q→LookR H x (protoV H o) (q.map fun q=>(acc++q.1,q.2.1,q.2.2)))) (if protoV H o=0 then 0 else d (protoV H o).toNat+1) ?_ ?_
 ·refine⟨rfl,rfl,rfl,rfl,protoV H o,[],.slice none 0 0,rfl,hpv o,rfl,?_,lP hs2' (by omega),?_,?_,?_,⟨.inl ⟨rfl,rfl,rfl⟩,fun q n c e=>(by cases e),fun _=>rfl⟩,fun q hq=>?_⟩
  ·rcases hpv o with h0|⟨j,hj,h0⟩
   ·rw[if_pos h0];simp
   ·rw[if_neg (by omega),h0,Int.toNat_natCast]
    have:=hdl j hj
    simp;omega
  ·simp only[St.next_put];omega
  ·rw[St.at_put,if_neg hAB];exact cA2
  ·rw[St.at_put,if_pos rfl]
  ·cases q with
   |none=>exact hq
   |some q=>exact hq
 rintro fuel env s3 ⟨e0,e2,e6,e8,p1,acc,dl,e9,hp1,rfl,hfl,hs3,hn3,cA3,cB3,hD3,him⟩
 obtain⟨qa,qn,qc,rfl⟩:∃ a n c,dl=Value.slice a n c:=by rcases hD3.1 with ⟨_,_,e⟩|⟨b,_,e,_⟩<;>exact⟨_,_,_,e⟩
 by_cases h0:p1=0
 ·subst h0
  simp -implicitDefEqProofs only[↓Zd,(Zp),simprocAttr,qP,Value.cells,cut,qC,cld2,(HEx),(STx),e6,e8,e9,cA3,cB3,hAB]
  have hk0:=hle (him _ .stop)
  simp only[Option.map_some,List.append_nil]at hk0
  refine hyes2 _ ⟨(shapeV H o).toNat,-1,0,0,acc⟩ _ hsn rfl rfl rfl ?_ hk0 ⟨hD3.1.same fun q n c e=>?_,fun q n c e=>?_,hD3.2.2⟩
  ·exact (by repeat (first|exact lR _|assumption|refine lN ?_|refine lP ?_ (by first|omega|(simp only[(Sn)];omega))|refine lT ?_ (by assumption)))
  ·have:=hD3.2.1 q n c e
   rw[St.at_put,if_neg (by omega),St.at_put,if_neg (by omega),St.at_put,if_neg (by omega)]
  ·have:=hD3.2.1 q n c e
   exact⟨by omega,this.2⟩
 rcases hp1 with hp1|⟨j1,hj1,rfl⟩
 ·exact absurd hp1 h0
 have hb1 : -9223372036854775808≤((j1+1:Nat):Int)∧((j1+1:Nat):Int)≤9223372036854775807:=by omega
 rw[if_neg h0,Int.toNat_natCast]at hfl ⊢
 have h3:=h.le hs3
 simp -implicitDefEqProofs only[↓Zd,(Zp),simprocAttr,e0,e9,h0,co12]
 refine hshape_spec h3 hb1 ?_
 by_cases hs0:shapeV H ((j1+1:Nat):Int)=0
 ·rw[hs0]
  simp -implicitDefEqProofs only[↓Zd,(Zp),simprocAttr,qP,Value.cells,cut,qC,cld2,(HEx),(STx),e6,cA3,bEnt0]
  exact hno _ (lP hs3 (by omega)) (hle (him _ (.loose h0 hs0)))
 simp -implicitDefEqProofs only[↓Zd,(Zp),simprocAttr,cld2,(HEx),(STx),e0,e8,e9,cB3,hs0,ord56,co45]
 refine hepoch_spec h3 hb1 ?_
 simp -implicitDefEqProofs only[↓Zd,(Zp),simprocAttr,cld2,(HEx),(STx),cB3,bDep2,rowDep]
 have hep:0≤epochV H ((j1+1:Nat):Int):=by unfold epochV;split<;>omega
 have hepn:=Int.toNat_of_nonneg hep
 refine wch_appDep rfl rfl (by omega) hD3.1 (fun q m c e=>(hD3.2.1 q m c e).2) fun s5 hn5 hb5 hk5=>?_
 have hl5:s.le s5:=⟨by have:=hs3.1;omega,fun c hc=>by rw[hk5 c (by have:=hs3.1;omega) (fun q n c' e=>by have:=(hD3.2.1 q n c' e).1;omega)];exact hs3.2 c hc⟩
 have cA5:=(hk5 s.next (by omega) (fun q n c' e=>by have:=(hD3.2.1 q n c' e).1;omega)).trans cA3
 have cB5:=(hk5 (s.next+1) (by omega) (fun q n c' e=>by have:=(hD3.2.1 q n c' e).1;omega)).trans cB3
 simp -implicitDefEqProofs only[↓Zd,(Zp),simprocAttr,qP,Value.cells,qC,(STx),e0,e8,e9,cB5,co12]
 have l6:s.le (s5.put (s.next+1) (.cells [.int .i64 (shapeV H o),.int .i64 0,.int .i64 (slotOf H (shapeV H o) x),.int .i64 0,.slice (some ⟨s3.next+1,0,none⟩) (acc.length+1) UNK] 51 true)):=lP hl5 (by omega)
 have cA6:(s5.put (s.next+1) (.cells [.int .i64 (shapeV H o),.int .i64 0,.int .i64 (slotOf H (shapeV H o) x),.int .i64 0,.slice (some ⟨s3.next+1,0,none⟩) (acc.length+1) UNK] 51 true)).at' s.next=some (.cells [.int .i64 0,.int .i64 0,.int .i64 0,.int .i64 0,.slice none 0 0] 51 true):=by rw[St.at_put,if_neg hAB];exact cA5
 have cB6:(s5.put (s.next+1) (.cells [.int .i64 (shapeV H o),.int .i64 0,.int .i64 (slotOf H (shapeV H o) x),.int .i64 0,.slice (some ⟨s3.next+1,0,none⟩) (acc.length+1) UNK] 51 true)).at' (s.next+1)=some (.cells [.int .i64 (shapeV H o),.int .i64 0,.int .i64 (slotOf H (shapeV H o) x),.int .i64 0,.slice (some ⟨s3.next+1,0,none⟩) (acc.length+1) UNK] 51 true):=by rw[St.at_put,if_pos rfl]
 have cD6:=deps_more (s':=s5.put (s.next+1) (.cells [.int .i64 (shapeV H o),.int .i64 0,.int .i64 (slotOf H (shapeV H o) x),.int .i64 0,.slice (some ⟨s3.next+1,0,none⟩) (acc.length+1) UNK] 51 true)) (O:=fun b=>s.next+2≤b∧b<s3.next+2) (acc:=acc) (d:=(j1+1,(epochV H ((j1+1:Nat):Int)).toNat)) (b:=s3.next+1) (by rw[St.at_put,if_neg (by omega),hb5];simp only[hepn]) ⟨by omega,by omega⟩
 have n6:(s5.put (s.next+1) (.cells [.int .i64 (shapeV H o),.int .i64 0,.int .i64 (slotOf H (shapeV H o) x),.int .i64 0,.slice (some ⟨s3.next+1,0,none⟩) (acc.length+1) UNK] 51 true)).next=s3.next+2:=hn5
 generalize s5.put (s.next+1) (.cells [.int .i64 (shapeV H o),.int .i64 0,.int .i64 (slotOf H (shapeV H o) x),.int .i64 0,.slice (some ⟨s3.next+1,0,none⟩) (acc.length+1) UNK] 51 true)=s6 at l6 cA6 cB6 cD6 n6 ⊢
 refine hshape_spec (h.le l6) hb1 ?_
 simp -implicitDefEqProofs only[↓Zd,(Zp),simprocAttr,(HEx),e2,co62]
 refine hslotof_spec (i:=shapeV H ((j1+1:Nat):Int)) (h.le l6) (by have:=hshb ((j1+1:Nat):Int);omega) fun s7 hs7=>?_
 have hn7:=hs7.1
 have l7:=lT l6 hs7
 have cA7:=(hs7.2 s.next (by omega)).trans cA6
 have cB7:=(hs7.2 (s.next+1) (by omega)).trans cB6
 have cD7:=cD6.same (s':=s7) (O':=fun b=>s.next+2≤b∧b<s3.next+2) fun b hb=>⟨hb,hs7.2 b (by omega)⟩
 have hnat:(((j1+1:Nat):Int)).toNat=j1+1:=Int.toNat_natCast _
 by_cases hk7:0≤slotOf H (shapeV H ((j1+1:Nat):Int)) x
 ·simp -implicitDefEqProofs only[↓Zd,(Zp),simprocAttr,qP,Value.cells,cut,qC,cld2,(HEx),(STx),e6,e8,e9,cA7,cB7,hAB,hk7]
  have hlk:=hle (him _ (.hit h0 hs0 hk7))
  simp only[Option.map_some,hnat]at hlk
  refine hyes2 _ ⟨(shapeV H o).toNat,((j1+1:Nat):Int),_,0,acc ++ [(j1+1,(epochV H ((j1+1:Nat):Int)).toNat)]⟩ _ hsn rfl rfl rfl ?_ hlk ⟨cD7.1.same fun q n c e=>?_,fun q n c e=>?_,cD7.2.2⟩
  ·exact (by repeat (first|exact lR _|assumption|refine lN ?_|refine lP ?_ (by first|omega|(simp only[(Sn)];omega))|refine lT ?_ (by assumption)))
  ·have:=cD7.2.1 q n c e
   rw[St.at_put,if_neg (by omega),St.at_put,if_neg (by omega),St.at_put,if_neg (by omega)]
  ·have:=cD7.2.1 q n c e
   simp only[St.next_put]
   exact⟨by omega,by omega⟩
 ·simp -implicitDefEqProofs only[↓Zd,(Zp),simprocAttr,(HEx),e0,e9,hk7,co73]
  refine hproto_spec (h.le l7) hb1 ?_
  have hst:=hstep j1 hj1
  simp -implicitDefEqProofs only[↓Zd,(Zp),simprocAttr,(HEx),e0,e2,e6,e8]
  refine⟨_,hst,_,_,_,rfl,hpv _,rfl,?_,l7,by omega,cA7,cB7,cD7.same fun b hb=>⟨⟨hb.1,by omega⟩,rfl⟩,fun q hq=>?_⟩
  ·rw[List.length_append];simp only[List.length_cons,List.length_nil];omega
  ·have:=him _ (.up h0 hs0 (by omega) hq)
   cases q with
   |none=>exact this
   |some q=>simpa [hnat] using this
end
theorem rowE0:crow prog 42 0 #[]=some (.cells [] 51 true):=by kernel_rfl
theorem rowD0:crow prog 49 0 #[]=some (.cells [] 99 true):=by kernel_rfl
theorem rowEnt(a b c d:Int)(q:Option Addr)(n m:Nat):crow prog 42 1 #[(0,.agg #[.int .i64 a,.int .i64 b,.int .i64 c,.int .i64 d,.slice q n m])]=some (.cells [.int .i64 a,.int .i64 b,.int .i64 c,.int .i64 d,.slice q n m] 51 true):=by cases q<;>kernel_rfl
theorem rows_set5{c:Nat→List Value}{n i:Nat}{v0 v1 v2 v3 v4:Value}(hc:∀ i,(c i).length=5)(junk:List Value)(hi:i<n) :
  ((((((rows c n++junk).set (i*5) v0).set (i*5+1) v1).set (i*5+2) v2).set (i*5+3) v3).set (i*5+4) v4)=rows (fun m=>if m=i then [v0,v1,v2,v3,v4] else c m) n++junk:=by
 obtain⟨l⟩:∃ l,c i=l:=⟨_,rfl⟩
 have h5:=hc i
 obtain⟨w0,w1,w2,w3,w4,hl⟩:∃ w0 w1 w2 w3 w4,c i=[w0,w1,w2,w3,w4]:=by
  match hcl:c i,h5 with
  | [w0,w1,w2,w3,w4],_=>exact⟨_,_,_,_,_,rfl⟩
 have step:∀ (d d':List Value) (k:Nat) (v:Value),d.length=5→k<5→d'=d.set k v→(rows (fun m=>if m=i then d else c m) n++junk).set (i*5+k) v=rows (fun m=>if m=i then d' else c m) n++junk:=fun d d' k v hd hk he =>
  rows_set (k:=5) (fun m=>by (try dsimp only);split;exact hd;exact hc m) (fun m=>by (try dsimp only);split;rw[he,List.length_set];exact hd;exact hc m) junk hi hk (fun m hm=>by (try dsimp only);rw[if_neg hm,if_neg hm]) (by (try dsimp only);rw[if_pos rfl,if_pos rfl];exact he)
 have h0:rows c n=rows (fun m=>if m=i then [w0,w1,w2,w3,w4] else c m) n:=rows_congr fun m hm=>by
  split
  ·rename_i e;rw[e,hl]
  ·rfl
 have s0:=step [w0,w1,w2,w3,w4] [v0,w1,w2,w3,w4] 0 v0 rfl (by omega) rfl
 rw[Nat.add_zero]at s0
 rw[h0,s0,step [v0,w1,w2,w3,w4] [v0,v1,w2,w3,w4] 1 v1 rfl (by omega) rfl,step [v0,v1,w2,w3,w4] [v0,v1,v2,w3,w4] 2 v2 rfl (by omega) rfl,step [v0,v1,v2,w3,w4] [v0,v1,v2,v3,w4] 3 v3 rfl (by omega) rfl,step [v0,v1,v2,v3,w4] [v0,v1,v2,v3,v4] 4 v4 rfl (by omega) rfl]
theorem okc_slice(a:Option Addr)(n c:Nat):qC (.slice a n c)=true:=by cases a<;>rfl
theorem rows_ok{c:Nat→List Value}{n:Nat}(h:∀ i,i<n→(c i).all qC=true):(rows c n).all qC=true:=by
 induction n with
 |zero=>rfl
 |succ n ih =>
  rw[rows_succ,List.all_append,ih (fun i hi=>h i (by omega)),h n (by omega)]
  rfl
section
variable {lo t N:Nat}{T:Tab}{O:Nat→Prop}{al:Value}{rb cp:Nat→Nat}{sl:Nat→Nat→Value}
theorem DepsAt.form{Y:STy}{dl:Value}{ds:List (Nat×Nat)}(h:DepsAt Y s O dl ds):∃ a n c,dl = .slice a n c:=by
 rcases h.1 with ⟨_,_,e⟩|⟨b,_,e,_⟩<;>exact⟨_,_,_,e⟩
theorem cloneEnt0(hR:R (.slice none 0 0) s):QC prog w0 140 #[.slice none 0 0] s R:=by
 refine wfun2 hmix ok140 func140 rfl ntmps140 results140 (by simp) ?_
 simp -implicitDefEqProofs only[↓Zd,(Zp),simprocAttr,(STx)]
 exact hR
theorem cloneEnt1{b n:Nat}{cs junk:List Value}(hn:n≠0)(hlen:n≤1000000)(hok:cs.all qC=true)(hb:s.at' b=some (.cells (cs++junk) 51 true))(hbn:b<s.next)(hcs:cs.length=n*5)
  (hR:∀ s' cb,cb=s.next+1→s'.next=s.next+2→s.le s'→s'.at' cb=some (.cells cs 51 true)→R (.slice (some ⟨cb,0,none⟩) n UNK) s'):QC prog w0 140 #[.slice (some ⟨b,0,none⟩) n UNK] s R:=by
 refine wfun2 hmix ok140 func140 rfl ntmps140 results140 (by simp) ?_
 simp -implicitDefEqProofs only[↓Zd,(Zp),simprocAttr,(STx),rowE0]
 refine clEnt hn hlen hok hb hbn hcs fun s' h1 h2 h3=>?_
 simp -implicitDefEqProofs only[↓Zd,(Zp),simprocAttr]
 exact hR s' _ rfl h1 ⟨by omega,h3⟩ h2
theorem cloneDep0(hR:R (.slice none 0 0) s):QC prog w0 37 #[.slice none 0 0] s R:=by
 refine wfun2 hmix ok37 func37 rfl ntmps37 results37 (by simp) ?_
 simp -implicitDefEqProofs only[↓Zd,(Zp),simprocAttr,(STx)]
 exact hR
theorem cloneDep1{b n:Nat}{cs junk:List Value}(hn:n≠0)(hlen:n≤1000000)(hok:cs.all qC=true)(hb:s.at' b=some (.cells (cs++junk) 99 true))(hbn:b<s.next)(hcs:cs.length=n*2)
  (hR:∀ s' cb,cb=s.next+1→s'.next=s.next+2→s.le s'→s'.at' cb=some (.cells cs 99 true)→R (.slice (some ⟨cb,0,none⟩) n UNK) s'):QC prog w0 37 #[.slice (some ⟨b,0,none⟩) n UNK] s R:=by
 refine wfun2 hmix ok37 func37 rfl ntmps37 results37 (by simp) ?_
 simp -implicitDefEqProofs only[↓Zd,(Zp),simprocAttr,(STx),rowD0]
 refine clDep hn hlen hok hb hbn hcs fun s' h1 h2 h3=>?_
 simp -implicitDefEqProofs only[↓Zd,(Zp),simprocAttr]
 exact hR s' _ rfl h1 ⟨by omega,h3⟩ h2
theorem wch_appEntV{v:Value}{cs new:List Value}{k vb:Nat}{K:Value→St M→Prop}(hvb:s.at' vb=some (.cells new 51 true))(hnew:new.length=5)(hok:new.all qC=true)(hlen:k≤1000000)(hsl:SlU 51 5 s v cs k)
  (h:∀ s',s'.next=s.next+1→s'.at' s.next=some (.cells (cs++new) 51 true)→(∀ b,b≠s.next→(∀ q n c,v = .slice (some q) n c→b≠q.block)→s'.at' b=s.at' b)→K (.slice (some ⟨s.next,0,none⟩) (k+1) UNK) s') :
  wch (capp prog #[42,42] #[v,.slice (some ⟨vb,0,none⟩) 1 1] s) K:=by
 obtain⟨ie,hie,h1,h2,h3⟩:=infoEnt
 have hv:cmore ie.size (.slice (some ⟨vb,0,none⟩) 1 1) s=some (1,new):=by
  simp only[more_at,hvb,more2,h1]
  rw[cut_all (by omega)];rfl
 obtain⟨s',g3,g4,g5,g6⟩:=app_rowU (n:=k) (k:=1) hie ze51 (by rw[h1];rfl) h2 (app_eq underlying42 underlying42 hie) (by omega) (by
  have:(k+1)*ie.bytes≤1000001*100:=Nat.mul_le_mul (by omega) h3
  omega) hok hv (by rw[h1];exact hsl)
 exact⟨_,s',g3,h s' g4 g5 g6⟩
theorem bounded0{e:Ent}{dl:Value}(hdl:∃ a n c,dl = .slice a n c)(hR:∀ s' b',s.le s'→s.next≤b'→b' < s'.next→s'.at' b'=some (.cells (entC e dl) 51 true)→R (.tuple #[.slice (some ⟨b',0,none⟩) 1 UNK,.bool true]) s') :
  QC prog w0 108 #[.slice none 0 0,.agg (entC e dl).toArray,.int .i64 4] s R:=by
 refine wfun2 hmix ok108 func108 rfl ntmps108 results108 (by simp) ?_
 obtain⟨a,n,c,rfl⟩:=hdl
 simp only[entC]at hR ⊢
 simp -implicitDefEqProofs only[↓Zd,(Zp),simprocAttr,qP,Value.cells,cut,cld2,(STx),ord108,rowEnt,co140]
 refine cloneEnt0 ?_
 simp -implicitDefEqProofs only[↓Zd,(Zp),simprocAttr,cut,cld2,(STx)]
 refine wch_appEntV (k:=0) (cs:=[]) (vb:=s.next+1) (by rw[St.at_new,if_pos (by simp only[St.next_new])]) rfl (by simp[qC]) (by omega) (.inl ⟨rfl,rfl,rfl⟩) fun s' h1 h2 h3=>?_
 simp -implicitDefEqProofs only[↓Zd,(Zp),simprocAttr]
 refine hR s' _ ⟨?_,fun c hc=>?_⟩ ?_ ?_ h2
 ·simp only[St.next_new]at h1;omega
 ·rw[h3 c (by simp only[St.next_new];omega) (fun q n c e=>by cases e),St.at_new,if_neg (by simp only[St.next_new];omega),St.at_new,if_neg (by omega)]
 ·(try simp only[St.next_new]);omega
 ·(try simp only[St.next_new]at h1 ⊢);omega
theorem bounded1{e:Ent}{dl:Value}{n b:Nat}{cs junk:List Value}(hdl:∃ a n c,dl = .slice a n c)(hn:n≠0)(hn4:n<4)(hok:cs.all qC=true)(hb:s.at' b=some (.cells (cs++junk) 51 true))(hbn:b<s.next)(hcs:cs.length=n*5)
  (hR:∀ s' b',s.le s'→s.next≤b'→b' < s'.next→s'.at' b'=some (.cells (cs++entC e dl) 51 true)→R (.tuple #[.slice (some ⟨b',0,none⟩) (n+1) UNK,.bool true]) s') :
  QC prog w0 108 #[.slice (some ⟨b,0,none⟩) n UNK,.agg (entC e dl).toArray,.int .i64 4] s R:=by
 refine wfun2 hmix ok108 func108 rfl ntmps108 results108 (by simp) ?_
 obtain⟨a,m,c,rfl⟩:=hdl
 simp only[entC]at hR ⊢
 have h4:¬ (4:Int)≤(n:Int):=by omega
 simp -implicitDefEqProofs only[↓Zd,(Zp),simprocAttr,qP,Value.cells,cut,cld2,(STx),h4,ord108,rowEnt,co140]
 refine cloneEnt1 hn (by omega) hok (by rw[St.at_new,if_neg (by simp only[St.next_new];omega),St.at_new,if_neg (by omega)];exact hb) (by simp only[St.next_new];omega) hcs fun s2 cb hcb h1 h2 h3=>?_
 have hv2:=h2.2 (s.next+1) (by simp only[St.next_new];omega)
 rw[St.at_new,if_pos (by simp only[St.next_new])]at hv2
 have hv1:=h2.2 s.next (by simp only[St.next_new];omega)
 rw[St.at_new,if_neg (by simp only[St.next_new];omega),St.at_new,if_pos rfl]at hv1
 simp only[St.next_new]at h1 hcb
 simp -implicitDefEqProofs only[↓Zd,(Zp),simprocAttr,cut,cld2,(STx),hv1]
 refine wch_appEntV (k:=n) (cs:=cs) (vb:=s.next+1) hv2 rfl (by simp[qC]) (by omega) (.inr ⟨_,[],rfl,by rw[List.append_nil];exact h3,hcs⟩) fun s' g1 g2 g3=>?_
 have hv3:=(g3 s.next (by omega) (fun q n c e=>by cases e;show s.next≠cb;omega)).trans hv1
 simp -implicitDefEqProofs only[↓Zd,(Zp),simprocAttr]
 refine hR s' _ ⟨?_,fun c hc=>?_⟩ ?_ ?_ g2
 ·omega
 ·rw[g3 c (by omega) (fun q n c e=>by cases e;show c≠cb;omega),h2.2 c (by simp only[St.next_new];omega),St.at_new,if_neg (by simp only[St.next_new];omega),St.at_new,if_neg (by omega)]
 ·omega
 ·omega
theorem bounded2{e:Ent}{dl:Value}{n b:Nat}(hn4:4≤n)(hR:∀ s',s.le s'→R (.tuple #[.slice none 0 0,.bool false]) s') :
  QC prog w0 108 #[.slice (some ⟨b,0,none⟩) n UNK,.agg (entC e dl).toArray,.int .i64 4] s R:=by
 refine wfun2 hmix ok108 func108 rfl ntmps108 results108 (by simp) ?_
 simp only[entC]
 have h4:(4:Int)≤(n:Int):=by omega
 simp -implicitDefEqProofs only[↓Zd,(Zp),simprocAttr,qP,Value.cells,(STx),h4]
 exact hR _ (by repeat (first|exact lR _|assumption|refine lN ?_|refine lP ?_ (by first|omega|(simp only[(Sn)];omega))|refine lT ?_ (by assumption)))
end
section
variable {lo t N:Nat}{T:Tab}{O:Nat→Prop}{al:Value}{rb cp:Nat→Nat}{sl:Nat→Nat→Value}
theorem DepsAt.keep{Y:STy}{s':St M}{O':Nat→Prop}{dl:Value}{ds:List (Nat×Nat)}(h:DepsAt Y s O dl ds)(hO:∀ b,O b→O' b)(hs:∀ b cs,O b→s.at' b=some (.cells cs Y.tD true)→s'.at' b=s.at' b):DepsAt Y s' O' dl ds:=by
 obtain⟨h1,h2,h3⟩:=h
 refine⟨?_,fun q n c e=>hO _ (h2 q n c e),h3⟩
 rcases h1 with h1|⟨b,junk,g1,g2,g3⟩
 ·exact .inl h1
 ·exact .inr ⟨b,junk,g1,(hs b _ (h2 _ _ _ g1) g2).trans g2,g3⟩
theorem keep_stores{i j:Nat}{v:Value}{m:Bool}(hj:j<T.n i) :
  (rows (fun k=>sitC (T.st i k) (sl i k)) (T.n i)).set (j*5+4) v=rows (fun k=>if k=j then sitC (T.st i j) v else sitC (T.st i k) (sl i k)) (T.n i) ∧
  (rows (fun k=>if k=j then sitC (T.st i j) v else sitC (T.st i k) (sl i k)) (T.n i)).set (j*5+2) (.bool m)=rows (fun k=>if k=j then sitC { T.st i j with mega:=m } v else sitC (T.st i k) (sl i k)) (T.n i) ∧
  (rows (fun k=>sitC (T.st i k) (sl i k)) (T.n i)).length=T.n i*5∧(rows (fun k=>if k=j then sitC (T.st i j) v else sitC (T.st i k) (sl i k)) (T.n i)).length=T.n i*5∧j*5+5≤T.n i*5∧j*5+3≤T.n i*5:=by
 have hl:∀ (k:Nat) (z:Sit) (v:Value),(if k=j then sitC z v else sitC (T.st i k) (sl i k)).length=5:=fun k z v=>by split<;>rfl
 refine⟨rows_set0 (k:=5) (fun _=>rfl) (fun k=>hl k _ _) hj (by omega) (fun k hk=>if_neg hk) (by rw[if_pos rfl];rfl),rows_set0 (k:=5) (fun k=>hl k _ _) (fun k=>hl k _ _) hj (by omega) (fun k hk=>by rw[if_neg hk,if_neg hk]) (by rw[if_pos rfl,if_pos rfl];rfl),rows_len (k:=5) (fun _=>rfl) _,rows_len (k:=5) (fun k=>hl k _ _) _,by omega,by omega⟩
theorem keep_end(h:SAt PY lo s t T N O al rb cp sl){i j:Nat}(hi:i<T.fs)(hj:j<T.n i)(hlo:lo≤s.next){s2 s3:St M}{z':Sit}{v':Value}{O':Nat→Prop}(hs:s.le s2)(hO:∀ b,O b→O' b)(hO':∀ b,O' b→O b∨s.next≤b∧b<s2.next)
  (hn:s3.next=s2.next)(hrow:s3.at' (rb i)=some (.cells (rows (fun k=>if k=j then sitC z' v' else sitC (T.st i k) (sl i k)) (T.n i)) 96 true))(hk:∀ b,b≠rb i→s3.at' b=s2.at' b)(hes:EntsAt PY s2 O' v' z'.es)
  (hap:∀ q n c,v' = .slice (some q) n c→s.next≤q.block):SAt PY lo s3 t (putT T i j z') N O' al rb cp (fun a b=>if a=i∧b=j then v' else sl a b)∧Upd s s3 O O':=by
 have hrbn:=(h.own _ (h.pinR i hi)).2
 have hsn:=hs.1
 have hr:=h.row i hi
 refine⟨h.set hi hj (by omega) hO (fun b hb=>?_) hrow (fun b hb hne hq=>?_) (hes.keep (fun _ h=>h) fun b cs ty h1 h2 h3=>hk b fun e=>?_) (fun q n c e => .inr (hap q n c e)),?_,fun c hc hO2=>?_,fun b hb=>?_⟩
 ·rcases hO' b hb with h1|h1
  ·have:=h.own b h1;exact⟨this.1,by omega⟩
  ·exact⟨by omega,by omega⟩
 ·rw[hk b hne];exact hs.2 b (h.own b hb).2
 ·subst e
  rw[hs.2 _ hrbn,hr]at h2
  injection h2 with h2
  injection h2 with _ h5 _
  rcases h3 with rfl|⟨rfl,_⟩<;>exact absurd h5 (by decide)
 ·omega
 ·rw[hk c fun e=>hO2 (e▸h.pinR i hi)];exact hs.2 c hc
 ·rcases hO' b hb with h1|h1
  ·exact .inl h1
  ·exact .inr h1.1
theorem skeep_spec(h:SAt PY lo s t T N O al rb cp sl){i j:Nat}(hi:i<T.fs)(hj:j<T.n i)(hlo:lo≤s.next){e:Ent}{dl:Value}(hz:(T.st i j).es.length≤4)(hm:(T.st i j).mega=false)(hD:DepsAt PY s O dl e.deps)
  (hR:∀ s' O' sl',SAt PY lo s' t (putT T i j (keepS (T.st i j) e)) N O' al rb cp sl'→Upd s s' O O'→R (.tuple #[]) s') :
  QC prog w0 57 #[.pointer (some ⟨rb i,j*5,none⟩),.agg (entC e dl).toArray] s R:=by
 refine wfun2 hmix ok57 func57 rfl ntmps57 results57 (by simp) ?_
 have hform:=hD.form
 have hb:s.at' (rb i)=some (.cells (rows (fun k=>sitC (T.st i k) (sl i k)) (T.n i)) 96 true):=h.row i hi
 have hrbO:=h.pinR i hi
 have hrbn:=(h.own _ hrbO).2
 have hne:¬ rb i=s.next:=by omega
 have g4:(rows (fun k=>sitC (T.st i k) (sl i k)) (T.n i))[j*5+4]?=some (sl i j):=rows_get0 (c:=fun k=>sitC (T.st i k) (sl i k)) (k:=5) (fun _=>rfl) hj (j:=4) (by omega)
 have l1:s.le (s.new (.cells (entC e dl) 51 true)):=lN (lR _)
 have hall:(entC e dl).toArray=#[.int .i64 (e.shape:Int),.int .i64 e.holder,.int .i64 e.slot,.int .i64 (e.to:Int),dl]:=rfl
 have hallc:entC e dl=[.int .i64 (e.shape:Int),.int .i64 e.holder,.int .i64 e.slot,.int .i64 (e.to:Int),dl]:=rfl
 obtain⟨dlf,h1,h2,h3,h4⟩:=h.es i j hi hj
 obtain⟨qa,qn,qc,rfl⟩:=hform
 rcases h1 with ⟨g1,_,hv⟩|⟨eb,junk,hv,g2,g3⟩
 ·rw[hv]at g4
  simp -implicitDefEqProofs only[↓Zd,(Zp),simprocAttr,qP,Value.cells,cld2,(STx),hall,hb,hne,g4,co103]
  refine ixe0_spec (M:=M) ?_
  simp -implicitDefEqProofs only[↓Zd,(Zp),simprocAttr,cut,cld2,(HEx),(STx),hall,hb,hne,g4,ord57,co108]
  refine bounded0 (e:=e) (dl := .slice qa qn qc) ⟨_,_,_,rfl⟩ fun s2 b' hs2 hb1 hb2 hcell=>?_
  simp only[St.next_new]at hb1
  have hs12:s.le s2:=lT (lN (lR _)) hs2
  have hv1:s2.at' s.next=some (.cells (entC e (.slice qa qn qc)) 51 true):=by rw[hs2.2 _ (by simp only[St.next_new];omega),St.at_new,if_pos rfl];rfl
  rw[hallc]at hv1
  have hb2r:=(hs12.2 _ hrbn).trans hb
  obtain⟨f1,f2,f3,f4,f5,f6⟩:=keep_stores (T:=T) (sl:=sl) (i:=i) (j:=j) (v := .slice (some ⟨b',0,none⟩) 1 UNK) (m:=false) hj
  simp -implicitDefEqProofs only[↓Zd,(Zp),simprocAttr,qP,Value.cells,qC,(HEx),(STx),hb2r,f1,f2,f3,f4,f5,f6]
  have hes0:(T.st i j).es=[]:=List.length_eq_zero_iff.1 g1
  have hks:keepS (T.st i j) e={ T.st i j with es:=[e],mega:=false }:=by
   unfold keepS
   rw[hes0]
   show (if 4≤0 then _ else _)=_
   rw[if_neg (by omega),← hm]
   rfl
  rw[hks]at hR
  obtain⟨r1,r2⟩:=keep_end h hi hj hlo (s2:=s2) (s3:=(s2.put (rb i) (.cells (rows (fun k=>if k=j then sitC (T.st i j) (.slice (some ⟨b',0,none⟩) 1 UNK) else sitC (T.st i k) (sl i k)) (T.n i)) 96 true)).put (rb i) (.cells (rows (fun k=>if k=j then sitC { T.st i j with mega:=false } (.slice (some ⟨b',0,none⟩) 1 UNK) else sitC (T.st i k) (sl i k)) (T.n i)) 96 true))
   (z':={ T.st i j with es:=[e],mega:=false }) (v' := .slice (some ⟨b',0,none⟩) 1 UNK) (O':=fun b=>O b∨b=b') hs12 (fun b hb => .inl hb) (fun b hb=>by rcases hb with hb|rfl;exact .inl hb;exact .inr ⟨by omega,hb2⟩) rfl
   (by rw[St.at_put,if_pos rfl];rfl) (fun b hb=>by rw[St.at_put,if_neg hb,St.at_put,if_neg hb])
   ⟨fun _ => .slice qa qn qc,.inr ⟨b',[],rfl,by rw[hcell];rfl,rfl⟩,fun q n c e=>by cases e;exact .inr rfl,fun k hk=>by
    have hk:k<1:=hk
    have:k=0:=by omega
    subst this
    exact hD.same fun b hb=>⟨.inl hb,hs12.2 b (h.own b hb).2⟩,fun h=>by cases h⟩ (fun q n c e=>by cases e;show s.next≤b';omega)
  exact hR _ _ _ r1 r2
 ·rw[hv]at g4
  have hebO:O eb:=h2 _ _ _ hv
  have hebn:=(h.own _ hebO).2
  have hebne:¬ eb=s.next:=by omega
  have hcell0:∀ b',s.le b'→b'.at' eb=some (.cells (rows (fun k=>entC ((T.st i j).es.getD k e0) (dlf k)) (T.st i j).es.length++junk) 51 true):=fun b' hs=>by rw[hs.2 _ hebn];exact g2
  simp -implicitDefEqProofs only[↓Zd,(Zp),simprocAttr,qP,Value.cells,cld2,(STx),hall,hb,hne,g4,co103]
  refine ixe_spec (c:=fun k=>entC ((T.st i j).es.getD k e0) (dlf k)) (junk:=junk) (q:=fun k=>decide ((((T.st i j).es.getD k e0).shape:Int)=(e.shape:Int))) co107 (fun _=>rfl) (by rw[St.at_new,if_neg hebne];exact g2) (by simp only[St.next_new];omega) (by omega) (fun s' k R' hs' hk hR'=>?_) (fun s2 k hs2 hk hq hq2=>?_) (fun s2 hs2 hq=>?_)
  ·refine keepc_spec (u:=e) (ul := .slice qa qn qc) (ib:=s.next) ?_ ?_ hR'
   ·rw[hs'.2 _ (by simp only[St.next_new];omega),St.at_new,if_pos rfl];rfl
   ·have:=hs'.1;simp only[St.next_new]at this;omega
  ·have hs12:s.le s2:=lT (lN (lR _)) hs2
   have hn2:=hs2.1
   simp only[St.next_new]at hn2
   have hv1:s2.at' s.next=some (.cells (entC e (.slice qa qn qc)) 51 true):=by rw[hs2.2 _ (by simp only[St.next_new];omega),St.at_new,if_pos rfl];rfl
   rw[hallc]at hv1
   have hb2r:=(hs12.2 _ hrbn).trans hb
   have hc2:=hcell0 s2 hs12
   have hkk:(0:Int)≤(k:Int)∧(k:Int)<((T.st i j).es.length:Int):=by omega
   have hset:=rows_set5 (c:=fun k=>entC ((T.st i j).es.getD k e0) (dlf k)) (v0 := .int .i64 (e.shape:Int)) (v1 := .int .i64 e.holder) (v2 := .int .i64 e.slot) (v3 := .int .i64 (e.to:Int)) (v4 := .slice qa qn qc) (fun _=>rfl) junk hk
   have hlen:k*5+5≤(rows (fun k=>entC ((T.st i j).es.getD k e0) (dlf k)) (T.st i j).es.length++junk).length:=by rw[List.length_append,rows_len (k:=5) (fun _=>rfl)];omega
   simp -implicitDefEqProofs only[↓Zd,(Zp),simprocAttr,qP,Value.cells,cut,qC,cld2,(HEx),(STx),hv1,hb2r,g4,hc2,hkk,hset,hlen,ord57]
   have hhit:hitI (T.st i j).es e.shape=some k:=hitI_of hk hq hq2
   have hks:keepS (T.st i j) e={ T.st i j with es:=(T.st i j).es.set k e }:=by unfold keepS;rw[hhit]
   rw[hks]at hR
   have hrbeb:rb i≠eb:=at_apart hb g2 (by decide)
   have hat:∀ b,b≠eb→∀ B,(s2.put eb B).at' b=s2.at' b:=fun b hb B=>by rw[St.at_put,if_neg hb]
   refine hR _ O _ (h.set hi hj (v':=sl i j) (z':={ T.st i j with es:=(T.st i j).es.set k e }) ?_ (fun _ h=>h) (fun b hb=>?_) ?_ (fun b hb hne2 hq3=>?_) ⟨fun m=>if m=k then .slice qa qn qc else dlf m,?_,fun q n c e=>?_,fun m hm=>?_,fun hnil=>?_⟩ (fun q n c e => .inl ⟨q,n,c,e,rfl⟩)) ⟨?_,fun c hc hO2=>?_,fun b hb => .inl hb⟩
   ·simp only[St.next_put];omega
   ·have:=h.own b hb;simp only[St.next_put];exact⟨this.1,by omega⟩
   ·rw[hat _ hrbeb,hb2r]
    congr 2
    refine rows_congr fun m hm=>?_
    by_cases em:m=j
    ·subst em;rw[if_pos rfl];rfl
    ·rw[if_neg em];rfl
   ·rw[hat _ (fun e=>hq3 _ _ _ hv e)];exact hs12.2 _ (h.own b hb).2
   ·rw[List.length_set]
    refine .inr ⟨eb,junk,hv,?_,rows_len (k:=5) (fun _=>rfl) _⟩
    rw[St.at_put,if_pos rfl]
    congr 3
    refine rows_congr fun m hm=>?_
    show _=entC (((T.st i j).es.set k e).getD m e0) (if m=k then .slice qa qn qc else dlf m)
    by_cases em:m=k
    ·subst em
     rw[if_pos rfl,if_pos rfl,List.getD_eq_getElem?_getD,List.getElem?_set_self hk]
     rfl
    ·rw[if_neg em,if_neg em,List.getD_eq_getElem?_getD,List.getD_eq_getElem?_getD,List.getElem?_set_ne (fun e=>em e.symm)]
   ·exact h2 _ _ _ e
   ·have hm:m<(T.st i j).es.length:=by simpa using hm
    have hkd:∀ b cs,O b→s.at' b=some (.cells cs 99 true)→(s2.put eb (.cells (rows (fun m=>if m=k then [.int .i64 (e.shape:Int),.int .i64 e.holder,.int .i64 e.slot,.int .i64 (e.to:Int),.slice qa qn qc] else entC ((T.st i j).es.getD m e0) (dlf m)) (T.st i j).es.length++junk) 51 true)).at' b=s.at' b:=fun b cs hb h5=>by
     rw[hat _ (at_apart h5 g2 (by decide))];exact hs12.2 _ (h.own b hb).2
    show DepsAt PY _ O (if m=k then .slice qa qn qc else dlf m) (((T.st i j).es.set k e).getD m e0).deps
    by_cases em:m=k
    ·subst em
     rw[if_pos rfl,List.getD_eq_getElem?_getD,List.getElem?_set_self hk]
     exact hD.keep (fun _ h=>h) hkd
    ·rw[if_neg em,List.getD_eq_getElem?_getD,List.getElem?_set_ne (fun e=>em e.symm),← List.getD_eq_getElem?_getD]
     exact (h3 m hm).keep (fun _ h=>h) hkd
   ·have:(T.st i j).es.set k e=[]:=hnil
    have h0:=congrArg List.length this
    simp at h0
    rw[h0]at hk
    simp at hk
   ·simp only[St.next_put];omega
   ·rw[hat _ (fun e=>hO2 (by rw[e];exact hebO))];exact hs12.2 _ hc
  ·have hs12:s.le s2:=lT (lN (lR _)) hs2
   have hn2:=hs2.1
   simp only[St.next_new]at hn2
   have hv1:s2.at' s.next=some (.cells (entC e (.slice qa qn qc)) 51 true):=by rw[hs2.2 _ (by simp only[St.next_new];omega),St.at_new,if_pos rfl];rfl
   rw[hallc]at hv1
   have hb2r:=(hs12.2 _ hrbn).trans hb
   have hc2:=hcell0 s2 hs12
   have hnone:hitI (T.st i j).es e.shape=none:=hitI_no hq
   have hn0:(T.st i j).es.length≠0:=fun h0=>by
    have:=h4 (List.length_eq_zero_iff.1 h0)
    rw[hv]at this
    cases this
   by_cases hl4:(T.st i j).es.length<4
   ·simp -implicitDefEqProofs only[↓Zd,(Zp),simprocAttr,cut,cld2,(HEx),(STx),hv1,hb2r,g4,ord57,co108]
    refine bounded1 (e:=e) (dl := .slice qa qn qc) (cs:=rows (fun k=>entC ((T.st i j).es.getD k e0) (dlf k)) (T.st i j).es.length) ⟨_,_,_,rfl⟩ hn0 hl4 (rows_ok fun k hk=>?_) hc2 (by omega) (rows_len (k:=5) (fun _=>rfl) _) fun s3 b' hs3 hb1 hb2 hcell=>?_
    ·obtain⟨a,n,c,ha⟩:=(h3 k hk).form
     show List.all [_,_,_,_,_] qC=true
     simp[ha,qC]
    have hs13:s.le s3:=lT hs12 hs3
    have hv3:=(hs3.2 s.next (by omega)).trans hv1
    have hb3r:=(hs3.2 _ (by omega)).trans hb2r
    obtain⟨f1,f2,f3,f4,f5,f6⟩:=keep_stores (T:=T) (sl:=sl) (i:=i) (j:=j) (v := .slice (some ⟨b',0,none⟩) ((T.st i j).es.length+1) UNK) (m:=false) hj
    simp -implicitDefEqProofs only[↓Zd,(Zp),simprocAttr,qP,Value.cells,qC,(HEx),(STx),hb3r,f1,f2,f3,f4,f5,f6]
    have hks:keepS (T.st i j) e={ T.st i j with es:=(T.st i j).es ++ [e],mega:=false }:=by
     unfold keepS
     rw[hnone]
     show (if 4≤(T.st i j).es.length then _ else _)=_
     rw[if_neg (by omega),← hm]
    rw[hks]at hR
    have hEnt:EntsAt PY s3 (fun b=>O b∨b=b') (.slice (some ⟨b',0,none⟩) ((T.st i j).es.length+1) UNK) ((T.st i j).es ++ [e]):=by
     refine⟨fun m=>if m<(T.st i j).es.length then dlf m else .slice qa qn qc,.inr ⟨b',[],by simp,?_,?_⟩,fun q n c e=>(by cases e;exact .inr rfl),fun m hm=>?_,fun h=>by simp at h⟩
     ·rw[hcell,List.append_nil]
      show _=some (Blk.cells (rows _ ((T.st i j).es ++ [e]).length) _ true)
      rw[List.length_append,List.length_cons,List.length_nil,Nat.zero_add,rows_succ]
      congr 3
      ·refine rows_congr fun m hm=>?_
       show _=entC (((T.st i j).es ++ [e]).getD m e0) (if m<(T.st i j).es.length then dlf m else .slice qa qn qc)
       rw[if_pos hm,List.getD_eq_getElem?_getD,List.getD_eq_getElem?_getD,List.getElem?_append_left hm]
      ·show _=entC (((T.st i j).es ++ [e]).getD (T.st i j).es.length e0) (if (T.st i j).es.length<(T.st i j).es.length then dlf _ else .slice qa qn qc)
       rw[if_neg (Nat.lt_irrefl _),List.getD_eq_getElem?_getD,List.getElem?_append_right (Nat.le_refl _),Nat.sub_self]
       rfl
     ·exact rows_len (k:=5) (fun _=>rfl) _
     ·show DepsAt PY _ _ (if m<(T.st i j).es.length then dlf m else .slice qa qn qc) (((T.st i j).es ++ [e]).getD m e0).deps
      have hm:m<((T.st i j).es ++ [e]).length:=hm
      rw[List.length_append,List.length_cons,List.length_nil]at hm
      by_cases em:m<(T.st i j).es.length
      ·rw[if_pos em,List.getD_eq_getElem?_getD,List.getElem?_append_left em,← List.getD_eq_getElem?_getD]
       exact (h3 m em).same fun b hb=>⟨.inl hb,hs13.2 b (h.own b hb).2⟩
      ·have:m=(T.st i j).es.length:=by omega
       subst this
       rw[if_neg em,List.getD_eq_getElem?_getD,List.getElem?_append_right (Nat.le_refl _),Nat.sub_self]
       exact hD.same fun b hb=>⟨.inl hb,hs13.2 b (h.own b hb).2⟩
    obtain⟨r1,r2⟩:=keep_end h hi hj hlo (s2:=s3) (s3:=(s3.put (rb i) (.cells (rows (fun k=>if k=j then sitC (T.st i j) (.slice (some ⟨b',0,none⟩) ((T.st i j).es.length+1) UNK) else sitC (T.st i k) (sl i k)) (T.n i)) 96 true)).put (rb i) (.cells (rows (fun k=>if k=j then sitC { T.st i j with mega:=false } (.slice (some ⟨b',0,none⟩) ((T.st i j).es.length+1) UNK) else sitC (T.st i k) (sl i k)) (T.n i)) 96 true))
     (z':={ T.st i j with es:=(T.st i j).es ++ [e],mega:=false }) (v' := .slice (some ⟨b',0,none⟩) ((T.st i j).es.length+1) UNK) (O':=fun b=>O b∨b=b') hs13 (fun b hb => .inl hb) (fun b hb=>by rcases hb with hb|rfl;exact .inl hb;exact .inr ⟨by omega,hb2⟩) rfl
     (by rw[St.at_put,if_pos rfl];rfl) (fun b hb=>by rw[St.at_put,if_neg hb,St.at_put,if_neg hb])
     hEnt (fun q n c e=>by cases e;show s.next≤b';omega)
    exact hR _ _ _ r1 r2
   ·simp -implicitDefEqProofs only[↓Zd,(Zp),simprocAttr,cut,cld2,(HEx),(STx),hv1,hb2r,g4,ord57,co108]
    refine bounded2 (e:=e) (dl := .slice qa qn qc) (by omega) fun s3 hs3=>?_
    have hs13:s.le s3:=lT hs12 hs3
    have hv3:=(hs3.2 s.next (by omega)).trans hv1
    have hb3r:=(hs3.2 _ (by omega)).trans hb2r
    obtain⟨f1,f2,f3,f4,f5,f6⟩:=keep_stores (T:=T) (sl:=sl) (i:=i) (j:=j) (v := .slice none 0 0) (m:=true) hj
    simp -implicitDefEqProofs only[↓Zd,(Zp),simprocAttr,qP,Value.cells,qC,(HEx),(STx),hb3r,f1,f2,f3,f4,f5,f6]
    have hks:keepS (T.st i j) e={ T.st i j with es:=[],mega:=true }:=by
     unfold keepS
     rw[hnone]
     show (if 4≤(T.st i j).es.length then _ else _)=_
     rw[if_pos (by omega)]
    rw[hks]at hR
    obtain⟨r1,r2⟩:=keep_end h hi hj hlo (s2:=s3) (s3:=(s3.put (rb i) (.cells (rows (fun k=>if k=j then sitC (T.st i j) (.slice none 0 0) else sitC (T.st i k) (sl i k)) (T.n i)) 96 true)).put (rb i) (.cells (rows (fun k=>if k=j then sitC { T.st i j with mega:=true } (.slice none 0 0) else sitC (T.st i k) (sl i k)) (T.n i)) 96 true))
     (z':={ T.st i j with es:=[],mega:=true }) (v' := .slice none 0 0) (O':=O) hs13 (fun b hb=>hb) (fun b hb => .inl hb) rfl
     (by rw[St.at_put,if_pos rfl];rfl) (fun b hb=>by rw[St.at_put,if_neg hb,St.at_put,if_neg hb])
     ⟨fun _ => .slice none 0 0,.inl ⟨rfl,rfl,rfl⟩,fun q n c e=>(by cases e),fun m hm=>absurd hm (Nat.not_lt_zero _),fun _=>rfl⟩ (fun q n c e=>by cases e)
    exact hR _ _ _ r1 r2
end
section
variable {lo lo1 t p N NN:Nat}{H:Hp}{T:Tab}{O P:Nat→Prop}{al:Value}{rb cp:Nat→Nat}{sl:Nat→Nat→Value}
theorem SAt.more{O':Nat→Prop}(h:SAt PY lo s t T N O al rb cp sl)(hO:∀ b,O b→O' b)(hO':∀ b,O' b→lo≤b∧b<s.next):SAt PY lo s t T N O' al rb cp sl:=
 ⟨hO',hO _ h.pin,h.bl,h.cnt,h.all,fun q n c e=>hO _ (h.allO q n c e),fun i hi=>hO _ (h.pinR i hi),h.row,h.inj,fun i j hi hj=>(h.es i j hi hj).keep hO fun _ _ _ _ _ _=>rfl,h.apart,h.small⟩
theorem miss_at{s':St M}(h:SAt PY lo s t T N O al rb cp sl)(hn:s'.next=s.next)(hb:s'.at' t=some (.cells [al,.int .i64 (T.hits:Int),.int .i64 ((T.misses+1:Nat):Int)] 84 true))(hk:∀ b,b≠t→s'.at' b=s.at' b):SAt PY lo s' t (missT T) (N+1) O al rb cp sl:=
 h.count ⟨rfl,rfl,rfl⟩ ⟨by have:=h.cnt.1;show T.hits≤N+1;omega,by have:=h.cnt.2;show T.misses+1≤N+1;omega⟩ hn hb hk
theorem hit_at{s':St M}(h:SAt PY lo s t T N O al rb cp sl)(hn:s'.next=s.next)(hb:s'.at' t=some (.cells [al,.int .i64 ((T.hits+1:Nat):Int),.int .i64 (T.misses:Int)] 84 true))(hk:∀ b,b≠t→s'.at' b=s.at' b):SAt PY lo s' t (hitT T) (N+1) O al rb cp sl:=
 h.count ⟨rfl,rfl,rfl⟩ ⟨by have:=h.cnt.1;show T.hits+1≤N+1;omega,by have:=h.cnt.2;show T.misses≤N+1;omega⟩ hn hb hk
theorem plays_at{s':St M}{i j:Nat}{w:Bool}{x:ByteArray}(h:SAt PY lo s t T N O al rb cp sl)(hi:i<T.fs)(hj:j<T.n i)(hn:s'.next=s.next)
  (hb:s'.at' (rb i)=some (.cells (rows (fun m=>if m=j then sitC (if (T.st i j).mega then T.st i j else playsS (T.st i j) w x) (sl i j) else sitC (T.st i m) (sl i m)) (T.n i)) 96 true))(hk:∀ a,a≠rb i→s'.at' a=s.at' a) :
  SAt PY lo s' t (putT T i j (if (T.st i j).mega then T.st i j else playsS (T.st i j) w x)) N O al rb cp sl:=by
 have hes:(if (T.st i j).mega then T.st i j else playsS (T.st i j) w x).es=(T.st i j).es:=by
  split
  ·rfl
  ·unfold playsS;split<;>rfl
 have hr:=h.row i hi
 have:=h.set (s':=s') (O':=O) hi hj (z':=if (T.st i j).mega then T.st i j else playsS (T.st i j) w x) (v':=sl i j) (by omega) (fun _ h=>h) (fun b hb=>by have:=h.own b hb;rw[hn];exact this) hb (fun b hb hne _=>hk b hne)
  (by rw[hes];exact (h.es i j hi hj).keep (fun _ h=>h) fun b cs ty h1 h2 h3=>hk b (at_apart h2 hr (by rcases h3 with rfl|⟨rfl,_⟩<;>decide))) (fun q n c e => .inl ⟨q,n,c,e,rfl⟩)
 have e2:(fun a b=>if a=i∧b=j then sl i j else sl a b)=sl:=by
  funext a b
  split
  ·rename_i e;rw[e.1,e.2]
  ·rfl
 rw[e2]at this
 exact this
theorem plays_no{z:Sit}{w:Bool}{x:ByteArray}(h:playsB z w x=false):(if z.mega then z else playsS z w x)=z:=by
 unfold playsB at h
 unfold playsS
 cases hm:z.mega with
 |true=>simp
 |false =>
  rw[hm]at h
  simp only[Bool.false_eq_true,if_false]at h ⊢
  cases hu:z.used with
  |true=>simp
  |false=>rw[hu]at h;simp at h
theorem plays_yes{z:Sit}{w:Bool}{x:ByteArray}(h:playsB z w x=true):(if z.mega then z else playsS z w x)=playsS z w x:=by
 rw[(plays_is h).1];rfl
theorem putT_same(T:Tab)(i j:Nat):putT T (i:Int) (j:Int) (T.st i j)=T:=by
 obtain⟨fs,n,st,hits,misses⟩:=T
 unfold putT
 congr 1
 funext a b
 rw[Int.toNat_natCast,Int.toNat_natCast]
 split
 ·rename_i e;rw[e.1,e.2]
 ·rfl
theorem putT_two(T:Tab)(i j:Int)(z z':Sit):putT (missT (putT T i j z)) i j z'=missT (putT T i j z'):=by
 unfold putT missT
 congr 1
 funext a b
 simp only
 split<;>rfl
theorem putT_st(T:Tab)(i j:Nat)(z:Sit):(putT T (i:Int) (j:Int) z).st i j=z:=by
 show (if i=(i:Int).toNat∧j=(j:Int).toNat then z else T.st i j)=z
 rw[Int.toNat_natCast,Int.toNat_natCast,if_pos ⟨rfl,rfl⟩]
theorem siteAt_nat(T:Tab)(i j:Nat):siteAt T (i:Int) (j:Int)=T.st i j:=by
 unfold siteAt
 rw[Int.toNat_natCast,Int.toNat_natCast]
theorem hp_put{s:St M}{tg:Nat→Nat}{pf pn:Nat}{sl0:Value}{bs:List Nat}(h:HpIn lo1 s p H NN P tg pf pn sl0 bs){b:Nat}{B:Blk}(hb:¬ P b):HpIn lo1 (s.put b B) p H NN P tg pf pn sl0 bs:=
 h.same (Nat.le_refl _) fun c hc=>by rw[St.at_put,if_neg (fun e=>hb (by rw[← e];exact hc))]
theorem tget_spec(hP:HpAt lo1 s p H NN P)(hS:STab PY lo s t T N O)(hfs:0<T.fs)(hd:∀ b,P b→¬ O b)(hT:TabOk H T)(hlo:lo≤s.next)(hN:N+1≤1000000){f k o:Int}(ho : -9223372036854775808≤o∧o≤9223372036854775807){x:ByteArray}{r:Option Ent}(hr:LookE H x o r)
  (hR:∀ s' O' v,STab PY lo s' t (getT H T f k o x r) (N+1) O'→Upd s s' O O'→GetR H x o v→R (vOf v) s') :
  QC prog w0 18 #[.pointer (some ⟨t,0,none⟩),.pointer (some ⟨p,0,none⟩),.int .i64 f,.int .i64 k,.int .i64 o,.string x] s R:=by
 refine wfun2 hmix ok18 func18 rfl ntmps18 results18 (by simp) ?_
 obtain⟨hpro,tg,pf,pn,sl0,bs,h⟩:=hP
 obtain⟨al,rb,cp,sl,hs⟩:=hS
 have l1:s.le (s.new (.cells [.int .i64 0,.int .i64 0,.string ⟨#[]⟩] 36 true)):=lN (lR _)
 have c1:(s.new (.cells [.int .i64 0,.int .i64 0,.string ⟨#[]⟩] 36 true)).at' s.next=some (.cells [.int .i64 0,.int .i64 0,.string ⟨#[]⟩] 36 true):=by rw[St.at_new,if_pos rfl]
 have n1:(s.new (.cells [.int .i64 0,.int .i64 0,.string ⟨#[]⟩] 36 true)).next=s.next+1:=rfl
 have htn:=(hs.own _ hs.pin).2
 have htP:¬ P t:=fun hc=>hd t hc hs.pin
 have hPn:∀ c,P c→c<s.next:=fun c hc=>(h.own c hc).2
 have wm:IntKind.i64.wrap ((T.misses:Int)+1)=((T.misses+1:Nat):Int):=by rw[wrap_i64 (by have:=hs.cnt.2;omega)];omega
 have wh:IntKind.i64.wrap ((T.hits:Int)+1)=((T.hits+1:Nat):Int):=by rw[wrap_i64 (by have:=hs.cnt.1;omega)];omega
 have fin:∀ {s8 s9:St M}{O8:Nat→Prop}{v:V3},STab PY lo s8 t (getT H T f k o x r) (N+1) O8→(∀ b,b<s.next→¬ O b→s8.at' b=s.at' b)→s.next+1≤s8.next→(∀ b,O8 b→O b∨s.next+1≤b)→s8.le s9→GetR H x o v→R (.agg #[.int .i64 v.1,.int .i64 v.2.1,.string v.2.2]) (s9.put s.next (.cells [.int .i64 v.1,.int .i64 v.2.1,.string v.2.2] 36 true)):=fun {s8 s9 O8 v} a8 k8 n8 o8 l9 hv=>by
  refine hR _ O8 v ((a8.le l9).same (Nat.le_refl _) fun b hb=>?_) ⟨?_,fun b hb hO=>?_,fun b hb=>?_⟩ hv
  ·rw[St.at_put,if_neg (fun e=>by rcases o8 b hb with h1|h1;have:=(hs.own b h1).2;omega;omega)]
  ·have:=l9.1;simp only[St.next_put];omega
  ·rw[St.at_put,if_neg (by omega),l9.2 b (by omega)];exact k8 b hb hO
  ·rcases o8 b hb with h1|h1
   ·exact .inl h1
   ·exact .inr (by omega)
 simp -implicitDefEqProofs only[↓Zd,(Zp),simprocAttr,Value.cells,(HEx),co51]
 generalize s.new (.cells [.int .i64 0,.int .i64 0,.string ⟨#[]⟩] 36 true)=s1 at l1 c1 n1 ⊢
 have h1:=h.le l1
 have hs1:=hs.le l1
 have hb1:s1.at' t=some (.cells [al,.int .i64 (T.hits:Int),.int .i64 (T.misses:Int)] 84 true):=hs1.bl
 have htne:¬ s.next=t:=by omega
 refine sdead_spec hs1 hfs ?_
 simp -implicitDefEqProofs only[↓Zd,(Zp),simprocAttr,(HEx),co36]
 refine sfind_spec hs1 hfs (fun hnot=>?_) (fun i j hfi hkj hi hj hhas=>?_)
 ·simp -implicitDefEqProofs only[↓Zd,(Zp),simprocAttr,(STx),co12]
  refine hshape_spec h1 ho ?_
  have hgt:getT H T f k o x r=missT T:=by unfold getT;split<;>first|rfl|(rw[if_pos hnot])
  rw[hgt]at fin
  by_cases h0:shapeV H o=0
  ·simp -implicitDefEqProofs only[↓Zd,(Zp),simprocAttr,qP,Value.cells,qC,cld2,(HEx),(STx),h0,hb1,wm,co19]
   refine hget_spec (hp_put h1 htP) ho fun s9 v l9 hv=>?_
   have a8:=miss_at (s':=s1.put t (.cells [al,.int .i64 (T.hits:Int),.int .i64 ((T.misses+1:Nat):Int)] 84 true)) hs1 rfl (by rw[St.at_put,if_pos rfl]) (fun b hb=>by rw[St.at_put,if_neg hb])
   have n9:=l9.1
   simp only[St.next_put]at n9
   have c9:s9.at' s.next=some (.cells [.int .i64 0,.int .i64 0,.string ⟨#[]⟩] 36 true):=by rw[l9.2 _ (by simp only[St.next_put];omega),St.at_put,if_neg htne];assumption
   unfold vOf vA
   simp -implicitDefEqProofs only[↓Zd,(Zp),simprocAttr,qP,Value.cells,cut,qC,cld2,(HEx),c9]
   exact fin ⟨_,_,_,_,a8⟩ (fun b hb hO=>by rw[St.at_put,if_neg (fun e=>hO (by rw[e];exact hs.pin))];exact l1.2 b (by omega)) (by simp only[St.next_put];omega) (fun b hb => .inl hb) l9 hv
  ·simp -implicitDefEqProofs only[↓Zd,(Zp),simprocAttr,(HEx),h0,co52]
   refine splays0_spec ?_
   simp -implicitDefEqProofs only[↓Zd,(Zp),simprocAttr,qP,Value.cells,qC,cld2,(HEx),(STx),hb1,wm,co19]
   refine hget_spec (hp_put h1 htP) ho fun s9 v l9 hv=>?_
   have a8:=miss_at (s':=s1.put t (.cells [al,.int .i64 (T.hits:Int),.int .i64 ((T.misses+1:Nat):Int)] 84 true)) hs1 rfl (by rw[St.at_put,if_pos rfl]) (fun b hb=>by rw[St.at_put,if_neg hb])
   have n9:=l9.1
   simp only[St.next_put]at n9
   have c9:s9.at' s.next=some (.cells [.int .i64 0,.int .i64 0,.string ⟨#[]⟩] 36 true):=by rw[l9.2 _ (by simp only[St.next_put];omega),St.at_put,if_neg htne];assumption
   unfold vOf vA
   simp -implicitDefEqProofs only[↓Zd,(Zp),simprocAttr,qP,Value.cells,cut,qC,cld2,(HEx),c9]
   exact fin ⟨_,_,_,_,a8⟩ (fun b hb hO=>by rw[St.at_put,if_neg (fun e=>hO (by rw[e];exact hs.pin))];exact l1.2 b (by omega)) (by simp only[St.next_put];omega) (fun b hb => .inl hb) l9 hv
 ·subst hfi hkj
  rw[getT,if_neg (not_not_intro hhas),siteAt_nat]at fin
  simp -implicitDefEqProofs only[↓Zd,(Zp),simprocAttr,(STx),co12]
  refine hshape_spec h1 ho ?_
  by_cases h0:shapeV H o=0
  ·rw[if_pos h0]at fin
   simp -implicitDefEqProofs only[↓Zd,(Zp),simprocAttr,qP,Value.cells,qC,cld2,(HEx),(STx),h0,hb1,wm,co19]
   refine hget_spec (hp_put h1 htP) ho fun s9 v l9 hv=>?_
   have a8:=miss_at (s':=s1.put t (.cells [al,.int .i64 (T.hits:Int),.int .i64 ((T.misses+1:Nat):Int)] 84 true)) hs1 rfl (by rw[St.at_put,if_pos rfl]) (fun b hb=>by rw[St.at_put,if_neg hb])
   have n9:=l9.1
   simp only[St.next_put]at n9
   have c9:s9.at' s.next=some (.cells [.int .i64 0,.int .i64 0,.string ⟨#[]⟩] 36 true):=by rw[l9.2 _ (by simp only[St.next_put];omega),St.at_put,if_neg htne];assumption
   unfold vOf vA
   simp -implicitDefEqProofs only[↓Zd,(Zp),simprocAttr,qP,Value.cells,cut,qC,cld2,(HEx),c9]
   exact fin ⟨_,_,_,_,a8⟩ (fun b hb hO=>by rw[St.at_put,if_neg (fun e=>hO (by rw[e];exact hs.pin))];exact l1.2 b (by omega)) (by simp only[St.next_put];omega) (fun b hb => .inl hb) l9 hv
  rw[if_neg h0]at fin
  simp -implicitDefEqProofs only[↓Zd,(Zp),simprocAttr,(HEx),h0,co52]
  refine splays_spec (c:=fun m=>sitC (T.st i m) (sl i m)) (hs1.row i hi) (fun _=>rfl) hj rfl fun s2 n2 b2 k2=>?_
  have hrP:¬ P (rb i):=fun hc=>hd _ hc (hs.pinR i hi)
  have a2:=plays_at hs1 hi hj n2 b2 k2
  have h2:=h1.same (s':=s2) (by omega) fun c hc=>k2 c (fun e=>hrP (by rw[← e];exact hc))
  have hrn:=(hs.own _ (hs.pinR i hi)).2
  have c2:=(k2 s.next (by omega)).trans c1
  have hbt2:s2.at' t=some (.cells [al,.int .i64 (T.hits:Int),.int .i64 (T.misses:Int)] 84 true):=a2.bl
  have kk2:∀ b,b<s.next→¬ O b→s2.at' b=s.at' b:=fun b hb hO=>by rw[k2 b (fun e=>hO (by rw[e];exact hs.pinR i hi))];exact l1.2 b hb
  cases hpl:playsB (T.st i j) false x with
  |false =>
   rw[plays_no hpl,putT_same]at a2
   rw[if_pos hpl]at fin
   simp -implicitDefEqProofs only[↓Zd,(Zp),simprocAttr,qP,Value.cells,qC,cld2,(HEx),(STx),hbt2,wm,co19]
   refine hget_spec (hp_put h2 htP) ho fun s9 v l9 hv=>?_
   have a8:=miss_at (s':=s2.put t (.cells [al,.int .i64 (T.hits:Int),.int .i64 ((T.misses+1:Nat):Int)] 84 true)) a2 rfl (by rw[St.at_put,if_pos rfl]) (fun b hb=>by rw[St.at_put,if_neg hb])
   have n9:=l9.1
   simp only[St.next_put]at n9
   have c9:s9.at' s.next=some (.cells [.int .i64 0,.int .i64 0,.string ⟨#[]⟩] 36 true):=by rw[l9.2 _ (by simp only[St.next_put];omega),St.at_put,if_neg htne];assumption
   unfold vOf vA
   simp -implicitDefEqProofs only[↓Zd,(Zp),simprocAttr,qP,Value.cells,cut,qC,cld2,(HEx),c9]
   exact fin ⟨_,_,_,_,a8⟩ (fun b hb hO=>by rw[St.at_put,if_neg (fun e=>hO (by rw[e];exact hs.pin))];exact kk2 b hb hO) (by simp only[St.next_put];omega) (fun b hb => .inl hb) l9 hv
  |true =>
   rw[plays_yes hpl]at a2 b2
   rw[if_neg (by rw[hpl];decide)]at fin
   have hz0:SitOk H (T.st i j):=hT i j hi hj
   have hz:=plays_ok hz0 false x
   have hpi:=plays_is hpl
   have hE2:=a2.es i j hi hj
   rw[putT_st]at hE2
   simp -implicitDefEqProofs only[↓Zd,(Zp),simprocAttr,(HEx),co53]
   refine shit_spec (c:=fun m=>if m=j then sitC (playsS (T.st i j) false x) (sl i j) else sitC (T.st i m) (sl i m)) (z:=playsS (T.st i j) false x) (v:=sl i j) b2 (by omega) (fun m=>by (try dsimp only);split<;>rfl) hj (if_pos rfl) hE2 (fun b hb=>by have:=(hs.own b hb).2;omega) (by have:=hz.few;omega) (fun hno s3 hs3=>?_) (fun i1 eb hyes hi1 hsl s3 hs3=>?_)
   ·rw[hno]at fin
    have hbt3:=(hs3.2 t (by omega)).trans hbt2
    have c3:=(hs3.2 s.next (by omega)).trans c2
    have n3:=hs3.1
    have kk3:∀ b,b<s.next→¬ O b→s3.at' b=s.at' b:=fun b hb hO=>(hs3.2 b (by omega)).trans (kk2 b hb hO)
    have a3:=a2.le hs3
    have h3:=h2.le hs3
    simp -implicitDefEqProofs only[↓Zd,(Zp),simprocAttr,qP,Value.cells,qC,cld2,(HEx),(STx),hbt3,wm,co56]
    have a5:=miss_at (s':=s3.put t (.cells [al,.int .i64 (T.hits:Int),.int .i64 ((T.misses+1:Nat):Int)] 84 true)) a3 rfl (by rw[St.at_put,if_pos rfl];rfl) (fun b hb=>by rw[St.at_put,if_neg hb])
    have h5:=hp_put (B := .cells [al,.int .i64 (T.hits:Int),.int .i64 ((T.misses+1:Nat):Int)] 84 true) h3 htP
    have k5:∀ b,b<s.next→¬ O b→(s3.put t (.cells [al,.int .i64 (T.hits:Int),.int .i64 ((T.misses+1:Nat):Int)] 84 true)).at' b=s.at' b:=fun b hb hO=>by rw[St.at_put,if_neg (fun e=>hO (by rw[e];exact hs.pin))];exact kk3 b hb hO
    have c5:(s3.put t (.cells [al,.int .i64 (T.hits:Int),.int .i64 ((T.misses+1:Nat):Int)] 84 true)).at' s.next=some (.cells [.int .i64 0,.int .i64 0,.string ⟨#[]⟩] 36 true):=by rw[St.at_put,if_neg htne];exact c3
    have n5:s.next+1≤(s3.put t (.cells [al,.int .i64 (T.hits:Int),.int .i64 ((T.misses+1:Nat):Int)] 84 true)).next:=by simp only[St.next_put];omega
    generalize s3.put t (.cells [al,.int .i64 (T.hits:Int),.int .i64 ((T.misses+1:Nat):Int)] 84 true)=s5 at a5 h5 k5 c5 n5 ⊢
    refine slook_spec h5 hpro ho (fun s6 l6 hlk=>?_) (fun s6 e dl l6 hlk hD=>?_)
    ·have hr0:=hr.one hlk
     subst hr0
     simp -implicitDefEqProofs only[↓Zd,(Zp),simprocAttr,qP,Value.cells,qC,(STx),co19]
     have n6:=l6.1
     refine hget_spec (h5.le (lT l6 (by repeat (first|exact lR _|assumption|refine lN ?_|refine lP ?_ (by first|omega|(simp only[(Sn)];omega))|refine lT ?_ (by assumption))))) ho fun s9 v l9 hv=>?_
     have n9:=l9.1
     simp only[(Sn)]at n9
     have l59:s5.le s9:=lT (lT l6 (by repeat (first|exact lR _|assumption|refine lN ?_|refine lP ?_ (by first|omega|(simp only[(Sn)];omega))|refine lT ?_ (by assumption)))) l9
     have c9:=(l59.2 s.next (by omega)).trans c5
     unfold vOf vA
     simp -implicitDefEqProofs only[↓Zd,(Zp),simprocAttr,qP,Value.cells,cut,qC,cld2,(HEx),c9]
     exact fin ⟨_,_,_,_,a5⟩ k5 n5 (fun b hb => .inl hb) l59 hv
    ·have hr0:=hr.one hlk
     subst hr0
     obtain⟨qa,qn,qc,rfl⟩:=hD.form
     have n6:=l6.1
     simp -implicitDefEqProofs only[↓Zd,(Zp),simprocAttr,qP,Value.cells,cut,qC,cld2,(STx),entC,co57]
     have l7:s6.le ((s6.new (.cells [.int .i64 0,.int .i64 0,.int .i64 0,.int .i64 0,.slice none 0 0] 51 true)).put s6.next (.cells [.int .i64 (e.shape:Int),.int .i64 e.holder,.int .i64 e.slot,.int .i64 (e.to:Int),.slice qa qn qc] 51 true)):=(by repeat (first|exact lR _|assumption|refine lN ?_|refine lP ?_ (by first|omega|(simp only[(Sn)];omega))|refine lT ?_ (by assumption)))
     have n7:((s6.new (.cells [.int .i64 0,.int .i64 0,.int .i64 0,.int .i64 0,.slice none 0 0] 51 true)).put s6.next (.cells [.int .i64 (e.shape:Int),.int .i64 e.holder,.int .i64 e.slot,.int .i64 (e.to:Int),.slice qa qn qc] 51 true)).next=s6.next+1:=rfl
     generalize (s6.new (.cells [.int .i64 0,.int .i64 0,.int .i64 0,.int .i64 0,.slice none 0 0] 51 true)).put s6.next (.cells [.int .i64 (e.shape:Int),.int .i64 e.holder,.int .i64 e.slot,.int .i64 (e.to:Int),.slice qa qn qc] 51 true)=s7 at l7 n7 ⊢
     have l57:=lT l6 l7
     have a7:=(a5.le l57).more (O':=fun b=>O b∨s.next+1≤b∧b<s7.next) (fun b hb => .inl hb) (fun b hb=>by rcases hb with hb|hb;have:=hs.own b hb;exact⟨this.1,by omega⟩;exact⟨by omega,hb.2⟩)
     have hD7:=hD.same (s':=s7) (O':=fun b=>O b∨s.next+1≤b∧b<s7.next) fun b hb=>⟨.inr ⟨by omega,by omega⟩,l7.2 b hb.2⟩
     have hst:(missT (putT T (i:Int) (j:Int) (playsS (T.st i j) false x))).st i j=playsS (T.st i j) false x:=putT_st T i j _
     refine skeep_spec (M:=M) a7 (i:=i) (j:=j) (e:=e) (dl := .slice qa qn qc) hi hj (by omega) (by rw[hst];exact hz.few) (by rw[hst];exact hpi.2.2.2.2.1) hD7 fun s8 O8 sl8 a8 u8=>?_
     rw[hst,putT_two]at a8
     have n8:=u8.next
     have hP8:∀ c,P c→s8.at' c=s7.at' c:=fun c hc=>u8.keep c (by have:=hPn c hc;omega) fun hO=>by
      rcases hO with hO|hO
      ·exact hd c hc hO
      ·have:=hPn c hc;omega
     have h8:=(h5.le l57).same n8 hP8
     have hns:¬ (O s.next∨s.next+1≤s.next∧s.next<s7.next):=fun hO=>by
      rcases hO with hO|hO
      ·have:=(hs.own _ hO).2;omega
      ·omega
     have c8:=(u8.keep s.next (by omega) hns).trans ((l57.2 s.next (by omega)).trans c5)
     simp -implicitDefEqProofs only[↓Zd,(Zp),simprocAttr,(HEx),co19]
     refine hget_spec h8 ho fun s9 v l9 hv=>?_
     have n9:=l9.1
     have c9:=(l9.2 s.next (by omega)).trans c8
     unfold vOf vA
     simp -implicitDefEqProofs only[↓Zd,(Zp),simprocAttr,qP,Value.cells,cut,qC,cld2,(HEx),c9]
     exact fin ⟨_,_,_,_,a8⟩ (fun b hb hO=>by rw[u8.keep b (by omega) (fun hc=>by rcases hc with hc|hc;exact hO hc;omega),l57.2 b (by omega)];exact k5 b hb hO) (by omega) (fun b hb=>by
      rcases u8.own b hb with hb|hb
      ·rcases hb with hb|hb
       ·exact .inl hb
       ·exact .inr hb.1
      ·exact .inr (by omega)) l9 hv
   ·rw[hyes]at fin
    have hbt3:=(hs3.2 t (by omega)).trans hbt2
    have c3:=(hs3.2 s.next (by omega)).trans c2
    have n3:=hs3.1
    have kk3:∀ b,b<s.next→¬ O b→s3.at' b=s.at' b:=fun b hb hO=>(hs3.2 b (by omega)).trans (kk2 b hb hO)
    have a3:=a2.le hs3
    have h3:=h2.le hs3
    have hgo:=hz.gets hpi.2.1 _ (List.getElem_mem hi1)
    rw[hpi.2.2.1]at hgo
    obtain⟨q1,q2,q3,q4,q5,q6⟩:=hgo.small h.ok h.fo.ok
    have hgd:(playsS (T.st i j) false x).es.getD i1 e0=(playsS (T.st i j) false x).es[i1]:=getD_at hi1
    rw[← hgd]at q1 q2 q3 q4 q5 q6
    obtain⟨dlf,g1,g2,g3,g4⟩:=hE2
    rw[hsl]at g1 g2
    rcases g1 with ⟨g1,_,_⟩|⟨eb2,junk,ge,g1,_⟩
    ·omega
    cases ge
    have hebn:=(hs.own _ (g2 _ _ _ rfl)).2
    have ge3:s3.at' eb=_:=(hs3.2 eb (by simp only at hebn;omega)).trans g1
    simp -implicitDefEqProofs only[↓Zd,(Zp),simprocAttr,(STx),co54]
    refine sholds_spec h3 (c:=fun m=>entC ((playsS (T.st i j) false x).es.getD m e0) (dlf m)) (e:=(playsS (T.st i j) false x).es.getD i1 e0) (dl:=dlf i1) (O:=O) (fun _=>rfl) ge3 (by simp only at hebn;omega) hi1 rfl ((g3 i1 hi1).same fun b hb=>⟨hb,hs3.2 b (by have:=(hs.own b hb).2;omega)⟩) (fun b hb=>by have:=(hs.own b hb).2;omega) (by omega) (fun d hd=>by have:=q6 d hd;omega) fun s4 hs4=>?_
    have n4:=hs4.1
    have hbt4:=(hs4.2 t (by omega)).trans hbt3
    have c4:=(hs4.2 s.next (by omega)).trans c3
    have kk4:∀ b,b<s.next→¬ O b→s4.at' b=s.at' b:=fun b hb hO=>(hs4.2 b (by omega)).trans (kk3 b hb hO)
    have a4:=a3.le hs4
    have h4:=h3.le hs4
    have ge4:s4.at' eb=_:=(hs4.2 eb (by simp only at hebn;omega)).trans ge3
    cases hh:holdsE H ((playsS (T.st i j) false x).es.getD i1 e0) with
    |true =>
     simp only[hh,if_true]at fin
     simp -implicitDefEqProofs only[↓Zd,(Zp),simprocAttr,qP,Value.cells,qC,cld2,(HEx),(STx),hbt4,wh,co55]
     have a5:=hit_at (s':=s4.put t (.cells [al,.int .i64 ((T.hits+1:Nat):Int),.int .i64 (T.misses:Int)] 84 true)) a4 rfl (by rw[St.at_put,if_pos rfl];rfl) (fun b hb=>by rw[St.at_put,if_neg hb])
     have hebt:¬ eb=t:=at_apart ge4 hbt4 (by decide)
     refine sval_spec (hp_put h4 htP) (c:=fun m=>entC ((playsS (T.st i j) false x).es.getD m e0) (dlf m)) (e:=(playsS (T.st i j) false x).es.getD i1 e0) (dl:=dlf i1) (junk:=junk) (fun _=>rfl) (by rw[St.at_put,if_neg hebt];exact ge4) (by simp only[St.next_put]at hebn ⊢;omega) hi1 rfl ho (by omega) (by omega) fun s9 l9=>?_
     have hv:=get_hit h.ok hpro hz0 hpl hyes hh
     have n9:=l9.1
     simp only[St.next_put]at n9
     have c9:s9.at' s.next=some (.cells [.int .i64 0,.int .i64 0,.string ⟨#[]⟩] 36 true):=by rw[l9.2 _ (by simp only[St.next_put];omega),St.at_put,if_neg htne];exact c4
     unfold vOf vA
     simp -implicitDefEqProofs only[↓Zd,(Zp),simprocAttr,qP,Value.cells,cut,qC,cld2,(HEx),c9]
     exact fin ⟨_,_,_,_,a5⟩ (fun b hb hO=>by rw[St.at_put,if_neg (fun e=>hO (by rw[e];exact hs.pin))];exact kk4 b hb hO) (by simp only[St.next_put];omega) (fun b hb => .inl hb) l9 hv
    |false =>
     simp only[hh,Bool.false_eq_true,if_false]at fin
     simp -implicitDefEqProofs only[↓Zd,(Zp),simprocAttr,qP,Value.cells,qC,cld2,(HEx),(STx),hbt4,wm,co56]
     have a5:=miss_at (s':=s4.put t (.cells [al,.int .i64 (T.hits:Int),.int .i64 ((T.misses+1:Nat):Int)] 84 true)) a4 rfl (by rw[St.at_put,if_pos rfl];rfl) (fun b hb=>by rw[St.at_put,if_neg hb])
     have h5:=hp_put (B := .cells [al,.int .i64 (T.hits:Int),.int .i64 ((T.misses+1:Nat):Int)] 84 true) h4 htP
     have k5:∀ b,b<s.next→¬ O b→(s4.put t (.cells [al,.int .i64 (T.hits:Int),.int .i64 ((T.misses+1:Nat):Int)] 84 true)).at' b=s.at' b:=fun b hb hO=>by rw[St.at_put,if_neg (fun e=>hO (by rw[e];exact hs.pin))];exact kk4 b hb hO
     have c5:(s4.put t (.cells [al,.int .i64 (T.hits:Int),.int .i64 ((T.misses+1:Nat):Int)] 84 true)).at' s.next=some (.cells [.int .i64 0,.int .i64 0,.string ⟨#[]⟩] 36 true):=by rw[St.at_put,if_neg htne];exact c4
     have n5:s.next+1≤(s4.put t (.cells [al,.int .i64 (T.hits:Int),.int .i64 ((T.misses+1:Nat):Int)] 84 true)).next:=by simp only[St.next_put];omega
     generalize s4.put t (.cells [al,.int .i64 (T.hits:Int),.int .i64 ((T.misses+1:Nat):Int)] 84 true)=s5 at a5 h5 k5 c5 n5 ⊢
     refine slook_spec h5 hpro ho (fun s6 l6 hlk=>?_) (fun s6 e dl l6 hlk hD=>?_)
     ·have hr0:=hr.one hlk
      subst hr0
      simp -implicitDefEqProofs only[↓Zd,(Zp),simprocAttr,qP,Value.cells,qC,(STx),co19]
      have n6:=l6.1
      refine hget_spec (h5.le (lT l6 (by repeat (first|exact lR _|assumption|refine lN ?_|refine lP ?_ (by first|omega|(simp only[(Sn)];omega))|refine lT ?_ (by assumption))))) ho fun s9 v l9 hv=>?_
      have n9:=l9.1
      simp only[(Sn)]at n9
      have l59:s5.le s9:=lT (lT l6 (by repeat (first|exact lR _|assumption|refine lN ?_|refine lP ?_ (by first|omega|(simp only[(Sn)];omega))|refine lT ?_ (by assumption)))) l9
      have c9:=(l59.2 s.next (by omega)).trans c5
      unfold vOf vA
      simp -implicitDefEqProofs only[↓Zd,(Zp),simprocAttr,qP,Value.cells,cut,qC,cld2,(HEx),c9]
      exact fin ⟨_,_,_,_,a5⟩ k5 n5 (fun b hb => .inl hb) l59 hv
     ·have hr0:=hr.one hlk
      subst hr0
      obtain⟨qa,qn,qc,rfl⟩:=hD.form
      have n6:=l6.1
      simp -implicitDefEqProofs only[↓Zd,(Zp),simprocAttr,qP,Value.cells,cut,qC,cld2,(STx),entC,co57]
      have l7:s6.le ((s6.new (.cells [.int .i64 0,.int .i64 0,.int .i64 0,.int .i64 0,.slice none 0 0] 51 true)).put s6.next (.cells [.int .i64 (e.shape:Int),.int .i64 e.holder,.int .i64 e.slot,.int .i64 (e.to:Int),.slice qa qn qc] 51 true)):=(by repeat (first|exact lR _|assumption|refine lN ?_|refine lP ?_ (by first|omega|(simp only[(Sn)];omega))|refine lT ?_ (by assumption)))
      have n7:((s6.new (.cells [.int .i64 0,.int .i64 0,.int .i64 0,.int .i64 0,.slice none 0 0] 51 true)).put s6.next (.cells [.int .i64 (e.shape:Int),.int .i64 e.holder,.int .i64 e.slot,.int .i64 (e.to:Int),.slice qa qn qc] 51 true)).next=s6.next+1:=rfl
      generalize (s6.new (.cells [.int .i64 0,.int .i64 0,.int .i64 0,.int .i64 0,.slice none 0 0] 51 true)).put s6.next (.cells [.int .i64 (e.shape:Int),.int .i64 e.holder,.int .i64 e.slot,.int .i64 (e.to:Int),.slice qa qn qc] 51 true)=s7 at l7 n7 ⊢
      have l57:=lT l6 l7
      have a7:=(a5.le l57).more (O':=fun b=>O b∨s.next+1≤b∧b<s7.next) (fun b hb => .inl hb) (fun b hb=>by rcases hb with hb|hb;have:=hs.own b hb;exact⟨this.1,by omega⟩;exact⟨by omega,hb.2⟩)
      have hD7:=hD.same (s':=s7) (O':=fun b=>O b∨s.next+1≤b∧b<s7.next) fun b hb=>⟨.inr ⟨by omega,by omega⟩,l7.2 b hb.2⟩
      have hst:(missT (putT T (i:Int) (j:Int) (playsS (T.st i j) false x))).st i j=playsS (T.st i j) false x:=putT_st T i j _
      refine skeep_spec (M:=M) a7 (i:=i) (j:=j) (e:=e) (dl := .slice qa qn qc) hi hj (by omega) (by rw[hst];exact hz.few) (by rw[hst];exact hpi.2.2.2.2.1) hD7 fun s8 O8 sl8 a8 u8=>?_
      rw[hst,putT_two]at a8
      have n8:=u8.next
      have hP8:∀ c,P c→s8.at' c=s7.at' c:=fun c hc=>u8.keep c (by have:=hPn c hc;omega) fun hO=>by
       rcases hO with hO|hO
       ·exact hd c hc hO
       ·have:=hPn c hc;omega
      have h8:=(h5.le l57).same n8 hP8
      have hns:¬ (O s.next∨s.next+1≤s.next∧s.next<s7.next):=fun hO=>by
       rcases hO with hO|hO
       ·have:=(hs.own _ hO).2;omega
       ·omega
      have c8:=(u8.keep s.next (by omega) hns).trans ((l57.2 s.next (by omega)).trans c5)
      simp -implicitDefEqProofs only[↓Zd,(Zp),simprocAttr,(HEx),co19]
      refine hget_spec h8 ho fun s9 v l9 hv=>?_
      have n9:=l9.1
      have c9:=(l9.2 s.next (by omega)).trans c8
      unfold vOf vA
      simp -implicitDefEqProofs only[↓Zd,(Zp),simprocAttr,qP,Value.cells,cut,qC,cld2,(HEx),c9]
      exact fin ⟨_,_,_,_,a8⟩ (fun b hb hO=>by rw[u8.keep b (by omega) (fun hc=>by rcases hc with hc|hc;exact hO hc;omega),l57.2 b (by omega)];exact k5 b hb hO) (by omega) (fun b hb=>by
       rcases u8.own b hb with hb|hb
       ·rcases hb with hb|hb
        ·exact .inl hb
        ·exact .inr hb.1
       ·exact .inr (by omega)) l9 hv
end
section
variable {lo t p N NN:Nat}{H:Hp}{T:Tab}{O P:Nat→Prop}{al:Value}{rb cp:Nat→Nat}{sl:Nat→Nat→Value}
theorem ha_put{s:St M}(h:HpAt lo s p H NN P){b:Nat}{B:Blk}(hb:¬ P b):HpAt lo (s.put b B) p H NN P:=
 h.same (Nat.le_refl _) fun c hc=>by rw[St.at_put,if_neg (fun e=>hb (by rw[← e];exact hc))]
theorem tset_spec(h:HpAt lo s p H NN P)(hS:STab PY lo s t T N O)(hfs:0<T.fs)(hd:∀ b,P b→¬ O b)(hT:TabOk H T)(hlo:lo≤s.next)(hN:N+1≤1000000)(hNN:NN+3≤1000000)(h32:32≤NN){f k o:Int}(ho : -9223372036854775808≤o∧o≤9223372036854775807){x vy:ByteArray}{vk vn:Int}
  (hR:∀ s' P' O',HpAt lo s' p (setH H o x (vk,vn,vy)) (NN+3) P'→STab PY lo s' t (setT H T f k o x (vk,vn,vy)) (N+1) O'→(∀ b,P' b→¬ O' b)→s.next≤s'.next→(∀ b,b<s.next→¬ P b→¬ O b→s'.at' b=s.at' b)→(∀ b,P' b→P b∨s.next≤b)→(∀ b,O' b→O b∨s.next≤b)→R (.int .i64 (setE H o x)) s') :
  QC prog w0 20 #[.pointer (some ⟨t,0,none⟩),.pointer (some ⟨p,0,none⟩),.int .i64 f,.int .i64 k,.int .i64 o,.string x,vA vk vn vy] s R:=by
 refine wfun2 hmix ok20 func20 rfl ntmps20 results20 (by simp) ?_
 have hpro:=h.1
 have hok:=h.ok
 have hF:=h.fok
 have hm150:H.F.length≤150:=by
  obtain⟨_,tg,pf,pn,sl0,bs,hin⟩:=h
  have:=hin.fo.le;omega
 obtain⟨al,rb,cp,sl,hs⟩:=hS
 have l1:s.le (s.new (.cells [.int .i64 vk,.int .i64 vn,.string vy] 36 true)):=lN (lR _)
 have c1:(s.new (.cells [.int .i64 vk,.int .i64 vn,.string vy] 36 true)).at' s.next=some (.cells [.int .i64 vk,.int .i64 vn,.string vy] 36 true):=by rw[St.at_new,if_pos rfl]
 have n1:(s.new (.cells [.int .i64 vk,.int .i64 vn,.string vy] 36 true)).next=s.next+1:=rfl
 have htn:=(hs.own _ hs.pin).2
 have htP:¬ P t:=fun hc=>hd t hc hs.pin
 have hPn:∀ c,P c→c<s.next:=fun c hc=>(h.own c hc).2
 have hOn:∀ c,O c→c<s.next:=fun c hc=>(hs.own c hc).2
 have wm:IntKind.i64.wrap ((T.misses:Int)+1)=((T.misses+1:Nat):Int):=by rw[wrap_i64 (by have:=hs.cnt.2;omega)];omega
 have wh:IntKind.i64.wrap ((T.hits:Int)+1)=((T.hits+1:Nat):Int):=by rw[wrap_i64 (by have:=hs.cnt.1;omega)];omega
 simp -implicitDefEqProofs only[↓Zd,(Zp),simprocAttr,qP,Value.cells,(HEx),vA,co51]
 generalize s.new (.cells [.int .i64 vk,.int .i64 vn,.string vy] 36 true)=s1 at l1 c1 n1 ⊢
 have h1:=h.le l1
 have hs1:=hs.le l1
 have hb1:s1.at' t=some (.cells [al,.int .i64 (T.hits:Int),.int .i64 (T.misses:Int)] 84 true):=hs1.bl
 have htne:¬ s.next=t:=by omega
 obtain⟨_,tg,pf,pn,sl0,bs,hin1⟩:=id h1
 refine sdead_spec hs1 hfs ?_
 simp -implicitDefEqProofs only[↓Zd,(Zp),simprocAttr,(HEx),vA,co36]
 refine sfind_spec hs1 hfs (fun hnot=>?_) (fun i j hfi hkj hi hj hhas=>?_)
 ·simp -implicitDefEqProofs only[↓Zd,(Zp),simprocAttr,(STx),vA,co12]
  refine hshape_spec hin1 ho ?_
  have hgt:setT H T f k o x (vk,vn,vy)=missT T:=by unfold setT;split<;>first|rfl|(rw[if_pos hnot])
  rw[hgt]at hR
  by_cases h0:shapeV H o=0
  ·simp -implicitDefEqProofs only[↓Zd,(Zp),simprocAttr,qP,Value.cells,cut,qC,cld2,(HEx),(STx),vA,h0,hb1,wm,c1,htne,co21]
   have h2':=ha_put (B := .cells [al,.int .i64 (T.hits:Int),.int .i64 ((T.misses+1:Nat):Int)] 84 true) h1 htP
   refine hset_spec (k:=vk) (n:=vn) (y:=vy) h2' (by simp only[St.next_put];omega) hNN h32 ho fun s9 P9 h9 u9=>?_
   have a8:=miss_at (s':=s1.put t (.cells [al,.int .i64 (T.hits:Int),.int .i64 ((T.misses+1:Nat):Int)] 84 true)) hs1 rfl (by rw[St.at_put,if_pos rfl]) (fun b hb=>by rw[St.at_put,if_neg hb])
   have a9:=STab.other ⟨_,_,_,_,a8⟩ u9 hd
   have n9:=u9.next
   simp only[St.next_put]at n9
   simp -implicitDefEqProofs only[↓Zd,(Zp),simprocAttr,(HEx),vA]
   exact hR s9 P9 O h9 a9.1 a9.2 (by omega) (fun b hb hP hO=>by rw[u9.keep b (by simp only[St.next_put];omega) hP,St.at_put,if_neg (fun e=>hO (by rw[e];exact hs.pin))];exact l1.2 b (by omega)) (fun b hb=>by
    rcases u9.own b hb with hb|hb
    ·exact .inl hb
    ·simp only[St.next_put]at hb;exact .inr (by omega)) (fun b hb => .inl hb)
  ·simp -implicitDefEqProofs only[↓Zd,(Zp),simprocAttr,(HEx),vA,h0,co52]
   refine splays0_spec ?_
   simp -implicitDefEqProofs only[↓Zd,(Zp),simprocAttr,qP,Value.cells,cut,qC,cld2,(HEx),(STx),vA,hb1,wm,c1,htne,co21]
   have h2':=ha_put (B := .cells [al,.int .i64 (T.hits:Int),.int .i64 ((T.misses+1:Nat):Int)] 84 true) h1 htP
   refine hset_spec (k:=vk) (n:=vn) (y:=vy) h2' (by simp only[St.next_put];omega) hNN h32 ho fun s9 P9 h9 u9=>?_
   have a8:=miss_at (s':=s1.put t (.cells [al,.int .i64 (T.hits:Int),.int .i64 ((T.misses+1:Nat):Int)] 84 true)) hs1 rfl (by rw[St.at_put,if_pos rfl]) (fun b hb=>by rw[St.at_put,if_neg hb])
   have a9:=STab.other ⟨_,_,_,_,a8⟩ u9 hd
   have n9:=u9.next
   simp only[St.next_put]at n9
   simp -implicitDefEqProofs only[↓Zd,(Zp),simprocAttr,(HEx),vA]
   exact hR s9 P9 O h9 a9.1 a9.2 (by omega) (fun b hb hP hO=>by rw[u9.keep b (by simp only[St.next_put];omega) hP,St.at_put,if_neg (fun e=>hO (by rw[e];exact hs.pin))];exact l1.2 b (by omega)) (fun b hb=>by
    rcases u9.own b hb with hb|hb
    ·exact .inl hb
    ·simp only[St.next_put]at hb;exact .inr (by omega)) (fun b hb => .inl hb)
 ·subst hfi hkj
  rw[setT,if_neg (not_not_intro hhas),siteAt_nat]at hR
  simp -implicitDefEqProofs only[↓Zd,(Zp),simprocAttr,(STx),vA,co12]
  refine hshape_spec hin1 ho ?_
  by_cases h0:shapeV H o=0
  ·rw[if_pos h0]at hR
   simp -implicitDefEqProofs only[↓Zd,(Zp),simprocAttr,qP,Value.cells,cut,qC,cld2,(HEx),(STx),vA,h0,hb1,wm,c1,htne,co21]
   have h2':=ha_put (B := .cells [al,.int .i64 (T.hits:Int),.int .i64 ((T.misses+1:Nat):Int)] 84 true) h1 htP
   refine hset_spec (k:=vk) (n:=vn) (y:=vy) h2' (by simp only[St.next_put];omega) hNN h32 ho fun s9 P9 h9 u9=>?_
   have a8:=miss_at (s':=s1.put t (.cells [al,.int .i64 (T.hits:Int),.int .i64 ((T.misses+1:Nat):Int)] 84 true)) hs1 rfl (by rw[St.at_put,if_pos rfl]) (fun b hb=>by rw[St.at_put,if_neg hb])
   have a9:=STab.other ⟨_,_,_,_,a8⟩ u9 hd
   have n9:=u9.next
   simp only[St.next_put]at n9
   simp -implicitDefEqProofs only[↓Zd,(Zp),simprocAttr,(HEx),vA]
   exact hR s9 P9 O h9 a9.1 a9.2 (by omega) (fun b hb hP hO=>by rw[u9.keep b (by simp only[St.next_put];omega) hP,St.at_put,if_neg (fun e=>hO (by rw[e];exact hs.pin))];exact l1.2 b (by omega)) (fun b hb=>by
    rcases u9.own b hb with hb|hb
    ·exact .inl hb
    ·simp only[St.next_put]at hb;exact .inr (by omega)) (fun b hb => .inl hb)
  rw[if_neg h0]at hR
  simp -implicitDefEqProofs only[↓Zd,(Zp),simprocAttr,(HEx),vA,h0,co52]
  refine splays_spec (c:=fun m=>sitC (T.st i m) (sl i m)) (hs1.row i hi) (fun _=>rfl) hj rfl fun s2 n2 b2 k2=>?_
  have hrP:¬ P (rb i):=fun hc=>hd _ hc (hs.pinR i hi)
  have a2:=plays_at hs1 hi hj n2 b2 k2
  have h2:=h1.same (s':=s2) (by omega) fun c hc=>k2 c (fun e=>hrP (by rw[← e];exact hc))
  have hrn:=(hs.own _ (hs.pinR i hi)).2
  have c2:=(k2 s.next (by omega)).trans c1
  have hbt2:s2.at' t=some (.cells [al,.int .i64 (T.hits:Int),.int .i64 (T.misses:Int)] 84 true):=a2.bl
  have kk2:∀ b,b<s.next→¬ O b→s2.at' b=s.at' b:=fun b hb hO=>by rw[k2 b (fun e=>hO (by rw[e];exact hs.pinR i hi))];exact l1.2 b hb
  cases hpl:playsB (T.st i j) true x with
  |false =>
   rw[plays_no hpl,putT_same]at a2
   rw[if_pos hpl]at hR
   simp -implicitDefEqProofs only[↓Zd,(Zp),simprocAttr,qP,Value.cells,cut,qC,cld2,(HEx),(STx),vA,hbt2,wm,c2,htne,co21]
   have h2':=ha_put (B := .cells [al,.int .i64 (T.hits:Int),.int .i64 ((T.misses+1:Nat):Int)] 84 true) h2 htP
   refine hset_spec (k:=vk) (n:=vn) (y:=vy) h2' (by simp only[St.next_put];omega) hNN h32 ho fun s9 P9 h9 u9=>?_
   have a8:=miss_at (s':=s2.put t (.cells [al,.int .i64 (T.hits:Int),.int .i64 ((T.misses+1:Nat):Int)] 84 true)) a2 rfl (by rw[St.at_put,if_pos rfl]) (fun b hb=>by rw[St.at_put,if_neg hb])
   have a9:=STab.other ⟨_,_,_,_,a8⟩ u9 hd
   have n9:=u9.next
   simp only[St.next_put]at n9
   simp -implicitDefEqProofs only[↓Zd,(Zp),simprocAttr,(HEx),vA]
   exact hR s9 P9 O h9 a9.1 a9.2 (by omega) (fun b hb hP hO=>by rw[u9.keep b (by simp only[St.next_put];omega) hP,St.at_put,if_neg (fun e=>hO (by rw[e];exact hs.pin))];exact kk2 b hb hO) (fun b hb=>by
    rcases u9.own b hb with hb|hb
    ·exact .inl hb
    ·simp only[St.next_put]at hb;exact .inr (by omega)) (fun b hb => .inl hb)
  |true =>
   rw[plays_yes hpl]at a2 b2
   rw[if_neg (by rw[hpl];decide)]at hR
   have hz0:SitOk H (T.st i j):=hT i j hi hj
   have hz:=plays_ok hz0 true x
   have hpi:=plays_is hpl
   have hE2:=a2.es i j hi hj
   rw[putT_st]at hE2
   simp -implicitDefEqProofs only[↓Zd,(Zp),simprocAttr,(HEx),vA,co53]
   refine shit_spec (c:=fun m=>if m=j then sitC (playsS (T.st i j) true x) (sl i j) else sitC (T.st i m) (sl i m)) (z:=playsS (T.st i j) true x) (v:=sl i j) b2 (by omega) (fun m=>by (try dsimp only);split<;>rfl) hj (if_pos rfl) hE2 (fun b hb=>by have:=(hs.own b hb).2;omega) (by have:=hz.few;omega) (fun hno s3 hs3=>?_) (fun i1 eb hyes hi1 hsl s3 hs3=>?_)
   ·rw[hno]at hR
    have hbt3:=(hs3.2 t (by omega)).trans hbt2
    have c3:=(hs3.2 s.next (by omega)).trans c2
    have n3:=hs3.1
    have kk3:∀ b,b<s.next→¬ O b→s3.at' b=s.at' b:=fun b hb hO=>(hs3.2 b (by omega)).trans (kk2 b hb hO)
    have a3:=a2.le hs3
    have h3:=h2.le hs3
    simp -implicitDefEqProofs only[↓Zd,(Zp),simprocAttr,qP,Value.cells,qC,cld2,(HEx),(STx),vA,hbt3,wm,co62]
    have a4:=miss_at (s':=s3.put t (.cells [al,.int .i64 (T.hits:Int),.int .i64 ((T.misses+1:Nat):Int)] 84 true)) a3 rfl (by rw[St.at_put,if_pos rfl];rfl) (fun b hb=>by rw[St.at_put,if_neg hb])
    have h4:=ha_put (B := .cells [al,.int .i64 (T.hits:Int),.int .i64 ((T.misses+1:Nat):Int)] 84 true) h3 htP
    have kk4:∀ b,b<s.next→¬ O b→(s3.put t (.cells [al,.int .i64 (T.hits:Int),.int .i64 ((T.misses+1:Nat):Int)] 84 true)).at' b=s.at' b:=fun b hb hO=>by rw[St.at_put,if_neg (fun e=>hO (by rw[e];exact hs.pin))];exact kk3 b hb hO
    have c4:(s3.put t (.cells [al,.int .i64 (T.hits:Int),.int .i64 ((T.misses+1:Nat):Int)] 84 true)).at' s.next=some (.cells [.int .i64 vk,.int .i64 vn,.string vy] 36 true):=by rw[St.at_put,if_neg htne];exact c3
    have n4:(s3.put t (.cells [al,.int .i64 (T.hits:Int),.int .i64 ((T.misses+1:Nat):Int)] 84 true)).next=s3.next:=rfl
    generalize s3.put t (.cells [al,.int .i64 (T.hits:Int),.int .i64 ((T.misses+1:Nat):Int)] 84 true)=s4 at a4 h4 kk4 c4 n4 ⊢
    have hsh:0≤shapeV H o∧shapeV H o≤9223372036854775807:=by
     obtain⟨ob,hob,e1,e2⟩:=shapeV_some h0
     obtain⟨l,hl⟩:=fits_at hok hpro hob e2
     have:=(List.getElem?_eq_some_iff.1 hl).1
     omega
    obtain⟨_,tg4,pf4,pn4,sl4,bs4,hin4⟩:=id h4
    refine hslotof_spec (i:=shapeV H o) hin4 (by omega) fun s5 hs5=>?_
    have n5:=hs5.1
    have hne5:¬ s.next=s5.next:=by omega
    have c5:=(hs5.2 s.next (by omega)).trans c4
    simp -implicitDefEqProofs only[↓Zd,(Zp),simprocAttr,qP,Value.cells,cut,qC,cld2,(HEx),(STx),vA,bEnt2,c5,hne5,co21]
    have l6:s5.le ((s5.new (.cells [.int .i64 0,.int .i64 0,.int .i64 0,.int .i64 0,.slice none 0 0] 51 true)).put s5.next (.cells [.int .i64 (shapeV H o),.int .i64 0,.int .i64 (slotOf H (shapeV H o) x),.int .i64 0,.slice none 0 0] 51 true)):=lP (lN (lR _)) (Nat.le_refl _)
    have e6:((s5.new (.cells [.int .i64 0,.int .i64 0,.int .i64 0,.int .i64 0,.slice none 0 0] 51 true)).put s5.next (.cells [.int .i64 (shapeV H o),.int .i64 0,.int .i64 (slotOf H (shapeV H o) x),.int .i64 0,.slice none 0 0] 51 true)).at' s5.next=some (.cells [.int .i64 (shapeV H o),.int .i64 0,.int .i64 (slotOf H (shapeV H o) x),.int .i64 0,.slice none 0 0] 51 true):=by rw[St.at_put,if_pos rfl]
    have n6:((s5.new (.cells [.int .i64 0,.int .i64 0,.int .i64 0,.int .i64 0,.slice none 0 0] 51 true)).put s5.next (.cells [.int .i64 (shapeV H o),.int .i64 0,.int .i64 (slotOf H (shapeV H o) x),.int .i64 0,.slice none 0 0] 51 true)).next=s5.next+1:=rfl
    generalize (s5.new (.cells [.int .i64 0,.int .i64 0,.int .i64 0,.int .i64 0,.slice none 0 0] 51 true)).put s5.next (.cells [.int .i64 (shapeV H o),.int .i64 0,.int .i64 (slotOf H (shapeV H o) x),.int .i64 0,.slice none 0 0] 51 true)=s6 at l6 e6 n6 ⊢
    have l46:=lT hs5 l6
    refine hset_spec (k:=vk) (n:=vn) (y:=vy) (h4.le l46) (by omega) hNN h32 ho fun s7 P7 h7 u7=>?_
    have n7:=u7.next
    have a7:=STab.other (s':=s7) ⟨_,_,_,_,a4.le l46⟩ u7 hd
    have at7:=(a4.le l46).same (s':=s7) n7 fun b hb=>u7.keep b (by have:=hOn b hb;omega) fun hP=>hd b hP hb
    have e7:=(u7.keep s5.next (by omega) fun hP=>by have:=hPn _ hP;omega).trans e6
    have kk7:∀ b,b<s.next→¬ P b→¬ O b→s7.at' b=s.at' b:=fun b hb hP hO=>by rw[u7.keep b (by omega) hP,l46.2 b (by omega)];exact kk4 b hb hO
    have own7:∀ b,P7 b→P b∨s.next≤b:=fun b hb=>by
     rcases u7.own b hb with hb|hb
     ·exact .inl hb
     ·exact .inr (by omega)
    by_cases hE0:setE H o x=0
    ·obtain⟨_,tg7,pf7,pn7,sl7,bs7,hin7⟩:=id h7
     rw[hE0]
     simp -implicitDefEqProofs only[↓Zd,(Zp),simprocAttr,(HEx),vA,co12]
     refine hshape_spec hin7 ho ?_
     by_cases hs0:shapeV (setH H o x (vk,vn,vy)) o=0
     ·rw[if_neg (fun hc=>hc.2 hs0),hE0]at hR
      rw[hs0]
      simp -implicitDefEqProofs only[↓Zd,(Zp),simprocAttr,(HEx),vA]
      exact hR s7 P7 O h7 a7.1 a7.2 (by omega) kk7 own7 (fun b hb => .inl hb)
     rw[if_pos ⟨hE0,hs0⟩,hE0]at hR
     have hsh7:0≤shapeV (setH H o x (vk,vn,vy)) o:=by unfold shapeV;split<;>omega
     have hst:(missT (putT T (i:Int) (j:Int) (playsS (T.st i j) true x))).st i j=playsS (T.st i j) true x:=putT_st T i j _
     by_cases hk:slotOf H (shapeV H o) x<0
     ·simp -implicitDefEqProofs only[↓Zd,(Zp),simprocAttr,cld2,(HEx),(STx),vA,hs0,hk,e7,co12]
      refine hshape_spec hin7 ho ?_
      simp -implicitDefEqProofs only[↓Zd,(Zp),simprocAttr,qP,Value.cells,cut,qC,cld2,(HEx),(STx),vA,e7,co57]
      have hnew:newE H o x (vk,vn,vy)=⟨(shapeV H o).toNat,0,0,(shapeV (setH H o x (vk,vn,vy)) o).toNat,[]⟩:=by unfold newE;rw[if_neg (by omega)]
      have hA:(.agg #[.int .i64 (shapeV H o),.int .i64 0,.int .i64 0,.int .i64 (shapeV (setH H o x (vk,vn,vy)) o),.slice none 0 0]:Value) = .agg (entC (newE H o x (vk,vn,vy)) (.slice none 0 0)).toArray:=by
       rw[hnew]
       simp only[entC,Int.toNat_of_nonneg hsh.1,Int.toNat_of_nonneg hsh7]
      rw[hA]
      have hd0:(newE H o x (vk,vn,vy)).deps=[]:=by rw[hnew]
      have hput:∀ b,b≠s5.next→((s7.put s5.next (.cells [.int .i64 (shapeV H o),.int .i64 0,.int .i64 0,.int .i64 0,.slice none 0 0] 51 true)).put s5.next (.cells [.int .i64 (shapeV H o),.int .i64 0,.int .i64 0,.int .i64 (shapeV (setH H o x (vk,vn,vy)) o),.slice none 0 0] 51 true)).at' b=s7.at' b:=fun b hb=>(by rw[St.at_put,if_neg hb,St.at_put,if_neg hb])
      have at8:SAt PY lo ((s7.put s5.next (.cells [.int .i64 (shapeV H o),.int .i64 0,.int .i64 0,.int .i64 0,.slice none 0 0] 51 true)).put s5.next (.cells [.int .i64 (shapeV H o),.int .i64 0,.int .i64 0,.int .i64 (shapeV (setH H o x (vk,vn,vy)) o),.slice none 0 0] 51 true)) t (missT (putT T (i:Int) (j:Int) (playsS (T.st i j) true x))) (N+1) O al rb cp _:=at7.same (Nat.le_refl _) fun b hb=>hput b (fun e=>by have:=hOn b hb;omega)
      refine skeep_spec (M:=M) at8 (i:=i) (j:=j) (e:=newE H o x (vk,vn,vy)) (dl := .slice none 0 0) hi hj (by show lo≤s7.next;omega) (by rw[hst];exact hz.few) (by rw[hst];exact hpi.2.2.2.2.1) (by rw[hd0];exact⟨.inl ⟨rfl,rfl,rfl⟩,fun q n c e=>(by cases e),fun _=>rfl⟩) fun s9 O9 sl9 a9 u9=>?_
      rw[hst,putT_two]at a9
      have n9:s7.next≤s9.next:=u9.next
      have hk9:∀ b,b<s5.next→¬ O b→s9.at' b=s7.at' b:=fun b hb hO=>(u9.keep b (by show b<s7.next;omega) hO).trans (hput b (by omega))
      simp -implicitDefEqProofs only[↓Zd,(Zp),simprocAttr,(HEx),vA]
      refine hR s9 P7 O9 (h7.same n9 fun c hc=>?_) ⟨_,_,_,_,a9⟩ (fun b hb hO=>?_) (by omega) (fun b hb hP hO=>(hk9 b (by omega) hO).trans (kk7 b hb hP hO)) own7 (fun b hb=>?_)
      ·have hne:c≠s5.next:=fun e=>by
        rcases u7.own c hc with h8|h8
        ·have:=hPn c h8;omega
        ·omega
       exact (u9.keep c (h7.own c hc).2 (a7.2 c hc)).trans (hput c hne)
      ·rcases u9.own b hO with h8|h8
       ·exact a7.2 b hb h8
       ·have:=(h7.own b hb).2
        have h8:s7.next≤b:=h8
        omega
      ·rcases u9.own b hb with h8|h8
       ·exact .inl h8
       ·have h8:s7.next≤b:=h8
        exact .inr (by omega)
     ·simp -implicitDefEqProofs only[↓Zd,(Zp),simprocAttr,cut,cld2,(HEx),(STx),vA,hs0,hk,e7,co57]
      have hnew:newE H o x (vk,vn,vy)=⟨(shapeV H o).toNat,0,slotOf H (shapeV H o) x,0,[]⟩:=by unfold newE;rw[if_pos (by omega)]
      have hA:(.agg #[.int .i64 (shapeV H o),.int .i64 0,.int .i64 (slotOf H (shapeV H o) x),.int .i64 0,.slice none 0 0]:Value) = .agg (entC (newE H o x (vk,vn,vy)) (.slice none 0 0)).toArray:=by
       rw[hnew]
       simp only[entC,Int.toNat_of_nonneg hsh.1]
       rfl
      rw[hA]
      have hd0:(newE H o x (vk,vn,vy)).deps=[]:=by rw[hnew]
      have hput:∀ b,b≠s5.next→s7.at' b=s7.at' b:=fun b hb=>rfl
      have at8:SAt PY lo s7 t (missT (putT T (i:Int) (j:Int) (playsS (T.st i j) true x))) (N+1) O al rb cp _:=at7.same (Nat.le_refl _) fun b hb=>hput b (fun e=>by have:=hOn b hb;omega)
      refine skeep_spec (M:=M) at8 (i:=i) (j:=j) (e:=newE H o x (vk,vn,vy)) (dl := .slice none 0 0) hi hj (by show lo≤s7.next;omega) (by rw[hst];exact hz.few) (by rw[hst];exact hpi.2.2.2.2.1) (by rw[hd0];exact⟨.inl ⟨rfl,rfl,rfl⟩,fun q n c e=>(by cases e),fun _=>rfl⟩) fun s9 O9 sl9 a9 u9=>?_
      rw[hst,putT_two]at a9
      have n9:s7.next≤s9.next:=u9.next
      have hk9:∀ b,b<s5.next→¬ O b→s9.at' b=s7.at' b:=fun b hb hO=>(u9.keep b (by show b<s7.next;omega) hO).trans (hput b (by omega))
      simp -implicitDefEqProofs only[↓Zd,(Zp),simprocAttr,(HEx),vA]
      refine hR s9 P7 O9 (h7.same n9 fun c hc=>?_) ⟨_,_,_,_,a9⟩ (fun b hb hO=>?_) (by omega) (fun b hb hP hO=>(hk9 b (by omega) hO).trans (kk7 b hb hP hO)) own7 (fun b hb=>?_)
      ·have hne:c≠s5.next:=fun e=>by
        rcases u7.own c hc with h8|h8
        ·have:=hPn c h8;omega
        ·omega
       exact (u9.keep c (h7.own c hc).2 (a7.2 c hc)).trans (hput c hne)
      ·rcases u9.own b hO with h8|h8
       ·exact a7.2 b hb h8
       ·have:=(h7.own b hb).2
        have h8:s7.next≤b:=h8
        omega
      ·rcases u9.own b hb with h8|h8
       ·exact .inl h8
       ·have h8:s7.next≤b:=h8
        exact .inr (by omega)
    ·rw[if_neg (fun hc=>hE0 hc.1)]at hR
     simp -implicitDefEqProofs only[↓Zd,(Zp),simprocAttr,(HEx),vA,hE0]
     exact hR s7 P7 O h7 a7.1 a7.2 (by omega) kk7 own7 (fun b hb => .inl hb)
   ·rw[hyes]at hR
    have hbt3:=(hs3.2 t (by omega)).trans hbt2
    have c3:=(hs3.2 s.next (by omega)).trans c2
    have n3:=hs3.1
    have kk3:∀ b,b<s.next→¬ O b→s3.at' b=s.at' b:=fun b hb hO=>(hs3.2 b (by omega)).trans (kk2 b hb hO)
    have a3:=a2.le hs3
    have h3:=h2.le hs3
    obtain⟨e,he1,he2,he3,hso⟩:=set_hit hz0 hpl hyes
    obtain⟨q1,q2,q3⟩:=hso.small hok hF
    obtain⟨dlf,g1,g2,g3,g4⟩:=hE2
    rw[hsl]at g1 g2
    rcases g1 with ⟨g1,_,_⟩|⟨eb2,junk,ge,g1,_⟩
    ·omega
    cases ge
    have hebn:=(hs.own _ (g2 _ _ _ rfl)).2
    have ge3:s3.at' eb=_:=(hs3.2 eb (by simp only at hebn;omega)).trans g1
    have hebt:¬ eb=t:=at_apart ge3 hbt3 (by decide)
    have u2:(rows (fun m=>entC ((playsS (T.st i j) true x).es.getD m e0) (dlf m)) (playsS (T.st i j) true x).es.length++junk)[i1*5+2]?=some (.int .i64 e.slot):=by
     rw[rows_get (c:=fun m=>entC ((playsS (T.st i j) true x).es.getD m e0) (dlf m)) (k:=5) (fun _=>rfl) junk hi1 (j:=2) (by omega)]
     simp only[he1];rfl
    have u3:(rows (fun m=>entC ((playsS (T.st i j) true x).es.getD m e0) (dlf m)) (playsS (T.st i j) true x).es.length++junk)[i1*5+3]?=some (.int .i64 (e.to:Int)):=by
     rw[rows_get (c:=fun m=>entC ((playsS (T.st i j) true x).es.getD m e0) (dlf m)) (k:=5) (fun _=>rfl) junk hi1 (j:=3) (by omega)]
     simp only[he1];rfl
    have a5:=hit_at (s':=s3.put t (.cells [al,.int .i64 ((T.hits+1:Nat):Int),.int .i64 (T.misses:Int)] 84 true)) a3 rfl (by rw[St.at_put,if_pos rfl];rfl) (fun b hb=>by rw[St.at_put,if_neg hb])
    have h5:=ha_put (B := .cells [al,.int .i64 ((T.hits+1:Nat):Int),.int .i64 (T.misses:Int)] 84 true) h3 htP
    by_cases ht0:(0:Int)<(e.to:Int)
    ·obtain⟨w1,w2⟩:=hso.grow hok hF he3 (by omega) (vk,vn,vy)
     rw[w1,w2]at hR
     simp -implicitDefEqProofs only[↓Zd,(Zp),simprocAttr,qP,Value.cells,cut,qC,cld2,(HEx),(STx),vA,hbt3,wh,ge3,hebt,u3,ht0,c3,htne,ord20,co60]
     refine hgrow_spec (y:=vy) (k:=vk) (n:=vn) (to:=(e.to:Int)) h5 (by simp only[St.next_put];omega) hNN ho (by omega) fun s9 P9 h9 u9=>?_
     have a9:=STab.other ⟨_,_,_,_,a5⟩ u9 hd
     have n9:=u9.next
     simp only[St.next_put]at n9
     have kk9:∀ b,b<s3.next→¬ P b→s9.at' b=(s3.put t (.cells [al,.int .i64 ((T.hits+1:Nat):Int),.int .i64 (T.misses:Int)] 84 true)).at' b:=fun b hb hP=>u9.keep b (by simp only[St.next_put];omega) hP
     have ge9:=(kk9 eb (by simp only at hebn;omega) (fun hc=>hd _ hc (g2 _ _ _ rfl))).trans ((by rw[St.at_put,if_neg hebt]:(s3.put t (.cells [al,.int .i64 ((T.hits+1:Nat):Int),.int .i64 (T.misses:Int)] 84 true)).at' eb=s3.at' eb).trans ge3)
     have c9:=(kk9 s.next (by omega) (fun hc=>by have:=hPn _ hc;omega)).trans ((by rw[St.at_put,if_neg htne]:(s3.put t (.cells [al,.int .i64 ((T.hits+1:Nat):Int),.int .i64 (T.misses:Int)] 84 true)).at' s.next=s3.at' s.next).trans c3)
     simp -implicitDefEqProofs only[↓Zd,(Zp),simprocAttr,(HEx)]
     exact hR s9 P9 O h9 a9.1 a9.2 (by omega) (fun b hb hP hO=>by rw[kk9 b (by omega) hP,St.at_put,if_neg (fun e=>hO (by rw[e];exact hs.pin))];exact kk3 b hb hO) (fun b hb=>by
      rcases u9.own b hb with hb|hb
      ·exact .inl hb
      ·simp only[St.next_put]at hb;exact .inr (by omega)) (fun b hb => .inl hb)
    ·obtain⟨w1,w2⟩:=hso.put hok he3 (by omega) (vk,vn,vy)
     rw[w1,w2]at hR
     simp -implicitDefEqProofs only[↓Zd,(Zp),simprocAttr,qP,Value.cells,cut,qC,cld2,(HEx),(STx),vA,hbt3,wh,ge3,hebt,u2,u3,ht0,c3,htne,ord20,co61]
     refine hput_spec (y:=vy) (k:=vk) (n:=vn) (q:=e.slot) h5 ho (by omega) fun s9 P9 h9 u9=>?_
     have a9:=STab.other ⟨_,_,_,_,a5⟩ u9 hd
     have n9:=u9.next
     simp only[St.next_put]at n9
     have kk9:∀ b,b<s3.next→¬ P b→s9.at' b=(s3.put t (.cells [al,.int .i64 ((T.hits+1:Nat):Int),.int .i64 (T.misses:Int)] 84 true)).at' b:=fun b hb hP=>u9.keep b (by simp only[St.next_put];omega) hP
     have ge9:=(kk9 eb (by simp only at hebn;omega) (fun hc=>hd _ hc (g2 _ _ _ rfl))).trans ((by rw[St.at_put,if_neg hebt]:(s3.put t (.cells [al,.int .i64 ((T.hits+1:Nat):Int),.int .i64 (T.misses:Int)] 84 true)).at' eb=s3.at' eb).trans ge3)
     have c9:=(kk9 s.next (by omega) (fun hc=>by have:=hPn _ hc;omega)).trans ((by rw[St.at_put,if_neg htne]:(s3.put t (.cells [al,.int .i64 ((T.hits+1:Nat):Int),.int .i64 (T.misses:Int)] 84 true)).at' s.next=s3.at' s.next).trans c3)
     simp -implicitDefEqProofs only[↓Zd,(Zp),simprocAttr,(HEx)]
     exact hR s9 P9 O (h9.mono (by omega)) a9.1 a9.2 (by omega) (fun b hb hP hO=>by rw[kk9 b (by omega) hP,St.at_put,if_neg (fun e=>hO (by rw[e];exact hs.pin))];exact kk3 b hb hO) (fun b hb=>by
      rcases u9.own b hb with hb|hb
      ·exact .inl hb
      ·simp only[St.next_put]at hb;exact .inr (by omega)) (fun b hb => .inl hb)
end
section
variable {lo p N:Nat}{H:Hp}{O:Nat→Prop}
theorem ObAt.low{lo lo' b:Nat}{o:Ob}{O:Nat→Prop}(h:ObAt lo s N b o O)(hl:lo'≤lo):ObAt lo' s N b o O:=by
 obtain⟨h1,h2,h3,h4⟩:=h
 refine⟨fun c hc=>⟨by have:=(h1 c hc).1;omega,(h1 c hc).2⟩,h2,h3,?_⟩
 rcases h4 with ⟨h5,pd,OD,h6,h7,h8⟩|h4
 ·exact .inl ⟨h5,pd,OD,h6,h7.low hl,h8⟩
 ·exact .inr h4
theorem HpAt.low{lo lo':Nat}(h:HpAt lo s p H N O)(hl:lo'≤lo):HpAt lo' s p H N O:=by
 obtain⟨hp,tg,pf,pn,sl,bs,h⟩:=h
 exact⟨hp,tg,pf,pn,sl,bs,fun b hb=>⟨by have:=(h.own b hb).1;omega,(h.own b hb).2⟩,h.ok,h.tn,h.pin,h.bl,h.row,h.rowO,h.fo.low hl,h.ta.low hl,h.len,fun i b o h1 h2=>(h.obj i b o h1 h2).low hl⟩
theorem HpAt.other{s':St M}{O1 O1':Nat→Prop}(h:HpAt lo s p H N O)(hU:Upd s s' O1 O1')(hd:∀ b,O1 b→¬ O b):HpAt lo s' p H N O∧∀ b,O1' b→¬ O b:=by
 refine⟨h.same hU.next fun c hc=>hU.keep c (h.own c hc).2 fun h1=>hd c h1 hc,fun b hb hO=>?_⟩
 rcases hU.own b hb with h1|h1
 ·exact hd b h1 hO
 ·have:=(h.own b hO).2;omega
theorem wrap_u8i{a:Int}(h:0≤a∧a≤255):IntKind.i64.wrap a=a:=wrap_i64 (by omega)
structure TwoAt(n0:Nat)(s0 s:St M)(p1 p2:Nat)(H G:Hp)(N:Nat)(O1 O2:Nat→Prop):Prop where
 one:HpAt n0 s p1 H N O1
 two:HpAt n0 s p2 G N O2
 apart:∀ b,O1 b→¬ O2 b
 lo:n0≤s.next
 old:∀ c,c<n0→s.at' c=s0.at' c
 sim:Sim H G
 sz:HSz 1000000 H
theorem TwoAt.le{n0:Nat}{s0 s s':St M}{p1 p2:Nat}{H G:Hp}{N:Nat}{O1 O2:Nat→Prop}(h:TwoAt n0 s0 s p1 p2 H G N O1 O2)(hs:s.le s'):TwoAt n0 s0 s' p1 p2 H G N O1 O2:=
 ⟨h.one.le hs,h.two.le hs,h.apart,by have:=h.lo;have:=hs.1;omega,fun c hc=>by rw[hs.2 c (by have:=h.lo;omega)];exact h.old c hc,h.sim,h.sz⟩
theorem TwoAt.step{n0:Nat}{s0 s s1 s2:St M}{p1 p2:Nat}{H G H' G':Hp}{N N':Nat}{O1 O2 O1' O2':Nat→Prop}(h:TwoAt n0 s0 s p1 p2 H G N O1 O2)(h1:HpAt n0 s1 p1 H' N' O1')(hU1:Upd s s1 O1 O1')(h2:HpAt n0 s2 p2 G' N' O2')(hU2:Upd s1 s2 O2 O2')(hsim:Sim H' G')(hsz:HSz 1000000 H') :
  TwoAt n0 s0 s2 p1 p2 H' G' N' O1' O2':=by
 obtain⟨g2,d2⟩:=h.two.other hU1 h.apart
 obtain⟨g1,d1⟩:=h1.other hU2 (fun b hb h1b=>d2 b h1b hb)
 have hn1:=hU1.next
 have hn2:=hU2.next
 have hlo:=h.lo
 refine⟨g1,h2,fun b hb hb2=>d1 b hb2 hb,by omega,fun c hc=>?_,hsim,hsz⟩
 rw[hU2.keep c (by omega) (fun hb=>by have:=(h.two.own c hb).1;omega),hU1.keep c (by omega) (fun hb=>by have:=(h.one.own c hb).1;omega)]
 exact h.old c hc
end
def I64(n:Int):Prop := -9223372036854775808≤n∧n≤9223372036854775807
theorem Vguard36:Program.eqGuardType prog prog.depth 36=false:=by kernel_rfl
theorem Vstood36:prog.stoodInHeld 36=false:=by kernel_rfl
theorem Vpart36x0(k n:Int)(x:ByteArray):pureRun prog (part 3 #[.int .i64 k,.int .i64 n,.string x] 0)=some (.int .i64 k):=by kernel_rfl
theorem Vpart36x1(k n:Int)(x:ByteArray):pureRun prog (part 3 #[.int .i64 k,.int .i64 n,.string x] 1)=some (.int .i64 n):=by kernel_rfl
theorem Vpart36x2(k n:Int)(x:ByteArray):pureRun prog (part 9 #[.int .i64 k,.int .i64 n,.string x] 2)=some (.string x):=by kernel_rfl
theorem Veq36{k n k' n':Int}{x x':ByteArray}:pureRun prog (Go.binOp .eql 36 (vA k n x) (vA k' n' x'))=some (.bool ((k == k') && ((n == n') && (decide (x=x') && true)))):=by
 unfold vA
 simp only[Go.binOp,pureRun_bind]
 have:=pr_eqStruct (P:=prog) (d:=9999) (xs:=#[.int .i64 k,.int .i64 n,.string x]) (ys:=#[.int .i64 k',.int .i64 n',.string x']) underlying36 Vstood36
 rw[show Op.equal 36 (Value.agg #[.int .i64 k,.int .i64 n,.string x]) (Value.agg #[.int .i64 k',.int .i64 n',.string x'])=Op.equalIn (9999+1) 36 (Value.agg #[.int .i64 k,.int .i64 n,.string x]) (Value.agg #[.int .i64 k',.int .i64 n',.string x']) from rfl,this]
 rw[pr_eqCons (by decide) (Vpart36x0 k n x) (Vpart36x0 k' n' x') (pr_eqInt (d:=9998) underlying3) (pr_eqCons (by decide) (Vpart36x1 k n x) (Vpart36x1 k' n' x') (pr_eqInt (d:=9998) underlying3) (pr_eqCons (by decide) (Vpart36x2 k n x) (Vpart36x2 k' n' x') (pr_eqString (d:=9998) underlying9) pr_eqNil))]
 rfl
theorem Vsame36{k n k' n':Int}{x x':ByteArray}{ox oy:Operand}:cbin prog .eql 36 ox oy (vA k n x) (vA k' n' x')=some (.bool (decide (k=k') && (decide (n=n') && decide (x=x')))):=by
 have h:=Veq36 (k:=k) (n:=n) (x:=x) (k':=k') (n':=n') (x':=x')
 have h1:plain 6 (vA k n x)=true:=by kernel_rfl
 have h2:plain 6 (vA k' n' x')=true:=by kernel_rfl
 have h3:pureRun prog (eqGuard .eql 36 ox oy (vA k n x) (vA k' n' x'))=some ():=by
  unfold vA eqGuard
  simp only[pureRun_bind,pureRun_program,Option.bind_some,Vguard36,Bool.not_false,if_true,pureRun_ite,pureRun_pure]
  rfl
 unfold vA at h1 h2 h3 h ⊢
 unfold cbin
 dsimp only
 rw[if_pos ⟨h1,h2⟩]
 unfold pure6
 rw[pureRun_bind,h3,Option.bind_some,h]
 show some (Value.bool _)=_
 rw[Bool.and_true]
 congr 2
theorem VeqSelf{k n:Int}{x:ByteArray}{ox oy:Operand}:cbin prog .eql 36 ox oy (.agg #[.int .i64 k,.int .i64 n,.string x]) (.agg #[.int .i64 k,.int .i64 n,.string x])=some (.bool true):=by
 have:=Vsame36 (k:=k) (n:=n) (x:=x) (k':=k) (n':=n) (x':=x) (ox:=ox) (oy:=oy)
 unfold vA at this
 rw[this];simp
theorem Vsame{k n k' n':Int}{x x':ByteArray}{ox oy:Operand}:cbin prog .eql 36 ox oy (.agg #[.int .i64 k,.int .i64 n,.string x]) (.agg #[.int .i64 k',.int .i64 n',.string x'])=some (.bool (decide (k=k') && (decide (n=n') && decide (x=x')))):=Vsame36
end Go.Proofs.Tryz
