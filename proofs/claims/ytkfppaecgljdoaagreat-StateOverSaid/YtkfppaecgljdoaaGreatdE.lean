/- Lemmas, laid one behind the other by squeeze2.py. -/
import Derived.Test.YtkfppaecgljdoaaGreatdD
import Derived.SliceStrings
import Derived.Carry
import Derived.ChangeMaps5
import Derived.ChangeSame
set_option linter.unusedSimpArgs false
set_option linter.unusedVariables false
set_option linter.unusedSectionVars false
set_option linter.defProp false
section
namespace Go.Proofs.Tryz
open Go.Cs
open Go.RowKit (Below)
set_option maxRecDepth 100000
attribute [local irreducible] QC WLoop WScope CRound WRange
section
variable {M:Type}[Mem M]{w0:World}{s:St M}{R:Value→St M→Prop}{lo p N:Nat}{H:Hp}{O:Nat→Prop}
set_option maxHeartbeats 8000000 in
theorem hdel_spec(h:HpAt lo s p H N O)(hlo:lo≤s.next){i:Int}{x:ByteArray}(hN:N+3≤1000000)(hN2:32≤N)(hi : -9223372036854775808≤i∧i≤9223372036854775807)
  (hR:∀ s' O',HpAt lo s' p (delH H i x) (N+3) O'→Upd s s' O O'→R (.bool (delB H i x)) s'):QC Tryz.prog w0 168 #[.pointer (some ⟨p,0,none⟩),.int .i64 i,.string x] s R:=by
 refine wfun2 hmix ok168 func168 rfl ntmps168 results168 (by simp) ?_
 obtain⟨hpro,tg,pf,pn,sl,bs,h⟩:=h
 simp only[↓Zd,Zp,simprocAttr,co160]
 refine hfind_spec h hi (fun hno=>?_) (fun j b o hij hb ho hat=>?_)
 ·have e1:delH H i x=H:=by unfold delH;rw[hno]
  have e2:delB H i x=false:=by unfold delB;rw[hno];rfl
  rw[e1,e2]at hR
  simp only[↓Zd,Zp,simprocAttr,HEx]
  exact hR _ _ ⟨hpro,tg,pf,pn,sl,bs,h.mono oM⟩ .refl
 ·have hj:=(List.getElem?_eq_some_iff.1 ho).1
  simp only[↓Zd,Zp,simprocAttr,HEx,co161]
  refine hown0_spec h hb ho fun s1 hs1=>?_
  have hn1:=hs1.1
  cases hg:getP o.L x with
  |none =>
   have e1:delH H i x=H:=by unfold delH;rw[hat];simp only[hg,Option.isSome_none,Bool.false_eq_true,if_false]
   have e2:delB H i x=false:=by unfold delB;rw[hat];simp only[Option.bind_some,hg,Option.isSome_none]
   rw[e1,e2]at hR
   simp only[gotV]
   simp only[↓Zd,Zp,Zs,simprocAttr,HEx,vA]
   have l2:s.le ((s1.new (.cells [.int .i64 0,.int .i64 0,.string ⟨#[]⟩] 31 true)).put s1.next (.cells [.int .i64 0,.int .i64 0,.string ⟨#[]⟩] 31 true)):=lP (lN hs1) oM
   exact hR _ _ ⟨hpro,tg,pf,pn,sl,bs,(h.le l2).mono oM⟩ (.of_le l2)
  |some w =>
   obtain⟨v1,v2,v3⟩:=w
   have e1:delH H i x=putO H i { L:=delP o.L x,shape:=0,proto:=o.proto,epoch:=o.epoch+1 }:=by unfold delH;rw[hat];simp only[hg,Option.isSome_some,if_true]
   have e2:delB H i x=true:=by unfold delB;rw[hat];simp only[Option.bind_some,hg,Option.isSome_some]
   have hok:=del_ok h.ok i x
   have hpr:=del_pro hpro i x
   rw[e1]at hok hpr
   rw[e1,e2]at hR
   have hok1:=bump_ok h.ok hat (o.epoch+1)
   have l2:s.le ((s1.new (.cells [.int .i64 0,.int .i64 0,.string ⟨#[]⟩] 31 true)).put s1.next (.cells [.int .i64 v1,.int .i64 v2,.string v3] 31 true)):=lP (lN hs1) oM
   have h2:=h.le l2
   have hB:=h2.obj j b o hb ho
   obtain⟨t,v,hc⟩:=hB.cells
   have hbn:=(h.own b hB.pin.1).2
   have hep:=hB.ep
   have w1:IntKind.i64.wrap ((o.epoch:Int)+1)=((o.epoch+1:Nat):Int):=by rw[wrap_i64 oM];omega
   have hbs:¬ b=s1.next:=oM
   have hc1:s1.at' b=some (.cells [.iface t v,.int .i64 (o.proto:Int),.int .i64 (o.epoch:Int)] 184 true):=by
    rw[aP,if_neg hbs,aN,if_neg hbs]at hc;exact hc
   simp only[gotV,vOf]
   simp only[↓Zd,Zp,Zs,simprocAttr,HEx,vA,hc1,hbs,w1,co165]
   have hB1:=hB.head hc o.proto (o.epoch+1) (N':=N+1) oM oM
   have h3:=(h2.mono (N':=N+1) oM).setO hij hj hb (upd_put hB.pin) hB1 hok1
   have hU3:=re_upd (tg:=tg) (k:=j+3) (upd_put (s:=(s1.new (.cells [.int .i64 0,.int .i64 0,.string ⟨#[]⟩] 31 true)).put s1.next (.cells [.int .i64 v1,.int .i64 v2,.string v3] 31 true)) (B := .cells [.iface t v,.int .i64 (o.proto:Int),.int .i64 ((o.epoch+1:Nat):Int)] 184 true) hB.pin)
   have ho3:(putO H i { o with epoch:=o.epoch+1 }).obs[j]?=some { o with epoch:=o.epoch+1 }:=putO_at (o:=o) hij hj
   refine hloosen_spec h3 (by simp only[Sn];omega) oM oM hb ho3 fun s4 pd4 OD4 hb4 hD4 ho4 hne4 hn4 hk4=>?_
   simp only[↓Zd,Zp,simprocAttr,HEx,co229]
   refine ddel_spec hD4 oM (fun s5 hD5 hn5 hk5=>?_) (by rw[hg];rfl)
   rw[hg]
   simp only[↓Zd,Zp,simprocAttr,HEx]
   obtain⟨hB5,hU5⟩:=loose_end (O3:=reO O tg (j+3) (fun c=>O c∧tg c=j+3)) (tg3:=reT tg (j+3) (fun c=>O c∧tg c=j+3)) (re_pin hB.pin) ⟨(hB.own b hB.pin).1,by simp only[Sn];omega⟩ hb4 ho4 hne4 hn4 hk4 hD5 hn5 hk5 (fun c hc => .inl hc) (by show o.epoch+1≤_;omega)
   have h5:=h3.setO hij (by simp only[putO,List.length_set];exact hj) hb hU5 hB5 (by rw[putO_put];exact hok)
   rw[putO_put]at h5
   exact hR _ _ ⟨hpr,_,_,_,_,_,h5.mono oM⟩ ((Upd.of_le l2).trans (hU3.trans (re_upd hU5)))
theorem putO_putF(H:Hp)(F':List Sh)(i:Int)(a b:Ob):putO { putO H i a with F:=F' } i b=putO { H with F:=F' } i b:=by
 unfold putO;simp only[List.set_set]
theorem move_ok{H:Hp}(h:HOk H)(n q:Nat):HOk { H with F:=moveF H.F H.most n q }:=
 h.more (fun j t ht=>move_pre ht) (fun _ _ _=>rfl) (Nat.le_refl _) h.nodup (move_ids h.ids)
set_option maxHeartbeats 8000000 in
theorem hsetproto_spec(h:HpAt lo s p H N O)(hlo:lo≤s.next){i q:Int}(hN:N+3≤1000000)(hN2:32≤N)(hi : -9223372036854775808≤i∧i≤9223372036854775807)(hq : -9223372036854775808≤q∧q≤9223372036854775807)
  (hR:∀ s' O',HpAt lo s' p (protoH H i q) (N+3) O'→Upd s s' O O'→R (.int .i64 (protoE H i q)) s'):QC Tryz.prog w0 153 #[.pointer (some ⟨p,0,none⟩),.int .i64 i,.int .i64 q] s R:=by
 refine wfun2 hmix ok153 func153 rfl ntmps153 results153 (by simp) ?_
 obtain⟨hpro,tg,pf,pn,sl,bs,h⟩:=h
 have hmono:=h.mono (N':=N+3) oM
 have hno4:protoE H i q=4→R (.int .i64 4) s:=fun e=>by
  have:=hR s O
  rw[e]at this
  have e1:protoH H i q=H:=by unfold protoH;rw[if_neg oM]
  rw[e1]at this
  exact this ⟨hpro,_,_,_,_,_,hmono⟩ .refl
 have hno32:protoE H i q=32→R (.int .i64 32) s:=fun e=>by
  have:=hR s O
  rw[e]at this
  have e1:protoH H i q=H:=by unfold protoH;rw[if_neg oM]
  rw[e1]at this
  exact this ⟨hpro,_,_,_,_,_,hmono⟩ .refl
 have hhb:=h.bl
 simp only[↓Zd,Zp,simprocAttr,co133]
 refine hdead_spec h ?_
 simp only[↓Zd,Zp,simprocAttr,HEx,co160]
 refine hfind_spec h hi (fun hno=>?_) (fun j b o hij hb ho hat=>?_)
 ·have e:protoE H i q=4:=by unfold protoE;rw[if_pos (.inl hno)]
  simp only[↓Zd,Zp,simprocAttr,HEx]
  exact hno4 e
 ·have hj:=(List.getElem?_eq_some_iff.1 ho).1
  have hrest:(q=0∨∃ u,obAt H q=some u)→QC Tryz.prog w0 216 #[.pointer (some ⟨p,0,none⟩),.int .i64 i,.int .i64 q] s (fun v s'=>s'=s∧v = .bool (onB H i q)):=fun hq=>by
   refine hon_spec h oM ?_ fun b hb=>⟨rfl,by rw[hb.eq]⟩
   rcases hq with h|⟨u,h⟩
   ·exact .inl h
   ·obtain⟨m,hm,hm2,_⟩:=obAt_some h
    right;omega
  by_cases qn0:q<0
  ·have q0:¬ q=0:=oM
   have hqn:obAt H q=none:=obAt_none.2 oM
   have e:protoE H i q=4:=by unfold protoE;rw[if_pos (.inr ⟨q0,hqn⟩)]
   simp only[↓Zd,Zp,simprocAttr,HEx,q0,co160]
   refine hfind_spec h hq (fun _=>?_) (fun j2 b2 o2 hij2 hb2 ho2 hat2=>by rw[hqn]at hat2;cases hat2)
   simp only[↓Zd,Zp,simprocAttr,HEx]
   exact hno4 e
  ·obtain⟨qn,rfl⟩:∃ qn:Nat,q=(qn:Int):=⟨q.toNat,oM⟩
   have hB:=h.obj j b o hb ho
   have hbn:=(hB.own b hB.pin).2
   have hep:=hB.ep
   have w1:IntKind.i64.wrap ((o.epoch:Int)+1)=((o.epoch+1:Nat):Int):=by rw[wrap_i64 oM];omega
   have hpb:¬ p=b:=fun e=>by have h1:=h.pin.2;have h2:=hB.pin.2;rw[e]at h1;omega
   by_cases q0:qn=0
   ·subst q0
    simp only[↓Zd,Zp,simprocAttr,HEx,co216]
    refine QC.mono (hrest (.inl rfl)) fun v s' hv=>?_
    obtain⟨rfl,rfl⟩:=hv
    have hqok:¬ (obAt H i=none∨(((0:Nat):Int)≠0∧obAt H ((0:Nat):Int)=none)):=by rintro (h|h);rw[hat]at h;cases h;exact h.1 rfl
    have hup:onB H i ((0:Nat):Int)=false→HOk (putO H i { o with proto:=0,epoch:=o.epoch+1 }):=fun hon=>by
     subst hij
     unfold putO
     rw[show ((j+1:Nat):Int).toNat - 1=j by omega]
     exact h.ok.upd (F':=H.F) (T':=H.T) ho (fun _ _ h=>h) (fun _ _ _=>rfl) (Nat.le_refl _) h.ok.nodup h.ok.ids (fun h2=>h.ok.fits j o ho h2) (h.ok.keys j o ho) (h.ok.lens j o ho) (proto_up h.ok ho (.inl rfl) hon rfl)
    cases hon:onB H i ((0:Nat):Int) with
    |true =>
     have e:protoE H i ((0:Nat):Int)=32:=by unfold protoE;rw[if_neg hqok,if_pos hon]
     simp only[↓Zd,Zp,simprocAttr,HEx]
     exact hno32 e
    |false =>
     have e:protoE H i ((0:Nat):Int)=0:=by unfold protoE;rw[if_neg hqok,if_neg (by rw[hon];simp)]
     have hok:=proto_ok h.ok i ((0:Nat):Int)
     have hpr:=proto_pro h.ok hpro i ((0:Nat):Int)
     have hok1:=hup hon
     rcases hB.bl with ⟨h0,pd,OD,g1,g2,g3⟩|⟨h0,ps,sv,g1,g2,g3,g4,g5,g6⟩
     ·have e1:protoH H i ((0:Nat):Int)=putO H i { o with proto:=0,epoch:=o.epoch+1 }:=by unfold protoH;rw[if_pos e,hat];simp only[if_pos h0];rfl
      rw[e1]at hok hpr hR
      rw[e]at hR
      simp only[↓Zd,Zp,Zs,simprocAttr,HEx,g1,w1]
      have hB1:=hB.head g1 0 o.epoch (N':=N+1) oM oM
      have hB2:=hB1.head (by rw[aP,if_pos rfl]) 0 (o.epoch+1) (N':=N+1) (by show o.epoch+1≤_;omega) (Nat.le_refl _)
      have h3:=(h.mono (N':=N+1) oM).setO hij hj hb ((upd_put hB.pin).trans (upd_put hB.pin)) hB2 hok1
      exact hR _ _ ⟨hpr,_,_,_,_,_,h3.mono oM⟩ (re_upd ((upd_put hB.pin).trans (upd_put hB.pin)))
     ·have e1:protoH H i ((0:Nat):Int)=putO { H with F:=moveF H.F H.most o.shape 0 } i { o with proto:=0,epoch:=o.epoch+1,shape:=moveN H.F H.most o.shape 0 }:=by unfold protoH;rw[if_pos e,hat];simp only[if_neg (show ¬ o.shape=0 by omega)];rfl
      rw[e1]at hok hpr hR
      rw[e]at hR
      have hgs:¬ ps=b:=g4
      have hF12:o.shape≤150:=by
       obtain⟨q0,l,h1,_⟩:=h.ok.fits j o ho h0
       have:=(List.getElem?_eq_some_iff.1 h1).1
       have:=h.fo.le
       omega
      have hB1:=hB.head g1 0 o.epoch (N':=N+1) oM oM
      have hB2:=hB1.head (by rw[aP,if_pos rfl]) 0 (o.epoch+1) (N':=N+1) (by show o.epoch+1≤_;omega) (Nat.le_refl _)
      have h3:=(h.mono (N':=N+1) oM).setO hij hj hb ((upd_put hB.pin).trans (upd_put hB.pin)) hB2 hok1
      have hU3:=re_upd ((upd_put (s:=s') (B := .cells [.iface 185 (.pointer (some ⟨ps,0,none⟩)),.int .i64 ((0:Nat):Int),.int .i64 (o.epoch:Int)] 184 true) hB.pin).trans (upd_put (B := .cells [.iface 185 (.pointer (some ⟨ps,0,none⟩)),.int .i64 ((0:Nat):Int),.int .i64 ((o.epoch+1:Nat):Int)] 184 true) hB.pin))
      simp only[↓Zd,Zp,Zs,simprocAttr,HEx,g1,g2,hgs,w1,hhb,hpb,ord153,co217]
      refine fmove_spec (i:=(o.shape:Int)) (q:=0) h3.fo (by simp only[nU];omega) oM fun s4 O4 hF4 hU4=>?_
      have hF4':FAt lo s4 pf (moveF H.F H.most (o.shape:Int) 0) H.most O4:=hF4
      show Cs.shape Tryz.prog 3 (.int .i64 ((moveN H.F H.most (o.shape:Int) 0:Nat):Int)) _
      have h4:=h3.newF hU4 hF4' (move_ok hok1 o.shape 0)
      have hU4':=re_upd hU4
      have hn4:=hU4.next
      simp only[nU]at hn4
      generalize hO3:reO O tg (j+3) (fun c=>O c∧tg c=j+3)=O3 at h3 h4 hU3 hU4 hU4'
      generalize hT3:reT tg (j+3) (fun c=>O c∧tg c=j+3)=tg3 at h3 h4 hU4 hU4'
      have hin3:∀ c,O c∧tg c=j+3→O3 c∧tg3 c=j+3:=fun c hc=>by
       have:=re_pin (O:=O) (tg:=tg) (j:=j+3) (O':=fun c=>O c∧tg c=j+3) hc
       rw[hO3,hT3]at this;exact this
      have hat4:∀ c,O c∧tg c=j+3→s4.at' c=((s'.put b (.cells [.iface 185 (.pointer (some ⟨ps,0,none⟩)),.int .i64 ((0:Nat):Int),.int .i64 (o.epoch:Int)] 184 true)).put b (.cells [.iface 185 (.pointer (some ⟨ps,0,none⟩)),.int .i64 ((0:Nat):Int),.int .i64 ((o.epoch+1:Nat):Int)] 184 true)).at' c:=fun c hc =>
       re_keep h3.own hU4 c (hin3 c hc).1 (by rw[(hin3 c hc).2];omega)
      have hin4:∀ c,O c∧tg c=j+3→reO O3 tg3 1 O4 c∧reT tg3 1 O4 c=j+3:=fun c hc=>re_tag (fun b hb=>(h3.own b hb).2) hU4.own oM (hin3 c hc)
      have hps4:s4.at' ps=some (.cells [.int .i64 (o.shape:Int),sv] 187 true):=by
       rw[hat4 ps g3,aP,if_neg g4,aP,if_neg g4];exact g2
      have hb4:s4.at' b=some (.cells [.iface 185 (.pointer (some ⟨ps,0,none⟩)),.int .i64 ((0:Nat):Int),.int .i64 ((o.epoch+1:Nat):Int)] 184 true):=by
       rw[hat4 b hB.pin,aP,if_pos rfl]
      have hsl4:SlU 31 3 s4 sv (valsC o.L) o.L.length:=g5.same fun q n c e=>by
       have:=g6 q n c e
       rw[hat4 _ this.1,aP,if_neg this.2.1,aP,if_neg this.2.1]
      have hok4:HOk (putO { H with F:=moveF H.F H.most (o.shape:Int) 0 } i { o with proto:=0,epoch:=o.epoch+1 }):=h4.ok
      have hUall:=hU3.trans hU4'
      have hobj4:({ putO H i { o with proto:=0,epoch:=o.epoch+1 } with F:=moveF H.F H.most (o.shape:Int) 0 }:Hp).obs[j]?=some { o with proto:=0,epoch:=o.epoch+1 }:=putO_at (o:=o) hij hj
      have hlt4:j<({ putO H i { o with proto:=0,epoch:=o.epoch+1 } with F:=moveF H.F H.most (o.shape:Int) 0 }:Hp).obs.length:=by simp only[putO,List.length_set];exact hj
      by_cases hpos:(0:Int)<((moveN H.F H.most (o.shape:Int) 0:Nat):Int)
      ·simp only[↓Zd,Zp,Zs,simprocAttr,HEx,hpos,hps4]
       have hB5:ObAt lo (s4.put ps (.cells [.int .i64 ((moveN H.F H.most (o.shape:Int) 0:Nat):Int),sv] 187 true)) (N+1) b { o with proto:=0,epoch:=o.epoch+1,shape:=moveN H.F H.most (o.shape:Int) 0 } (fun c=>reO O3 tg3 1 O4 c∧reT tg3 1 O4 c=j+3):=by
        refine⟨fun c hc=>h4.own c hc.1,hin4 b hB.pin,by show o.epoch+1≤_;omega,.inr ⟨by show 0<moveN H.F H.most (o.shape:Int) 0;omega,ps,sv,?_,by rw[aP,if_pos rfl],hin4 ps g3,g4,hsl4.same fun q n c e=>?_,fun q n c e=>?_⟩⟩
        ·rw[aP,if_neg (fun e:b=ps=>g4 e.symm)];exact hb4
        ·rw[aP,if_neg (g6 q n c e).2.2]
        ·exact⟨hin4 _ (g6 q n c e).1,(g6 q n c e).2⟩
       have h5:=h4.setO hij hlt4 hb (upd_put (hin4 ps g3)) hB5 (by rw[putO_putF];exact hok)
       rw[putO_putF]at h5
       exact hR _ _ ⟨hpr,_,_,_,_,_,h5.mono oM⟩ (hUall.trans (re_upd (upd_put (hin4 ps g3))))
      ·have hz:moveN H.F H.most (o.shape:Int) 0=0:=oM
       rw[hz]at hok hpr hR
       simp only[↓Zd,Zp,simprocAttr,HEx,hpos,co165]
       refine hloosen_spec h4 oM oM oM hb hobj4 fun s5 pd5 OD5 hb5 hD5 ho5 hne5 hn5 hk5=>?_
       simp only[↓Zd,Zp,simprocAttr,HEx]
       obtain⟨hB6,hU6⟩:=loose_end (hin4 b hB.pin) (h4.own b (hin4 b hB.pin).1) hb5 ho5 hne5 hn5 hk5 hD5 (Nat.le_refl _) (fun _ _ _=>rfl) (fun c hc => .inl hc) (by show o.epoch+1≤_;omega)
       have h6:=h4.setO hij hlt4 hb hU6 hB6 (by rw[putO_putF];exact hok)
       rw[putO_putF]at h6
       exact hR _ _ ⟨hpr,_,_,_,_,_,h6.mono oM⟩ (hUall.trans (re_upd hU6))
   ·have hqz:¬ (qn:Int)=0:=oM
    simp only[↓Zd,Zp,simprocAttr,HEx,hqz,co160]
    refine hfind_spec h hq (fun hno=>?_) (fun j2 b2 o2 hij2 hb2 ho2 hat2=>?_)
    ·have e:protoE H i (qn:Int)=4:=by unfold protoE;rw[if_pos (.inr ⟨hqz,hno⟩)]
     simp only[↓Zd,Zp,simprocAttr,HEx]
     exact hno4 e
    ·simp only[↓Zd,Zp,simprocAttr,HEx,co216]
     refine QC.mono (hrest (.inr ⟨o2,hat2⟩)) fun v s' hv=>?_
     obtain⟨rfl,rfl⟩:=hv
     have hqok:¬ (obAt H i=none∨(((qn:Nat):Int)≠0∧obAt H ((qn:Nat):Int)=none)):=by rintro (h|h);rw[hat]at h;cases h;rw[hat2]at h;cases h.2
     have hup:onB H i ((qn:Nat):Int)=false→HOk (putO H i { o with proto:=qn,epoch:=o.epoch+1 }):=fun hon=>by
      subst hij
      unfold putO
      rw[show ((j+1:Nat):Int).toNat - 1=j by omega]
      exact h.ok.upd (F':=H.F) (T':=H.T) ho (fun _ _ h=>h) (fun _ _ _=>rfl) (Nat.le_refl _) h.ok.nodup h.ok.ids (fun h2=>h.ok.fits j o ho h2) (h.ok.keys j o ho) (h.ok.lens j o ho) (proto_up h.ok ho (.inr (by have:=(List.getElem?_eq_some_iff.1 ho2).1;omega)) hon rfl)
     cases hon:onB H i ((qn:Nat):Int) with
     |true =>
      have e:protoE H i ((qn:Nat):Int)=32:=by unfold protoE;rw[if_neg hqok,if_pos hon]
      simp only[↓Zd,Zp,simprocAttr,HEx]
      exact hno32 e
     |false =>
      have e:protoE H i ((qn:Nat):Int)=0:=by unfold protoE;rw[if_neg hqok,if_neg (by rw[hon];simp)]
      have hok:=proto_ok h.ok i ((qn:Nat):Int)
      have hpr:=proto_pro h.ok hpro i ((qn:Nat):Int)
      have hok1:=hup hon
      rcases hB.bl with ⟨h0,pd,OD,g1,g2,g3⟩|⟨h0,ps,sv,g1,g2,g3,g4,g5,g6⟩
      ·have e1:protoH H i ((qn:Nat):Int)=putO H i { o with proto:=qn,epoch:=o.epoch+1 }:=by unfold protoH;rw[if_pos e,hat];simp only[if_pos h0];rfl
       rw[e1]at hok hpr hR
       rw[e]at hR
       simp only[↓Zd,Zp,Zs,simprocAttr,HEx,g1,w1]
       have hB1:=hB.head g1 qn o.epoch (N':=N+1) oM oM
       have hB2:=hB1.head (by rw[aP,if_pos rfl]) qn (o.epoch+1) (N':=N+1) (by show o.epoch+1≤_;omega) (Nat.le_refl _)
       have h3:=(h.mono (N':=N+1) oM).setO hij hj hb ((upd_put hB.pin).trans (upd_put hB.pin)) hB2 hok1
       exact hR _ _ ⟨hpr,_,_,_,_,_,h3.mono oM⟩ (re_upd ((upd_put hB.pin).trans (upd_put hB.pin)))
      ·have e1:protoH H i ((qn:Nat):Int)=putO { H with F:=moveF H.F H.most o.shape qn } i { o with proto:=qn,epoch:=o.epoch+1,shape:=moveN H.F H.most o.shape qn }:=by unfold protoH;rw[if_pos e,hat];simp only[if_neg (show ¬ o.shape=0 by omega)];rfl
       rw[e1]at hok hpr hR
       rw[e]at hR
       have hgs:¬ ps=b:=g4
       have hF12:o.shape≤150:=by
        obtain⟨q0,l,h1,_⟩:=h.ok.fits j o ho h0
        have:=(List.getElem?_eq_some_iff.1 h1).1
        have:=h.fo.le
        omega
       have hB1:=hB.head g1 qn o.epoch (N':=N+1) oM oM
       have hB2:=hB1.head (by rw[aP,if_pos rfl]) qn (o.epoch+1) (N':=N+1) (by show o.epoch+1≤_;omega) (Nat.le_refl _)
       have h3:=(h.mono (N':=N+1) oM).setO hij hj hb ((upd_put hB.pin).trans (upd_put hB.pin)) hB2 hok1
       have hU3:=re_upd ((upd_put (s:=s') (B := .cells [.iface 185 (.pointer (some ⟨ps,0,none⟩)),.int .i64 ((qn:Nat):Int),.int .i64 (o.epoch:Int)] 184 true) hB.pin).trans (upd_put (B := .cells [.iface 185 (.pointer (some ⟨ps,0,none⟩)),.int .i64 ((qn:Nat):Int),.int .i64 ((o.epoch+1:Nat):Int)] 184 true) hB.pin))
       simp only[↓Zd,Zp,Zs,simprocAttr,HEx,g1,g2,hgs,w1,hhb,hpb,ord153,co217]
       refine fmove_spec (i:=(o.shape:Int)) (q:=qn) h3.fo (by simp only[nU];omega) oM fun s4 O4 hF4 hU4=>?_
       have hF4':FAt lo s4 pf (moveF H.F H.most (o.shape:Int) qn) H.most O4:=hF4
       show Cs.shape Tryz.prog 3 (.int .i64 ((moveN H.F H.most (o.shape:Int) qn:Nat):Int)) _
       have h4:=h3.newF hU4 hF4' (move_ok hok1 o.shape qn)
       have hU4':=re_upd hU4
       have hn4:=hU4.next
       simp only[nU]at hn4
       generalize hO3:reO O tg (j+3) (fun c=>O c∧tg c=j+3)=O3 at h3 h4 hU3 hU4 hU4'
       generalize hT3:reT tg (j+3) (fun c=>O c∧tg c=j+3)=tg3 at h3 h4 hU4 hU4'
       have hin3:∀ c,O c∧tg c=j+3→O3 c∧tg3 c=j+3:=fun c hc=>by
        have:=re_pin (O:=O) (tg:=tg) (j:=j+3) (O':=fun c=>O c∧tg c=j+3) hc
        rw[hO3,hT3]at this;exact this
       have hat4:∀ c,O c∧tg c=j+3→s4.at' c=((s'.put b (.cells [.iface 185 (.pointer (some ⟨ps,0,none⟩)),.int .i64 ((qn:Nat):Int),.int .i64 (o.epoch:Int)] 184 true)).put b (.cells [.iface 185 (.pointer (some ⟨ps,0,none⟩)),.int .i64 ((qn:Nat):Int),.int .i64 ((o.epoch+1:Nat):Int)] 184 true)).at' c:=fun c hc =>
        re_keep h3.own hU4 c (hin3 c hc).1 (by rw[(hin3 c hc).2];omega)
       have hin4:∀ c,O c∧tg c=j+3→reO O3 tg3 1 O4 c∧reT tg3 1 O4 c=j+3:=fun c hc=>re_tag (fun b hb=>(h3.own b hb).2) hU4.own oM (hin3 c hc)
       have hps4:s4.at' ps=some (.cells [.int .i64 (o.shape:Int),sv] 187 true):=by
        rw[hat4 ps g3,aP,if_neg g4,aP,if_neg g4];exact g2
       have hb4:s4.at' b=some (.cells [.iface 185 (.pointer (some ⟨ps,0,none⟩)),.int .i64 ((qn:Nat):Int),.int .i64 ((o.epoch+1:Nat):Int)] 184 true):=by
        rw[hat4 b hB.pin,aP,if_pos rfl]
       have hsl4:SlU 31 3 s4 sv (valsC o.L) o.L.length:=g5.same fun q n c e=>by
        have:=g6 q n c e
        rw[hat4 _ this.1,aP,if_neg this.2.1,aP,if_neg this.2.1]
       have hok4:HOk (putO { H with F:=moveF H.F H.most (o.shape:Int) qn } i { o with proto:=qn,epoch:=o.epoch+1 }):=h4.ok
       have hUall:=hU3.trans hU4'
       have hobj4:({ putO H i { o with proto:=qn,epoch:=o.epoch+1 } with F:=moveF H.F H.most (o.shape:Int) qn }:Hp).obs[j]?=some { o with proto:=qn,epoch:=o.epoch+1 }:=putO_at (o:=o) hij hj
       have hlt4:j<({ putO H i { o with proto:=qn,epoch:=o.epoch+1 } with F:=moveF H.F H.most (o.shape:Int) qn }:Hp).obs.length:=by simp only[putO,List.length_set];exact hj
       by_cases hpos:(0:Int)<((moveN H.F H.most (o.shape:Int) qn:Nat):Int)
       ·simp only[↓Zd,Zp,Zs,simprocAttr,HEx,hpos,hps4]
        have hB5:ObAt lo (s4.put ps (.cells [.int .i64 ((moveN H.F H.most (o.shape:Int) qn:Nat):Int),sv] 187 true)) (N+1) b { o with proto:=qn,epoch:=o.epoch+1,shape:=moveN H.F H.most (o.shape:Int) qn } (fun c=>reO O3 tg3 1 O4 c∧reT tg3 1 O4 c=j+3):=by
         refine⟨fun c hc=>h4.own c hc.1,hin4 b hB.pin,by show o.epoch+1≤_;omega,.inr ⟨by show 0<moveN H.F H.most (o.shape:Int) qn;omega,ps,sv,?_,by rw[aP,if_pos rfl],hin4 ps g3,g4,hsl4.same fun q n c e=>?_,fun q n c e=>?_⟩⟩
         ·rw[aP,if_neg (fun e:b=ps=>g4 e.symm)];exact hb4
         ·rw[aP,if_neg (g6 q n c e).2.2]
         ·exact⟨hin4 _ (g6 q n c e).1,(g6 q n c e).2⟩
        have h5:=h4.setO hij hlt4 hb (upd_put (hin4 ps g3)) hB5 (by rw[putO_putF];exact hok)
        rw[putO_putF]at h5
        exact hR _ _ ⟨hpr,_,_,_,_,_,h5.mono oM⟩ (hUall.trans (re_upd (upd_put (hin4 ps g3))))
       ·have hz:moveN H.F H.most (o.shape:Int) qn=0:=oM
        rw[hz]at hok hpr hR
        simp only[↓Zd,Zp,simprocAttr,HEx,hpos,co165]
        refine hloosen_spec h4 oM oM oM hb hobj4 fun s5 pd5 OD5 hb5 hD5 ho5 hne5 hn5 hk5=>?_
        simp only[↓Zd,Zp,simprocAttr,HEx]
        obtain⟨hB6,hU6⟩:=loose_end (hin4 b hB.pin) (h4.own b (hin4 b hB.pin).1) hb5 ho5 hne5 hn5 hk5 hD5 (Nat.le_refl _) (fun _ _ _=>rfl) (fun c hc => .inl hc) (by show o.epoch+1≤_;omega)
        have h6:=h4.setO hij hlt4 hb hU6 hB6 (by rw[putO_putF];exact hok)
        rw[putO_putF]at h6
        exact hR _ _ ⟨hpr,_,_,_,_,_,h6.mono oM⟩ (hUall.trans (re_upd hU6))
end
end Go.Proofs.Tryz
namespace Go.Proofs.Tryz
open Go.Cs
open Go.RowKit (Below)
set_option maxRecDepth 100000
attribute [local irreducible] QC WLoop WScope CRound WRange
theorem rowPtr(a:Option Addr):crow Tryz.prog 147 1 #[(0,.pointer a)]=some (.cells [.pointer a] 176 true):=oK
theorem infoPtr:∃ ie,Tryz.prog.info? 176=some ie∧ie.size=1∧0<ie.bytes∧ie.bytes≤100:=by
 obtain⟨ie,h⟩:=Option.isSome_iff_exists.1 is176
 have h1:=ce176
 have h2:decide (0<Tryz.prog.bytesOf 176∧Tryz.prog.bytesOf 176≤100)=true:=oK
 rw[cellsOf_info h]at h1
 simp only[Program.bytesOf,h,decide_eq_true_eq]at h2
 exact⟨ie,h,h1,h2.1,h2.2⟩
section
variable {M:Type}[Mem M]{w0:World}{s:St M}{R:Value→St M→Prop}{lo p N:Nat}{H:Hp}{O:Nat→Prop}
theorem wch_app_ptr{s:St M}{sl:Value}{l:List Nat}{a:Nat}{K:Value→St M→Prop}(hlen:l.length≤1000000)(hsl:SlU 176 1 s sl (ptrs l) l.length)(hfr:∀ q m c,sl = .slice (some q) m c→q.block<s.next)
  (h:∀ s',s'.next=s.next+2→s'.at' (s.next+1)=some (.cells (ptrs (l ++ [a])) 176 true)→(∀ b,b<s.next→(∀ q n c,sl = .slice (some q) n c→b≠q.block)→s'.at' b=s.at' b)→K (.slice (some ⟨s.next+1,0,none⟩) (l.length+1) UNK) s') :
  wch (capp Tryz.prog #[147,147] #[sl,.slice (some ⟨s.next,0,none⟩) 1 1] (s.new (.cells [.pointer (some ⟨a,0,none⟩)] 176 true))) K:=by
 obtain⟨ie,hie,h1,h2,h3⟩:=infoPtr
 have hcapp:capp Tryz.prog #[147,147] #[sl,.slice (some ⟨s.next,0,none⟩) 1 1] (s.new (.cells [.pointer (some ⟨a,0,none⟩)] 176 true))=capp3 Tryz.prog 176 ie sl (s.new (.cells [.pointer (some ⟨a,0,none⟩)] 176 true)) (cmore ie.size (.slice (some ⟨s.next,0,none⟩) 1 1) (s.new (.cells [.pointer (some ⟨a,0,none⟩)] 176 true))):=
  app_eq underlying147 underlying147 hie
 have hv:cmore ie.size (.slice (some ⟨s.next,0,none⟩) 1 1) (s.new (.cells [.pointer (some ⟨a,0,none⟩)] 176 true))=some (1,[.pointer (some ⟨a,0,none⟩)]):=by
  simp only[more_at,aN,if_true,more2,h1];rfl
 obtain⟨s',h3,h4,h5,h6⟩:=app_rowU (n:=l.length) (k:=1) hie ze176 (by rw[h1];rfl) h2 hcapp oM (by
  have:(l.length+1)*ie.bytes≤1000001*100:=Nat.mul_le_mul oM h3
  omega) rfl hv (by rw[h1];exact hsl.same fun q m c e=>by rw[aN,if_neg (by have:=hfr q m c e;omega)])
 refine⟨_,s',h3,h s' (by simp at h4;omega) (by simpa [ptrs] using h5) fun b hb hq=>?_⟩
 rw[h6 b (by simp;omega) hq,aN,if_neg oM]
open Classical in
theorem HpIn.addO{s':St M}{tg:Nat→Nat}{pf pn b r:Nat}{sl sl':Value}{bs:List Nat}{o':Ob}{OO:Nat→Prop}(h:HpIn lo s p H N O tg pf pn sl bs)(hn:s.next≤s'.next)(hk:∀ c,O c→tg c≠0→s'.at' c=s.at' c)
  (hp:s'.at' p=some (.cells [sl',.pointer (some ⟨pf,0,none⟩),.pointer (some ⟨pn,0,none⟩),.int .i64 (H.maxO:Int),.int .i64 (H.maxP:Int)] 149 true))(hsl:SlU 176 1 s' sl' (ptrs (bs ++ [b])) (bs ++ [b]).length)(hr:∀ q n c,sl' = .slice (some q) n c→q.block=r)
  (hr1:¬ O r∧lo≤r∧r<s'.next)(hOO:∀ c,OO c→¬ O c∧c≠r)(hB:ObAt lo s' N b o' OO)(hok:HOk { H with obs:=H.obs ++ [o'] }) :
  HpIn lo s' p { H with obs:=H.obs ++ [o'] } N (fun c=>(O c∧tg c≠bs.length+3)∨OO c∨c=r) (fun c=>if OO c then bs.length+3 else if c=r then 0 else tg c) pf pn sl' (bs ++ [b]):=by
 have hrp:r≠p:=fun e=>hr1.1 (e▸h.pin.1)
 have hold:∀ k,k≠bs.length+3→k≠0→(fun c=>((O c∧tg c≠bs.length+3)∨OO c∨c=r)∧(if OO c then bs.length+3 else if c=r then 0 else tg c)=k)=fun c=>O c∧tg c=k:=by
  intro k hk1 hk2
  funext c
  apply propext
  by_cases h1:OO c
  ·simp only[h1,if_true,true_or,or_true,true_and]
   exact⟨fun e=>absurd e.symm hk1,fun e=>absurd e.1 (hOO c h1).1⟩
  ·by_cases h2:c=r
   ·subst h2
    simp only[h1,if_false,if_true,or_true,true_and]
    exact⟨fun e=>absurd e.symm hk2,fun e=>absurd e.1 hr1.1⟩
   ·simp only[h1,h2,if_false,or_false]
    exact⟨fun ⟨⟨a,_⟩,b⟩=>⟨a,b⟩,fun ⟨a,b⟩=>⟨⟨a,oM⟩,b⟩⟩
 have hnew:(fun c=>((O c∧tg c≠bs.length+3)∨OO c∨c=r)∧(if OO c then bs.length+3 else if c=r then 0 else tg c)=bs.length+3)=OO:=by
  funext c
  apply propext
  by_cases h1:OO c
  ·simp[h1]
  ·by_cases h2:c=r
   ·subst h2
    simp[h1]
   ·simp only[h1,h2,if_false,or_false,iff_false]
    exact fun ⟨⟨_,a⟩,b⟩=>a b
 have hpO:¬ OO p:=fun hc=>(hOO p hc).1 h.pin.1
 refine⟨fun c hc=>?_,hok,h.tn,⟨.inl ⟨h.pin.1,by rw[h.pin.2];omega⟩,?_⟩,hp,hsl,fun q n c e=>?_,?_,?_,by simp[h.len],fun i b' o h1 h2=>?_⟩
 ·rcases hc with ⟨hc,_⟩|hc|rfl
  ·have:=h.own c hc;omega
  ·exact hB.own c hc
  ·exact hr1.2
 ·rw[if_neg hpO,if_neg (fun e=>hrp e.symm)];exact h.pin.2
 ·have:=hr q n c e
  rw[this]
  exact⟨.inr (.inr rfl),by rw[if_neg (fun hc=>(hOO r hc).2 rfl),if_pos rfl],hrp⟩
 ·rw[hold 1 oM oM]
  exact h.fo.same hn fun c hc=>hk c hc.1 (by rw[hc.2];omega)
 ·rw[hold 2 oM oM]
  exact h.ta.same hn fun c hc=>hk c hc.1 (by rw[hc.2];omega)
 ·by_cases hi:i<bs.length
  ·rw[List.getElem?_append_left hi]at h1
   rw[List.getElem?_append_left (by rw[← h.len];exact hi)]at h2
   rw[hold (i+3) oM oM]
   exact (h.obj i b' o h1 h2).same hn fun c hc=>hk c hc.1 (by rw[hc.2];omega)
  ·have h0:i=bs.length:=by
    have:=(List.getElem?_eq_some_iff.1 h1).1
    simp at this;omega
   subst h0
   rw[List.getElem?_append_right (Nat.le_refl _)]at h1
   rw[List.getElem?_append_right (by rw[← h.len];exact Nat.le_refl _),← h.len]at h2
   simp at h1 h2
   subst h1 h2
   rw[hnew];exact hB
set_option maxHeartbeats 8000000 in
theorem hmake_spec(h:HpAt lo s p H N O)(hlo:lo≤s.next)(hR:∀ s' O',HpAt lo s' p (makeH H) N O'→Upd s s' O O'→R (makeV H) s'):QC Tryz.prog w0 62 #[.pointer (some ⟨p,0,none⟩)] s R:=by
 refine wfun2 hmix ok62 func62 rfl ntmps62 results62 (by simp) ?_
 obtain⟨hpro,tg,pf,pn,sl,bs,h⟩:=h
 have hhb:=h.bl
 have hlim:=h.ok.lim
 have hlen:=h.len
 obtain⟨an,cn,rfl⟩:∃ a c,sl = .slice a bs.length c:=by
  rcases h.row with ⟨e1,_,rfl⟩|⟨b2,junk,rfl,_⟩
  ·exact⟨none,0,by rw[e1]⟩
  ·exact⟨_,_,rfl⟩
 simp only[↓Zd,Zp,simprocAttr,co133]
 refine hdead_spec h ?_
 by_cases hmx:(H.maxO:Int)≤(bs.length:Int)
 ·have e1:makeH H=H:=by unfold makeH;rw[if_pos oM]
  have e2:makeV H = .tuple #[.int .i64 0,.int .i64 40]:=by unfold makeV;rw[if_pos oM]
  rw[e1,e2]at hR
  simp only[↓Zd,Zp,simprocAttr,cld2,HEx,hhb,hmx,ord62]
  exact hR _ _ ⟨hpro,tg,pf,pn,_,bs,h⟩ .refl
 ·have e1:makeH H={ H with obs:=H.obs ++ [{ L:=[],shape:=growN H.F H.most (0,[]),proto:=0,epoch:=0 }],F:=growF H.F H.most (0,[]) }:=by unfold makeH;rw[if_neg oM]
  have e2:makeV H = .tuple #[.int .i64 ((bs.length+1:Nat):Int),.int .i64 0]:=by unfold makeV;rw[if_neg oM,hlen]
  have hok:=make_ok h.ok
  have hpr:=make_pro hpro
  rw[e1]at hok hpr
  rw[e1,e2]at hR
  have hbl:∀ (m:Nat),cbuild Tryz.prog 180 #[(0,.pointer (some ⟨m,0,none⟩))]=some (.agg #[.pointer (some ⟨m,0,none⟩)]):=fun m=>by kernel_rfl
  have hmk:∀ v,cmkI Tryz.prog 180 v=some (.iface 180 v):=fun v=>mkI_s underlying180
  have hmp:∀ v,cmkI Tryz.prog 185 v=some (.iface 185 v):=fun v=>mkI_p underlying185
  have hbo:∀ (v:Value),cbuild Tryz.prog 184 #[(0,.iface 180 (.agg #[v]))]=some (.agg #[.iface 180 (.agg #[v]),.int .i64 0,.int .i64 0]):=fun v=>by kernel_rfl
  have hbs:∀ (n:Int),cbuild Tryz.prog 187 #[(0,.int .i64 n)]=some (.agg #[.int .i64 n,.slice none 0 0]):=fun v=>by kernel_rfl
  simp only[↓Zd,Zp,simprocAttr,cld2,HEx,hhb,hmx,ord62,co134]
  refine dnew_spec fun s1 pd hD1 hs1=>?_
  have hn1:=hs1.1
  have hhb1:=(h.le hs1).bl
  have hpn:=(h.own p h.pin.1).2
  have hps1:¬ p=s1.next:=oM
  simp only[↓Zd,Zp,Zs,simprocAttr,HEx,hhb1,hps1,hbl,hmk,hbo,co135]
  have l2:s.le (s1.new (.cells [.iface 180 (.agg #[.pointer (some ⟨pd,0,none⟩)]),.int .i64 0,.int .i64 0] 184 true)):=lN hs1
  have h2:=h.le l2
  refine froot_spec (q:=0) h2.fo (by simp only[nN];omega) fun s3 O3 hF3 hU3=>?_
  have hn3:=hU3.next
  simp only[nN]at hn3
  have hokF:HOk { H with F:=growF H.F H.most (0,[]) }:=h.ok.more (F':=growF H.F H.most (0,[])) (T':=H.T) (fun j t ht=>growF_get ht) (fun _ _ _=>rfl) (Nat.le_refl _) h.ok.nodup (fun j t ht y hy=>by
   rcases growF_mem ht with h1|rfl
   ·exact h.ok.ids j t h1 y hy
   ·cases hy)
  have h3:=h2.newF hU3 hF3 hokF
  have hU3':=re_upd hU3
  have hhb3:=h3.bl
  generalize hO4:reO O tg 1 O3=O4 at h3 hU3'
  generalize hT4:reT tg 1 O3=tg4 at h3
  have hUall:Upd s s3 O O4:=(Upd.of_le l2).trans hU3'
  have hfresh:∀ c,s.next≤c→c<s1.next+1→¬ O4 c:=fun c h1 h2' hc=>by
   rcases hU3'.own c hc with g|g
   ·have:=(h.own c g).2
    omega
   ·simp only[nN]at g;omega
  have hke:∀ c,s.next≤c→c<s1.next+1→s3.at' c=(s1.new (.cells [.iface 180 (.agg #[.pointer (some ⟨pd,0,none⟩)]),.int .i64 0,.int .i64 0] 184 true)).at' c:=fun c h1 h2'=>by
   refine hU3'.keep c (by simp only[nN];omega) (fun hc=>?_)
   have:=(h.own c hc).2;omega
  have hob3:s3.at' s1.next=some (.cells [.iface 180 (.agg #[.pointer (some ⟨pd,0,none⟩)]),.int .i64 0,.int .i64 0] 184 true):=by rw[hke _ oM oM,aN,if_pos rfl]
  have hpO4:=h3.pin.1
  have hsl3:=h3.row
  have hfr3:∀ q m c,Value.slice an bs.length cn = .slice (some q) m c→q.block<s3.next:=fun q m c e=>(h3.own _ (h3.rowO q m c e).1).2
  have hpn3:=(h3.own p hpO4).2
  by_cases hpos:(0:Int)<((growN H.F H.most (0,[]):Nat):Int)
  ·have hob3n:¬ s1.next=s3.next:=oM
   have hpne1:¬ p=s1.next:=oM
   have hpne3:¬ p=s3.next:=oM
   simp only[↓Zd,Zp,Zs,simprocAttr,HEx,hpos,hob3,hob3n,hpne1,hpne3,hhb3,hbs,hmp,rowPtr]
   have hle4:∀ c,O4 c→((s3.new (.cells [.int .i64 ((growN H.F H.most (0,[]):Nat):Int),.slice none 0 0] 187 true)).put s1.next (.cells [.iface 185 (.pointer (some ⟨s3.next,0,none⟩)),.int .i64 0,.int .i64 0] 184 true)).at' c=s3.at' c:=fun c hc=>by
    have:=(h3.own c hc).2
    have:c≠s1.next:=fun e=>hfresh s1.next oM oM (e▸hc)
    rw[aP,if_neg this,aN,if_neg oM]
   refine wch_app_ptr (l:=bs) (a:=s1.next) oM (hsl3.same fun q n c e=>hle4 _ (h3.rowO q n c e).1) (fun q m c e=>by have:=hfr3 q m c e;simp only[Sn];omega) fun s5 hn5 hb5 hk5=>?_
   simp only[Sn]at hn5 hb5 hk5
   have hp5:s5.at' p=some (.cells [.slice an bs.length cn,.pointer (some ⟨pf,0,none⟩),.pointer (some ⟨pn,0,none⟩),.int .i64 (H.maxO:Int),.int .i64 (H.maxP:Int)] 149 true):=by
    rw[hk5 p oM (fun q m c e e2=>(h3.rowO q m c e).2.2 e2.symm),hle4 p hpO4];exact hhb3
   simp only[↓Zd,Zp,Zs,simprocAttr,HEx,hp5]
   have hk6:∀ c,c<s3.next+1→c≠s1.next→c≠p→(∀ q m k,Value.slice an bs.length cn = .slice (some q) m k→c≠q.block)→c≠s3.next→(s5.put p (.cells [.slice (some ⟨s3.next+1+1,0,none⟩) (bs.length+1) UNK,.pointer (some ⟨pf,0,none⟩),.pointer (some ⟨pn,0,none⟩),.int .i64 (H.maxO:Int),.int .i64 (H.maxP:Int)] 149 true)).at' c=s3.at' c:=fun c h1 h2 h3' h4 h5=>by
    rw[aP,if_neg h3',hk5 c h1 h4,aP,if_neg h2,aN,if_neg h5]
   have hB:ObAt lo (s5.put p (.cells [.slice (some ⟨s3.next+1+1,0,none⟩) (bs.length+1) UNK,.pointer (some ⟨pf,0,none⟩),.pointer (some ⟨pn,0,none⟩),.int .i64 (H.maxO:Int),.int .i64 (H.maxP:Int)] 149 true)) N s1.next { L:=[],shape:=growN H.F H.most (0,[]),proto:=0,epoch:=0 } (fun c=>c=s1.next∨c=s3.next):=by
    refine⟨?_,.inl rfl,Nat.zero_le _,.inr ⟨by show 0<growN H.F H.most (0,[]);omega,s3.next,.slice none 0 0,?_,?_,.inr rfl,oM,.inl ⟨rfl,rfl,rfl⟩,fun q n c e=>by cases e⟩⟩
    ·rintro c (rfl|rfl)<;>simp only[nU]<;>omega
    ·rw[aP,if_neg (fun e=>hpne1 e.symm),hk5 _ oM (fun q m c e e2=>hfresh s1.next oM oM (by rw[e2];exact (h3.rowO q m c e).1)),aP,if_pos rfl];rfl
    ·rw[aP,if_neg (fun e=>hpne3 e.symm),hk5 _ oM (fun q m c e e2=>by have:=hfr3 q m c e;omega),aP,if_neg (fun e=>hob3n e.symm),aN,if_pos rfl]
   have h6:=h3.addO (r:=s3.next+1+1) (b:=s1.next) (by simp only[nU];omega) (fun c hc hct=>hk6 c (by have:=(h3.own c hc).2;omega) (fun e=>hfresh s1.next oM oM (e▸hc)) (fun e=>hct (by rw[e];exact h3.pin.2)) (fun q m k e e2=>hct (by rw[e2];exact (h3.rowO q m k e).2.1)) (by have:=(h3.own c hc).2;omega)) (by rw[aP,if_pos rfl]) (.inr ⟨s3.next+1+1,[],by simp,by rw[aP,if_neg oM,List.append_nil];exact hb5,by rw[ptrs_len,Nat.mul_one]⟩) (fun q n c e=>by cases e;rfl) ⟨fun hc=>by have:=(h3.own _ hc).2;omega,oM,by simp only[nU];omega⟩ (fun c hc=>by
    rcases hc with rfl|rfl
    ·exact⟨hfresh _ oM oM,oM⟩
    ·exact⟨fun hc=>by have:=(h3.own _ hc).2;omega,oM⟩) hB hok
   refine hR _ _ ⟨hpr,_,_,_,_,_,h6⟩ ⟨by simp only[nU];omega,fun c hc hno=>?_,fun c hc=>?_⟩
   ·have hno4:¬ O4 c:=fun h4=>by
     rcases hUall.own c h4 with g|g
     ·exact hno g
     ·omega
    have g:=hk6 c oM oM (fun e=>hno4 (e▸hpO4)) (fun q m k e e2=>hno4 (by rw[e2];exact (h3.rowO q m k e).1)) oM
    exact g.trans (hUall.keep c hc hno)
   ·rcases hc with ⟨hc,_⟩|(rfl|rfl)|rfl
    ·exact hUall.own c hc
    ·exact .inr oM
    ·exact .inr oM
    ·exact .inr oM
  ·have hz:growN H.F H.most (0,[])=0:=oM
   rw[hz]at hok hpr hR
   simp only[↓Zd,Zp,simprocAttr,cld2,HEx,hpos,hhb3,rowPtr]
   refine wch_app_ptr (l:=bs) (a:=s1.next) oM hsl3 hfr3 fun s5 hn5 hb5 hk5=>?_
   have hp5:s5.at' p=some (.cells [.slice an bs.length cn,.pointer (some ⟨pf,0,none⟩),.pointer (some ⟨pn,0,none⟩),.int .i64 (H.maxO:Int),.int .i64 (H.maxP:Int)] 149 true):=by
    rw[hk5 p oM (fun q m c e e2=>(h3.rowO q m c e).2.2 e2.symm)];exact hhb3
   simp only[↓Zd,Zp,Zs,simprocAttr,HEx,hp5]
   have hk6:∀ c,c<s3.next→c≠p→(∀ q m k,Value.slice an bs.length cn = .slice (some q) m k→c≠q.block)→(s5.put p (.cells [.slice (some ⟨s3.next+1,0,none⟩) (bs.length+1) UNK,.pointer (some ⟨pf,0,none⟩),.pointer (some ⟨pn,0,none⟩),.int .i64 (H.maxO:Int),.int .i64 (H.maxP:Int)] 149 true)).at' c=s3.at' c:=fun c h1 h3' h4=>by
    rw[aP,if_neg h3',hk5 c h1 h4]
   have hfr6:∀ c,s.next≤c→c<s1.next+1→(s5.put p (.cells [.slice (some ⟨s3.next+1,0,none⟩) (bs.length+1) UNK,.pointer (some ⟨pf,0,none⟩),.pointer (some ⟨pn,0,none⟩),.int .i64 (H.maxO:Int),.int .i64 (H.maxP:Int)] 149 true)).at' c=s3.at' c:=fun c h1 h2=>hk6 c oM oM (fun q m k e e2=>hfresh c h1 h2 (by rw[e2];exact (h3.rowO q m k e).1))
   have hD6:DictAt lo (s5.put p (.cells [.slice (some ⟨s3.next+1,0,none⟩) (bs.length+1) UNK,.pointer (some ⟨pf,0,none⟩),.pointer (some ⟨pn,0,none⟩),.int .i64 (H.maxO:Int),.int .i64 (H.maxP:Int)] 149 true)) pd [] 0 (fun b=>s.next≤b∧b<s1.next):=(hD1.low hlo).same (by simp only[nU];omega) fun c hc=>by
    rw[hfr6 c hc.1 oM,hke c hc.1 oM,aN,if_neg oM]
   have hB:=ObAt.loose (lo:=lo) (b:=s1.next) (o:={ L:=[],shape:=0,proto:=0,epoch:=0 }) (by rw[hfr6 _ oM oM];exact hob3) rfl hD6 (fun c hc=>by omega) ⟨oM,by simp only[nU];omega⟩ (Nat.le_refl _)
   have h6:=h3.addO (r:=s3.next+1) (b:=s1.next) (by simp only[nU];omega) (fun c hc hct=>hk6 c (h3.own c hc).2 (fun e=>hct (by rw[e];exact h3.pin.2)) (fun q m k e e2=>hct (by rw[e2];exact (h3.rowO q m k e).2.1))) (by rw[aP,if_pos rfl]) (.inr ⟨s3.next+1,[],by simp,by rw[aP,if_neg oM,List.append_nil];exact hb5,by rw[ptrs_len,Nat.mul_one]⟩) (fun q n c e=>by cases e;rfl) ⟨fun hc=>by have:=(h3.own _ hc).2;omega,oM,by simp only[nU];omega⟩ (fun c hc=>by
    rcases hc with rfl|hc
    ·exact⟨hfresh _ oM oM,oM⟩
    ·exact⟨hfresh _ hc.1 oM,oM⟩) (hB.mono (Nat.zero_le _)) hok
   refine hR _ _ ⟨hpr,_,_,_,_,_,h6⟩ ⟨by simp only[nU];omega,fun c hc hno=>?_,fun c hc=>?_⟩
   ·have hno4:¬ O4 c:=fun h4=>by
     rcases hUall.own c h4 with g|g
     ·exact hno g
     ·omega
    have g:=hk6 c oM (fun e=>hno4 (e▸hpO4)) (fun q m k e e2=>hno4 (by rw[e2];exact (h3.rowO q m k e).1))
    exact g.trans (hUall.keep c hc hno)
   ·rcases hc with ⟨hc,_⟩|(rfl|hc)|rfl
    ·exact hUall.own c hc
    ·exact .inr oM
    ·exact .inr hc.1
    ·exact .inr oM
end
end Go.Proofs.Tryz
namespace Go.Proofs.Tryz
open Go.Cs
open Go.RowKit (Below)
set_option maxRecDepth 100000
attribute [local irreducible] QC WLoop WScope CRound WRange
section
variable {M:Type}[Mem M]{w0:World}{s:St M}{R:Value→St M→Prop}{lo p N:Nat}{H:Hp}{O:Nat→Prop}
set_option maxHeartbeats 8000000 in
theorem hgrow_spec(h:HpAt lo s p H N O)(hlo:lo≤s.next){i to:Int}{y:ByteArray}{k n:Int}(hN:N+3≤1000000)(hi : -9223372036854775808≤i∧i≤9223372036854775807)(hto : -9223372036854775808≤to∧to≤9223372036854775807)
  (hR:∀ s' O',HpAt lo s' p (growH H i to (k,n,y)) (N+3) O'→Upd s s' O O'→R (.int .i64 (growE H i to)) s'):QC Tryz.prog w0 157 #[.pointer (some ⟨p,0,none⟩),.int .i64 i,.int .i64 to,vA k n y] s R:=by
 refine wfun2 hmix ok157 func157 rfl ntmps157 results157 (by simp) ?_
 have hok:=grow_ok h.ok h.fok i to (k,n,y)
 have hpr:=grow_pro h.ok h.fok h.1 i to (k,n,y)
 obtain⟨hpro,tg,pf,pn,sl,bs,h⟩:=h
 have l1:s.le (s.new (.cells [.int .i64 k,.int .i64 n,.string y] 31 true)):=lN (lR _)
 have hbad:∀ e:Int,e≠0→growE H i to=e→R (.int .i64 e) (s.new (.cells [.int .i64 k,.int .i64 n,.string y] 31 true)):=fun e e0 he=>by
  have e1:growH H i to (k,n,y)=H:=by
   unfold growH
   split
   ·rfl
   ·rw[if_neg oM]
  rw[e1,he]at hR
  exact hR _ _ ⟨hpro,tg,pf,pn,sl,bs,(h.le l1).mono oM⟩ (.of_le l1)
 have h1':=h.le l1
 have hhb1:=h1'.bl
 have hhb:=h.bl
 have hpn:=(h.own p h.pin.1).2
 have hpne:¬ p=s.next:=oM
 simp only[↓Zd,Zp,Zs,simprocAttr,HEx,vA,co133]
 refine hdead_spec h1' ?_
 simp only[↓Zd,Zp,simprocAttr,HEx,vA,co160]
 refine hfind_spec h1' hi (fun hno=>?_) (fun j b o hij hb ho hat=>?_)
 ·simp only[↓Zd,Zp,simprocAttr,HEx,vA]
  exact hbad 4 oM (by unfold growE;rw[hno])
 ·have hj:=(List.getElem?_eq_some_iff.1 ho).1
  have hml:o.L.length≤32:=by have:=h.ok.lens j o ho;have:=h.ok.lim;omega
  have hB:=h.obj j b o hb ho
  have hbn:=(hB.own b hB.pin).2
  have hne:¬ b=s.next:=oM
  have hep:=hB.ep
  have w1:IntKind.i64.wrap ((o.epoch:Int)+1)=((o.epoch+1:Nat):Int):=by rw[wrap_i64 oM];omega
  rcases hB.bl with ⟨h0,pd,OD,g1,g2,g3⟩|⟨h0,ps,sv,g1,g2,g3,g4,g5,g6⟩
  ·simp only[↓Zd,Zp,simprocAttr,cld2,HEx,vA,g1,hne,ord157]
   exact hbad 2 oM (by unfold growE;rw[hat];simp only[if_pos h0])
  ·have hpsn:=(hB.own ps g3).2
   have hpse:¬ ps=s.next:=oM
   have hs0:¬ o.shape=0:=oM
   simp only[↓Zd,Zp,simprocAttr,cld2,HEx,vA,g1,g2,hhb,hne,hpne,hpse,ord157,co218]
   refine fparent_spec h1'.fo hto ?_
   cases ht:shAt H.F to with
   |none =>
    have hz:¬ (0:Int)=(o.shape:Int):=oM
    simp only[↓Zd,Zp,simprocAttr,cld2,HEx,g2,hpse,hz]
    exact hbad 2 oM (by unfold growE;rw[hat];simp only[if_neg hs0,ht];rw[if_pos oM])
   |some t =>
    by_cases hpar:parId H.F t=o.shape
    ·obtain⟨q,x,l,rfl,f1,f2,f3,f4,f5⟩:=grow_fits (n:=0) h.ok h.fo.ok ho h0 ht hpar
     have hpi:((parId H.F (q,x::l):Nat):Int)=(o.shape:Int):=oM
     have hnm:namesOf H.F to=x::l:=by unfold namesOf;rw[ht]
     obtain⟨an,cn,rfl⟩:∃ a c,sv = .slice a o.L.length c:=by
      rcases g5 with ⟨e1,_,rfl⟩|⟨b2,junk,rfl,_⟩
      ·exact⟨none,0,by rw[e1]⟩
      ·exact⟨_,_,rfl⟩
     simp only[hpi]
     by_cases hmx:(H.maxP:Int)≤(o.L.length:Int)
     ·simp only[↓Zd,Zp,simprocAttr,cld2,HEx,g2,hhb,hpne,hpse,hmx]
      exact hbad 42 oM (by unfold growE;rw[hat];simp only[if_neg hs0,ht];rw[if_neg oM,if_pos oM])
     ·have he:growE H i to=0:=by unfold growE;rw[hat];simp only[if_neg hs0,ht];rw[if_neg oM,if_neg oM]
      have e1:growH H i to (k,n,y)=putO H i { L:=o.L ++ [(txt H.T x,k,n,y)],shape:=to.toNat,proto:=o.proto,epoch:=o.epoch+1 }:=by unfold growH;rw[hat];simp only[if_pos he,hnm];rfl
      rw[e1]at hok hpr hR
      rw[he]at hR
      have htn:to=((to.toNat:Nat):Int):=oM
      have hsl1:SlU 31 3 (s.new (.cells [.int .i64 k,.int .i64 n,.string y] 31 true)) (.slice an o.L.length cn) (valsC o.L) o.L.length:=g5.same fun q n c e=>by
       have:=(hB.own _ (g6 q n c e).1).2
       rw[aN,if_neg oM]
      simp only[↓Zd,Zp,Zs,simprocAttr,HEx,g2,hhb,hpne,hpse,hmx,rowVal]
      refine wch_app_val oM hsl1 (fun q n c e=>by have:=(hB.own _ (g6 q n c e).1).2;simp only[nN];omega) fun s5 hn5 hb5 hk5=>?_
      simp only[nN]at hn5 hb5 hk5
      have hps5:s5.at' ps=some (.cells [.int .i64 (o.shape:Int),.slice an o.L.length cn] 187 true):=by
       rw[hk5 ps oM (fun q n c e e2=>(g6 q n c e).2.2 e2.symm),aN,if_neg hpse];exact g2
      have hb5':s5.at' b=some (.cells [.iface 185 (.pointer (some ⟨ps,0,none⟩)),.int .i64 (o.proto:Int),.int .i64 (o.epoch:Int)] 184 true):=by
       rw[hk5 b oM (fun q n c e e2=>(g6 q n c e).2.1 e2.symm),aN,if_neg hne];exact g1
      have c75:s5.at' s.next=some (.cells [.int .i64 k,.int .i64 n,.string y] 31 true):=by
       rw[hk5 _ oM (fun q m c e e2=>by have:=(hB.own _ (g6 q m c e).1).2;omega),aN,if_pos rfl]
      have hbps:¬ b=ps:=fun e=>g4 e.symm
      simp only[↓Zd,Zp,Zs,simprocAttr,HEx,hps5,hb5',hbps,w1]
      rw[htn]
      have hB6:ObAt lo (((s5.put ps (.cells [.int .i64 ((to.toNat:Nat):Int),.slice an o.L.length cn] 187 true)).put ps (.cells [.int .i64 ((to.toNat:Nat):Int),.slice (some ⟨s.next+2,0,none⟩) (o.L.length+1) UNK] 187 true)).put b (.cells [.iface 185 (.pointer (some ⟨ps,0,none⟩)),.int .i64 (o.proto:Int),.int .i64 ((o.epoch+1:Nat):Int)] 184 true)) (N+1) b { L:=o.L ++ [(txt H.T x,k,n,y)],shape:=to.toNat,proto:=o.proto,epoch:=o.epoch+1 } (fun c=>(O c∧tg c=j+3)∨c=s.next+2):=by
       refine⟨fun c hc=>?_,.inl hB.pin,by show o.epoch+1≤_;omega,.inr ⟨by show 0<to.toNat;omega,ps,_,by rw[aP,if_pos rfl],by rw[aP,if_neg g4,aP,if_pos rfl],.inl g3,g4,.inr ⟨s.next+2,[],by simp,?_,valsC_len _⟩,fun q m c e=>?_⟩⟩
       ·rcases hc with hc|rfl
        ·have:=hB.own c hc
         simp only[nU];omega
        ·simp only[nU];omega
       ·rw[aP,if_neg oM,aP,if_neg oM,aP,if_neg oM,hb5,valsC_app,List.append_nil];rfl
       ·cases e
        exact⟨.inr rfl,by show s.next+2≠b;omega,by show s.next+2≠ps;omega⟩
      have hU6:Upd (s.new (.cells [.int .i64 k,.int .i64 n,.string y] 31 true)) (((s5.put ps (.cells [.int .i64 ((to.toNat:Nat):Int),.slice an o.L.length cn] 187 true)).put ps (.cells [.int .i64 ((to.toNat:Nat):Int),.slice (some ⟨s.next+2,0,none⟩) (o.L.length+1) UNK] 187 true)).put b (.cells [.iface 185 (.pointer (some ⟨ps,0,none⟩)),.int .i64 (o.proto:Int),.int .i64 ((o.epoch+1:Nat):Int)] 184 true)) (fun c=>O c∧tg c=j+3) (fun c=>(O c∧tg c=j+3)∨c=s.next+2):=by
       refine⟨by simp only[Sn];omega,fun c hc hno=>?_,fun c hc=>?_⟩
       ·have hcp:¬ c=ps:=fun e=>hno (e▸g3)
        have hcb:¬ c=b:=fun e=>hno (e▸hB.pin)
        simp only[nN]at hc
        rw[aP,if_neg hcb,aP,if_neg hcp,aP,if_neg hcp,hk5 c hc (fun q m k e e2=>hno (by rw[e2];exact (g6 q m k e).1))]
       ·rcases hc with hc|rfl
        ·exact .inl hc
        ·exact .inr (by simp only[nN];omega)
      have h6:=(h1'.mono (N':=N+1) oM).setO hij hj hb hU6 hB6 hok
      exact hR _ _ ⟨hpr,_,_,_,_,_,h6.mono oM⟩ ((Upd.of_le l1).trans (re_upd hU6))
    ·have hz:¬ ((parId H.F t:Nat):Int)=(o.shape:Int):=oM
     simp only[↓Zd,Zp,simprocAttr,cld2,HEx,g2,hpse,hz]
     exact hbad 2 oM (by unfold growE;rw[hat];simp only[if_neg hs0,ht];rw[if_pos hpar])
theorem FAt.low{lo lo':Nat}{s:St M}{p:Nat}{F:List Sh}{most:Nat}{O:Nat→Prop}(h:FAt lo s p F most O)(hl:lo'≤lo):FAt lo' s p F most O:=
 ⟨fun b hb=>⟨by have:=(h.own b hb).1;omega,(h.own b hb).2⟩,h.pin,h.ok,h.le,h.bl⟩
theorem TabAt.low{lo lo':Nat}{s:St M}{p:Nat}{T:List ByteArray}{O:Nat→Prop}(h:TabAt lo s p T O)(hl:lo'≤lo):TabAt lo' s p T O:=
 ⟨fun b hb=>⟨by have:=(h.own b hb).1;omega,(h.own b hb).2⟩,h.pin,h.bl⟩
theorem tnew_spec(h:∀ s' p,TabAt s.next s' p [] (fun b=>s.next≤b∧b<s'.next)→s.le s'→R (.pointer (some ⟨p,0,none⟩)) s'):QC Tryz.prog w0 95 #[] s R:=by
 refine wfun2 hmix ok95 func95 rfl ntmps95 results95 (by simp) ?_
 have newTab:∀ (m:Nat),cbuild Tryz.prog 240 #[(0,.map (some m))]=some (.agg #[.map (some m),.slice none 0 0]):=fun m=>by kernel_rfl
 simp only[↓Zd,Zp,Zs,simprocAttr,is240,newTab]
 refine h _ _ ⟨fun b hb=>hb,by simp,s.next,.slice none 0 0,by simp,by simp;rfl,⟨oM,by simp only[nN];omega⟩,by simp,.inl ⟨rfl,rfl,rfl⟩,fun q n c e=>by cases e⟩ oL
theorem between_spec{a b:Int}(h:R (.int .i64 (max 0 (min a b))) s):QC Tryz.prog w0 96 #[.int .i64 a,.int .i64 b] s R:=by
 refine wfun2 hmix ok96 func96 rfl ntmps96 results96 (by simp) ?_
 have hmx:(if (if b<a then b else a)>0 then (if b<a then b else a) else 0)=max 0 (min a b):=oM
 simp only[↓Zd,Zp,simprocAttr,o_min,o_max,bi_min,bi_max,hmx]
 exact h
def newH(objects props shapes:Int):Hp:={ obs:=[],F:=[],T:=[],most:=(max 0 (min shapes 150)).toNat,maxO:=(max 0 (min objects 200)).toNat,maxP:=(max 0 (min props 32)).toNat }
theorem newH_ok(a b c:Int):HOk (newH a b c):=
 ⟨List.nodup_nil,fun i t h=>by simp[newH]at h,fun i o h=>by simp[newH]at h,fun i o h=>by simp[newH]at h,fun i o h=>by simp[newH]at h,⟨fun _=>0,fun i o h=>by simp[newH]at h⟩,⟨by simp[newH];omega,by simp[newH],by simp[newH];omega⟩⟩
theorem newH_pro(a b c:Int):HPro (newH a b c):=fun i o h=>by simp[newH]at h
set_option maxHeartbeats 8000000 in
theorem hnew_spec{a b c d n:Int}(h:∀ s' p,HpAt s.next s' p (newH a c n) 0 (fun b=>s.next≤b∧b<s'.next)→s.le s'→R (.pointer (some ⟨p,0,none⟩)) s'):QC Tryz.prog w0 34 #[.agg #[.int .i64 a,.int .i64 b,.int .i64 c,.int .i64 d],.int .i64 n] s R:=by
 refine wfun2 hmix ok34 func34 rfl ntmps34 results34 (by simp) ?_
 simp only[↓Zd,Zp,Zs,simprocAttr,HEx,is24,fa24x0,fa24x2,ord34,co94]
 refine fnew_spec fun s1 pf hF1 hs1=>?_
 have hn1:=hs1.1
 simp only[nN]at hn1
 have hbx1:s1.at' s.next=some (.cells [.int .i64 a,.int .i64 b,.int .i64 c,.int .i64 d] 24 true):=by rw[hs1.2 _ (by simp only[nN];omega),aN,if_pos rfl]
 simp only[↓Zd,Zp,simprocAttr,cld2,HEx,hbx1,co95]
 refine tnew_spec fun s2 pn hT2 hs2=>?_
 have hn2:=hs2.1
 have hbx2:s2.at' s.next=_:=(hs2.2 _ oM).trans hbx1
 have hbH:∀ (u v:Value) (e f:Int),cbuild Tryz.prog 149 #[(1,.pointer (some ⟨pf,0,none⟩)),(2,.pointer (some ⟨pn,0,none⟩)),(3,.int .i64 e),(4,.int .i64 f)]=some (.agg #[.slice none 0 0,.pointer (some ⟨pf,0,none⟩),.pointer (some ⟨pn,0,none⟩),.int .i64 e,.int .i64 f]):=fun u v e f=>by kernel_rfl
 simp only[↓Zd,Zp,simprocAttr,cld2,HEx,hbx2,co96]
 refine between_spec ?_
 simp only[↓Zd,Zp,simprocAttr,cld2,HEx,hbx2,co96]
 refine between_spec ?_
 simp only[↓Zd,Zp,Zs,simprocAttr,HEx,hbH .nilFunc .nilFunc]
 have hl:s.le (s2.new (.cells [.slice none 0 0,.pointer (some ⟨pf,0,none⟩),.pointer (some ⟨pn,0,none⟩),.int .i64 (max 0 (min a 200)),.int .i64 (max 0 (min c 32))] 149 true)):=lN (lT (lT (lN (lR _)) hs1) hs2)
 refine h _ _ ⟨newH_pro a c n,(fun c=>if s1.next≤c∧c<s2.next then 2 else if s.next+1≤c∧c<s1.next then 1 else 0),pf,pn,.slice none 0 0,[],⟨fun b hb=>hb,newH_ok a c n,Nat.zero_le _,⟨⟨oM,by simp only[nN];omega⟩,by rw[if_neg oM,if_neg oM]⟩,?_,.inl ⟨rfl,rfl,rfl⟩,(fun q n c e=>by cases e),?_,?_,rfl,fun i b o hb _=>by simp at hb⟩⟩ hl
 ·rw[aN,if_pos rfl]
  have e1:((newH a c n).maxO:Int)=max 0 (min a 200):=by simp only[newH];omega
  have e2:((newH a c n).maxP:Int)=max 0 (min c 32):=by simp only[newH];omega
  rw[e1,e2]
 ·have e:(fun b=>(s.next≤b∧b<(s2.new (.cells [.slice none 0 0,.pointer (some ⟨pf,0,none⟩),.pointer (some ⟨pn,0,none⟩),.int .i64 (max 0 (min a 200)),.int .i64 (max 0 (min c 32))] 149 true)).next)∧(if s1.next≤b∧b<s2.next then 2 else if s.next+1≤b∧b<s1.next then 1 else 0)=1)=fun b=>s.next+1≤b∧b<s1.next:=by
   funext b
   apply propext
   simp only[nN]
   split
   ·omega
   ·split<;>omega
  rw[e]
  simp only[nN]at hF1
  refine (hF1.low oM).same (by simp only[nN];omega) fun c hc=>?_
  rw[aN,if_neg oM,hs2.2 c oM]
 ·have e:(fun b=>(s.next≤b∧b<(s2.new (.cells [.slice none 0 0,.pointer (some ⟨pf,0,none⟩),.pointer (some ⟨pn,0,none⟩),.int .i64 (max 0 (min a 200)),.int .i64 (max 0 (min c 32))] 149 true)).next)∧(if s1.next≤b∧b<s2.next then 2 else if s.next+1≤b∧b<s1.next then 1 else 0)=2)=fun b=>s1.next≤b∧b<s2.next:=by
   funext b
   apply propext
   simp only[nN]
   split
   ·omega
   ·split<;>omega
  rw[e]
  refine (hT2.low oM).same (by simp only[nN];omega) fun c hc=>?_
  rw[aN,if_neg oM]
end
end Go.Proofs.Tryz
namespace Go.Proofs.Tryz
open Go.Cs
open Go.RowKit (Below)
set_option maxRecDepth 100000
attribute [local irreducible] QC WLoop WScope CRound WRange
def PSz(B:Nat)(p:ByteArray×V3):Prop:=p.1.size≤B∧p.2.2.2.size≤B ∧ -9223372036854775808≤p.2.2.1∧p.2.2.1≤9223372036854775807
def HSz(B:Nat)(H:Hp):Prop:=∀ (i:Nat) (o:Ob),H.obs[i]?=some o→∀ p∈o.L,PSz B p
def headB(k:Nat)(q:Nat):ByteArray:=(⟨#[35]⟩:ByteArray)++digS ((k+1:Nat):Int)++(⟨#[32,35]⟩:ByteArray)++digS (q:Int)
def propB(p:ByteArray×V3):ByteArray:=(⟨#[32]⟩:ByteArray)++p.1++(⟨#[58]⟩:ByteArray)++printV p.2.1 p.2.2.1 p.2.2.2
def propsL(L:List (ByteArray×V3)):List UInt8:=L.flatMap fun p=>(propB p).data.toList
def lineL(H:Hp)(k:Nat):List UInt8:=match H.obs[k]? with
 |some o=>(headB k o.proto).data.toList++propsL o.L ++ [10]
 |none=>[]
def linesL(H:Hp)(k:Nat):List UInt8:=(List.range k).flatMap (lineL H)
def dumpB(H:Hp):ByteArray:=⟨(linesL H H.obs.length).toArray⟩
theorem printV_len{k n:Int}{x:ByteArray}(hn : -9223372036854775808≤n∧n≤9223372036854775807):(printV k n x).size≤4*x.size+30:=by
 have hd:=digS_len hn
 rcases kinds k with rfl|rfl|rfl|rfl|rfl|rfl|⟨h0,h1,h2,h3,h4,h5⟩
 ·show 4≤_;omega
 ·by_cases hz:n=0
  ·simp only[printV,showV,hz];show 5≤_;omega
  ·simp only[printV,showV,hz];show 4≤_;omega
 ·simp only[printV,showV];show (digS n).size≤_;omega
 ·simp only[printV]
  show (quoteS x).size≤_
  have:=flat_len x.data.toList
  show (quoteL x.data.toList).length≤_
  unfold quoteL
  simp only[List.length_cons,List.length_append,List.length_nil]
  have e:x.data.toList.length=x.size:=rfl
  omega
 ·simp only[printV];show ((⟨#[35]⟩:ByteArray)++digS n).size≤_
  rw[ByteArray.size_append];show 1+_≤_;omega
 ·simp only[printV];show ((⟨#[38]⟩:ByteArray)++digS n).size≤_
  rw[ByteArray.size_append];show 1+_≤_;omega
 ·simp only[printV,showV,h0,h1,h2,h3,h4,h5,if_false];show 0≤_;omega
theorem headB_len{k q:Nat}(hk:k≤1000)(hq:q≤1000):(headB k q).size≤50:=by
 unfold headB
 have h1:=digS_len (n:=((k+1:Nat):Int)) oM
 have h2:=digS_len (n:=(q:Int)) oM
 simp only[ByteArray.size_append]
 show 1+_+2+_≤_
 omega
theorem propB_len{p:ByteArray×V3}(h:PSz 1000000 p):(propB p).size≤6000000:=by
 obtain⟨h1,h2,h3,h4⟩:=h
 have:=printV_len (k:=p.2.1) (x:=p.2.2.2) ⟨h3,h4⟩
 unfold propB
 simp only[ByteArray.size_append]
 show 1+_+1+_≤_
 omega
theorem propsL_len:∀ {L:List (ByteArray×V3)},(∀ p∈L,PSz 1000000 p)→(propsL L).length≤L.length*6000000:=by
 intro L
 induction L with
 |nil=>intro _;simp[propsL]
 |cons p L ih =>
  intro h
  have h1:=propB_len (h p (List.mem_cons_self))
  have h2:=ih fun q hq=>h q (List.mem_cons_of_mem _ hq)
  show ((propB p).data.toList++propsL L).length≤_
  rw[List.length_append,List.length_cons]
  have e:(propB p).data.toList.length=(propB p).size:=rfl
  omega
theorem lineL_len{H:Hp}(hok:HOk H)(hs:HSz 1000000 H)(k:Nat):(lineL H k).length≤200000000:=by
 unfold lineL
 cases ho:H.obs[k]? with
 |none=>simp
 |some o =>
  simp only[List.length_append,List.length_cons,List.length_nil]
  have hk:=(List.getElem?_eq_some_iff.1 ho).1
  have hlim:=hok.lim
  have hl:=hok.lens k o ho
  obtain⟨d,hd⟩:=hok.up
  have hq:o.proto≤200:=by rcases hd k o ho with h|⟨h,_⟩<;>omega
  have h1:=headB_len (k:=k) (q:=o.proto) oM oM
  have h2:=propsL_len (hs k o ho)
  have e:(headB k o.proto).data.toList.length=(headB k o.proto).size:=rfl
  omega
theorem linesL_succ(H:Hp)(k:Nat):linesL H (k+1)=linesL H k++lineL H k:=by
 unfold linesL;rw[List.range_succ];simp
theorem linesL_len{H:Hp}(hok:HOk H)(hs:HSz 1000000 H)(k:Nat):(linesL H k).length≤k*200000000:=by
 induction k with
 |zero=>simp[linesL]
 |succ k ih =>
  have:=lineL_len hok hs k
  rw[linesL_succ,List.length_append];omega
theorem ba_list_append(a b:ByteArray):(a++b).data.toList=a.data.toList++b.data.toList:=by
 rw[ByteArray.data_append,Array.toList_append]
section
variable {M:Type}[Mem M]{w0:World}{s:St M}{R:Value→St M→Prop}{lo p N:Nat}{H:Hp}{O:Nat→Prop}
theorem BAt.go{s0 s s':St M}{p:Nat}{l:List UInt8}(h:BAt s0 s p l)(hs:s.le s'):BAt s0 s' p l:=by
 obtain⟨h1,h2,h3,ad,sl,h4,h5,h6⟩:=h
 have:=hs.1
 refine⟨lT h1 hs,h2,oM,ad,sl,(hs.2 p h3).trans h4,h5,?_⟩
 rcases h6 with h6|⟨g1,b,g2,g3,g4,g5,g6⟩
 ·exact .inl h6
 ·exact .inr ⟨g1,b,g2,(hs.2 b g6).trans g3,g4,g5,oM⟩
theorem Fix.sub{W W':List Nat}{a b:Env}(h:Fix W a b)(hs:∀ t,W'.contains t=false→W.contains t=false):Fix W' a b:=fun t ht=>h t (hs t ht)
set_option maxHeartbeats 8000000 in
theorem hdump_spec(h:HpAt lo s p H N O)(hN:N≤1000000)(hsz:HSz 1000000 H)(hR:∀ s',s.le s'→R (.string (dumpB H)) s'):QC Tryz.prog w0 54 #[.pointer (some ⟨p,0,none⟩)] s R:=by
 refine wfun2 hmix ok54 func54 rfl ntmps54 results54 (by simp) ?_
 obtain⟨hpro,tg,pf,pn,sl,bs,h⟩:=h
 have hlim:=h.ok.lim
 simp only[↓Zd,Zp,Zs,simprocAttr,ze105]
 have hB0:BAt s (s.new (.cells [.pointer none,.slice none 0 0] 105 true)) s.next (linesL H 0):=
  ⟨lN (lR _),Nat.le_refl _,by simp only[nN];omega,_,_,by rw[aN,if_pos rfl],.inl rfl,.inl ⟨rfl,rfl⟩⟩
 refine wloop_fix hmix [10,11,12,13,16,17,18,19,20,21,22,23,24,25,26,27,28,29,30,31,5,32,33,34,35,36,37,38,6,7,39,40,41,42,43,44,45,8,9,46,47,48,49,50,51,52,53,54,14,15,4] (fun fuel env s1=>∃ k:Nat,fuel=H.obs.length - k∧k≤H.obs.length∧env 4 = .int .i64 ((k+1:Nat):Int)∧BAt s s1 s.next (linesL H k)) H.obs.length ⟨0,rfl,oM,rfl,hB0⟩ ?_
 rintro fuel env s1 hFx ⟨k,rfl,hk,e4,hB⟩
 have e0:env 0 = .pointer (some ⟨p,0,none⟩):=by rw[hFx 0 rfl];rfl
 have e3:env 3 = .pointer (some ⟨s.next,0,none⟩):=by rw[hFx 3 rfl];rfl
 have hll:=linesL_len h.ok hsz k
 simp only[↓Zd,Zp,simprocAttr,e0,e4,co126]
 refine hlen_spec (h.le hB.le) ?_
 by_cases hkn:k<H.obs.length
 ·have hle1:((k+1:Nat):Int)≤(H.obs.length:Int):=oM
  obtain⟨o,ho⟩:∃ o,H.obs[k]?=some o:=⟨H.obs[k],by simp[hkn]⟩
  have hat:obAt H ((k+1:Nat):Int)=some o:=by rw[obAt_get];exact ho
  obtain⟨d,hd⟩:=h.ok.up
  have hq:o.proto≤200:=by rcases hd k o ho with h|⟨h,_⟩<;>omega
  have hd1:=digS_len (n:=((k+1:Nat):Int)) oM
  have hd2:=digS_len (n:=(o.proto:Int)) oM
  have hml:o.L.length≤32:=by have:=h.ok.lens k o ho;omega
  have z1:(⟨#[35]⟩:ByteArray).size+(digS ((k+1:Nat):Int)).size≤9223372036854775807:=by show 1+_≤_;omega
  have z2:((⟨#[35]⟩:ByteArray)++digS ((k+1:Nat):Int)).size+(⟨#[32,35]⟩:ByteArray).size≤9223372036854775807:=by rw[ByteArray.size_append];show 1+_+2≤_;omega
  have z3:((⟨#[35]⟩:ByteArray)++digS ((k+1:Nat):Int)++(⟨#[32,35]⟩:ByteArray)).size+(digS (o.proto:Int)).size≤9223372036854775807:=by rw[ByteArray.size_append,ByteArray.size_append];show 1+_+2+_≤_;omega
  simp only[↓Zd,Zp,simprocAttr,HEx,e4,hle1,co58]
  refine digits_spec oM fun s2 hs2=>?_
  have hB2:=hB.go hs2
  simp only[↓Zd,Zp,simprocAttr,HEx,e0,e4,z1,z2,co127]
  refine hproto_spec (h.le hB2.le) oM ?_
  have hpv:protoV H ((k+1:Nat):Int)=(o.proto:Int):=by unfold protoV;rw[hat]
  rw[hpv]
  simp only[↓Zd,Zp,simprocAttr,HEx,co58]
  refine digits_spec oM fun s3 hs3=>?_
  have hB3:=hB2.go hs3
  simp only[↓Zd,Zp,simprocAttr,HEx,e3,z3,co53]
  have hh:(⟨#[35]⟩:ByteArray)++digS ((k+1:Nat):Int)++(⟨#[32,35]⟩:ByteArray)++digS (o.proto:Int)=headB k o.proto:=rfl
  rw[hh]
  have hhl:=headB_len (k:=k) (q:=o.proto) oM oM
  refine writeString_spec hB3 oM (by rw[← hh];simp only[ba_list_append];simp) oM fun s4 hB4=>?_
  simp only[↓Zd,Zp,simprocAttr,underlying108,e0,e4,co128]
  refine hcount_spec (i:=((k+1:Nat):Int)) (h.le hB4.le) oM fun s5 hs5=>?_
  have hB5:=hB4.go hs5
  have hcv:countV H ((k+1:Nat):Int)=(o.L.length:Int):=by unfold countV;rw[hat]
  rw[hcv]
  simp only[↓Zd,Zp,simprocAttr,HEx]
  refine wloop_fix hmix [30,31,5,32,33,34,35,36,37,38,6,7,39,40,41,42,43,44,45,8,9,46,47,48,49,50,51,52,53,29] (fun fuel env s1=>∃ m:Nat,fuel=o.L.length - m∧m≤o.L.length∧env 29 = .int .i64 (m:Int)∧BAt s s1 s.next (linesL H k++(headB k o.proto).data.toList++propsL (o.L.take m))) o.L.length ⟨0,rfl,oM,rfl,by simpa [propsL] using hB5⟩ ?_
  rintro fuel2 env2 s6 hFx2 ⟨m,rfl,hm,e29,hB6⟩
  have f0:env2 0 = .pointer (some ⟨p,0,none⟩):=by rw[hFx2 0 rfl];simp only[upd_apply];simpa using e0
  have f3:env2 3 = .pointer (some ⟨s.next,0,none⟩):=by rw[hFx2 3 rfl];simp only[upd_apply];simpa using e3
  have f4:env2 4 = .int .i64 ((k+1:Nat):Int):=by rw[hFx2 4 rfl];simp only[upd_apply];simpa using e4
  have f28:env2 28 = .int .i64 (o.L.length:Int):=by rw[hFx2 28 rfl];rfl
  have hpl:=propsL_len (L:=o.L.take m) (fun q hq=>hsz k o ho q (List.mem_of_mem_take hq))
  have htl:(o.L.take m).length≤32:=by rw[List.length_take];omega
  have hel:(headB k o.proto).data.toList.length=(headB k o.proto).size:=rfl
  have hlen6:(linesL H k++(headB k o.proto).data.toList++propsL (o.L.take m)).length≤100000000000:=by
   simp only[List.length_append];omega
  by_cases hml2:(m:Int)<(o.L.length:Int)
  ·have hmlt:m<o.L.length:=oM
   obtain⟨x,v,hLm⟩:∃ x v,o.L[m]?=some (x,v):=⟨o.L[m].1,o.L[m].2,by simp[hmlt]⟩
   obtain⟨v1,v2,v3⟩:=v
   have hpsz:=hsz k o ho _ (List.mem_of_getElem? hLm)
   obtain⟨q1,q2,q3,q4⟩:=hpsz
   simp only at q1 q2 q3 q4
   have hgp:=getP_get (h.ok.keys k o ho) hLm
   have hkV:keyV o.L (m:Int) = .tuple #[.string x,.bool true]:=by
    unfold keyV
    rw[if_pos oM,Int.toNat_natCast,List.getD_eq_getElem?_getD,hLm];rfl
   simp only[↓Zd,Zp,simprocAttr,f0,f4,f28,e29,hml2,co129]
   refine hkey_spec (i:=((k+1:Nat):Int)) (k:=(m:Int)) (h.le hB6.le) hN oM oM fun s7 hs7=>?_
   rw[hat]
   simp only[hkV]
   have hB7:=hB6.go hs7
   simp only[↓Zd,Zp,simprocAttr,HEx,f0,f4,co130]
   refine hown_spec (i:=((k+1:Nat):Int)) (h.le hB7.le) oM fun s8 hs8=>?_
   rw[hat]
   simp only[Option.bind_some,hgp,gotV,vOf]
   have hB8:=hB7.go hs8
   have hw1:(⟨#[32]⟩:ByteArray).size+x.size≤9223372036854775807:=by show 1+_≤_;omega
   have hw2:((⟨#[32]⟩:ByteArray)++x).size+(⟨#[58]⟩:ByteArray).size≤9223372036854775807:=by rw[ByteArray.size_append];show 1+_+1≤_;omega
   have hpl1:=printV_len (k:=v1) (n:=v2) (x:=v3) ⟨q3,q4⟩
   have hw3:((⟨#[32]⟩:ByteArray)++x++(⟨#[58]⟩:ByteArray)).size+(printV v1 v2 v3).size≤9223372036854775807:=by rw[ByteArray.size_append,ByteArray.size_append];show 1+_+1+_≤_;omega
   simp only[↓Zd,Zp,Zs,simprocAttr,HEx,vA,hw1,hw2,co55]
   have hB9:=hB8.go (s':=(s8.new (.cells [.int .i64 0,.int .i64 0,.string ⟨#[]⟩] 31 true)).put s8.next (.cells [.int .i64 v1,.int .i64 v2,.string v3] 31 true)) (lP (lN (lR _)) (Nat.le_refl _))
   have hpr:=print_spec (w0:=w0) (k:=v1) (n:=v2) (x:=v3) (s:=(s8.new (.cells [.int .i64 0,.int .i64 0,.string ⟨#[]⟩] 31 true)).put s8.next (.cells [.int .i64 v1,.int .i64 v2,.string v3] 31 true)) ⟨q3,q4⟩ q2 (R:=fun v s'=>v = .string (printV v1 v2 v3)∧BAt s s' s.next (linesL H k++(headB k o.proto).data.toList++propsL (o.L.take m))) (fun s' hs'=>⟨rfl,hB9.go hs'⟩)
   unfold vA at hpr
   refine QC.mono hpr fun v s9 hv=>?_
   obtain⟨rfl,hB10⟩:=hv
   simp only[↓Zd,Zp,simprocAttr,HEx,f3,hw3,co53]
   have hpb:(⟨#[32]⟩:ByteArray)++x++(⟨#[58]⟩:ByteArray)++printV v1 v2 v3=propB (x,v1,v2,v3):=rfl
   rw[hpb]
   have hpbl:=propB_len (p:=(x,v1,v2,v3)) ⟨q1,q2,q3,q4⟩
   refine writeString_spec hB10 oM (by rw[← hpb];simp only[ba_list_append];simp) oM fun s11 hB11=>?_
   have w1:IntKind.i64.wrap ((m:Int)+1)=((m+1:Nat):Int):=by rw[wrap_i64 oM];omega
   simp only[↓Zd,Zp,simprocAttr,underlying108,e29,w1]
   refine⟨by repeat (first|exact hFx2|refine Fix.upd (by decide) ?_),o.L.length - (m+1),oM,m+1,rfl,oM,rfl,?_⟩
   have e:propsL (o.L.take (m+1))=propsL (o.L.take m)++(propB (x,v1,v2,v3)).data.toList:=by
    rw[List.take_add_one,hLm]
    show (o.L.take m ++ [_]).flatMap _=_
    rw[List.flatMap_append]
    simp[propsL]
   rw[e,← List.append_assoc]
   exact hB11
  ·have:m=o.L.length:=oM
   subst this
   rw[List.take_length]at hB6 hlen6
   have w1:IntKind.i64.wrap (((k+1:Nat):Int)+1)=((k+1+1:Nat):Int):=by rw[wrap_i64 oM];omega
   simp only[↓Zd,Zp,simprocAttr,f3,f28,e29,hml2,co131]
   refine writeByte_spec (c:=10) hB6 oM fun s7 hB7=>?_
   simp only[↓Zd,Zp,simprocAttr,underlying107,f4,w1]
   refine⟨?_,H.obs.length - (k+1),oM,k+1,rfl,oM,rfl,?_⟩
   ·repeat (first|exact (Fix.trans (by repeat (first|exact hFx|refine Fix.upd (by decide) ?_)) (Fix.sub hFx2 (by intro t ht;simp only[List.contains_cons,List.contains_nil,Bool.or_false,Bool.or_eq_false_iff]at ht ⊢;simp only[ht,and_self])))|refine Fix.upd (by decide) ?_)
   ·have e:linesL H k++(headB k o.proto).data.toList++propsL o.L ++ [10]=linesL H (k+1):=by
     rw[linesL_succ]
     unfold lineL
     rw[ho]
     simp only[List.append_assoc]
    rw[← e]
    exact hB7
 ·have hnle:¬ ((k+1:Nat):Int)≤(H.obs.length:Int):=oM
  have:k=H.obs.length:=oM
  subst this
  simp only[↓Zd,Zp,simprocAttr,HEx,e3,hnle,co59]
  refine string_spec hB oM fun s2 hs2=>?_
  simp only[↓Zd,Zp,simprocAttr,HEx]
  exact hR _ hs2
end
end Go.Proofs.Tryz
end
section
set_option maxRecDepth 100000
namespace Go.Proofs.Tryz
open Go.Cs Go.ChangeShapes Go.WideShapes Go.ChangeAt Go.RowKit
abbrev QMem:=Nat→Option Blk
def qSt(L:List (TypeId×List Value)):St QMem:=⟨fun j=>(L[j]?).map fun r => .cells r.2 r.1 false,L.length⟩
def qRen(B:List (Option BI)):Ren:=fun j=>(B[j]?).join
def QIn(ρ:Ren)(w:World)(oi:Option BI)(r:List Value):Prop:=
 ∀ i,oi=some i→i.esz=0∧i.kd=0∧∃ cs e' fr,w.heap[i.blk]?=some (.cells cs e' fr)∧i.sh+r.length≤cs.size∧∀ k,k<r.length→VRel ρ (r.getD k Go.undef) (cs.getD (i.sh+k) Go.undef)
theorem q_at(L:List (TypeId×List Value))(b:Nat):(qSt L).at' b=(L[b]?).map fun r=>Blk.cells r.2 r.1 false:=rfl
theorem rel_q{w:World}{L:List (TypeId×List Value)}{B:List (Option BI)}(hn:B.length=L.length)(h:∀ (j:Nat) (oi:Option BI) (r:TypeId×List Value),B[j]?=some oi→L[j]?=some r→QIn (qRen B) w oi r.2):Rel prog w (qRen B) (qSt L) w:=by
 have hget:∀ b i,qRen B b=some i→b<L.length∧B[b]?=some (some i):=by
  intro b i hb
  unfold qRen at hb
  cases hc:B[b]? with
  |none=>rw[hc]at hb;cases hb
  |some o =>
   rw[hc]at hb
   have:=(List.getElem?_eq_some_iff.1 hc).1
   exact⟨oM,by cases hb;rfl⟩
 have hq:∀ b i,qRen B b=some i→∃ r,L[b]?=some r∧QIn (qRen B) w (some i) r.2:=by
  intro b i hb
  obtain⟨h1,h2⟩:=hget b i hb
  exact⟨L[b],by simp[h1],h b _ L[b] h2 (by simp[h1])⟩
 have hown:∀ b B',(qSt L).at' b=some B'→B'.owned=false:=by
  intro b B' hb
  rw[q_at]at hb
  obtain⟨ss,_,rfl⟩:=Option.map_eq_some_iff.1 hb
  rfl
 refine⟨fun b i hb=>(hget b i hb).1,fun b i hb=>?_,fun b i B' hb hs=>?_,fun b i B' hb hs ho=>?_,fun b i B' b2 i2 B2 hb hs _ _ _ ho=>?_,Below.refl _ _,fun b hb=>?_,fun b i hb hk=>?_,fun b i hb hk=>?_⟩
 ·obtain⟨r,_,h2⟩:=hq b i hb
  obtain⟨_,_,cs,e',fr,h3,_⟩:=h2 i rfl
  exact (Array.getElem?_eq_some_iff.1 h3).1
 ·obtain⟨r,h1,h2⟩:=hq b i hb
  rw[q_at,h1]at hs
  cases hs
  obtain⟨hz,_,cs,e',fr,h3,h4,h5⟩:=h2 i rfl
  exact⟨_,h3,cs,e',fr,rfl,h4,h5,.inl hz,fun e=>by cases e⟩
 ·rw[hown b B' hs]at ho;cases ho
 ·rw[hown b B' hs]at ho;cases ho
 ·rw[q_at,List.getElem?_eq_none (show L.length≤b from hb)];rfl
 ·obtain⟨r,_,h2⟩:=hq b i hb
  rw[(h2 i rfl).2.1]at hk;cases hk
 ·obtain⟨r,_,h2⟩:=hq b i hb
  rw[(h2 i rfl).2.1]at hk;cases hk
theorem calls_q{f:FuncId}{args args':Array Value}{w:World}{L:List (TypeId×List Value)}{B:List (Option BI)}(hn:B.length=L.length)(hr:∀ (j:Nat) (oi:Option BI) (r:TypeId×List Value),B[j]?=some oi→L[j]?=some r→QIn (qRen B) w oi r.2)
  (hv:VsRel (qRen B) args args')(h:QC (M:=QMem) prog w f args (qSt L) fun v _=>v = .bool true) :
  Calls prog f args' w fun e w'=>e = .returned (.bool true)∧Below w.heap.size w w':=by
 refine (h _ w args' (rel_q hn hr) hv).mono ?_
 rintro e w' ⟨v,s',ρ',v',rfl,rfl,hv,hR,_⟩
 exact⟨by rw[hv.bool_inv],hR.below⟩
theorem open_rows{α H:Type}{enc:TypeId×Value→H}{W:World}{r:Reach}{b0 c:Nat}{t e:TypeId}{v:Value}{d:DataW H}{ps:List MemPlace}(cellsA:α→List Value)(good:α→Prop)(hu:prog.underlying t=some (.slice e))(hc:prog.cellsOf e=c)(hlen:∀ a,(cellsA a).length=c)
  (hpl:∀ a,∀ x∈cellsA a,plain 6 x=true)(hc0:0<c)(hel:∀ (n:Nat) (cs:List Value) y,DataW.trod enc prog W 0 (fun _=>true) true n e cs=some y→∃ a,cs=cellsA a∧good a)
  (hval:Value.okWide prog W r b0 t v)(hd:DataW.Trod enc prog W 0 (fun _=>true) true t v d ps) :
  ∃ (A us:List α) (cp:Nat) (oi:Option BI) (ad:Nat→Option Addr),(∀ ρ,QIn ρ W oi (us.flatMap cellsA))∧(∀ (ρ:Ren) j,ρ j=oi→VRel ρ (.slice (ad j) A.length cp) v)∧(∀ a∈A,good a)∧(A=[]∨(ad=fun j=>some ⟨j,0,none⟩)∧∀ k,k<A.length→us[k]?=A[k]?)∧A.length≤9223372036854775807:=by
 have hmx:maxLen=9223372036854775807:=by decide
 obtain⟨a0,len,cap,rfl⟩:=okWide_slice hu hval
 obtain⟨fuel,hf⟩:=hd
 rcases DataW.trod_slice hu hf with ⟨hcs,hx⟩|⟨a,len',cap',elems,rest,n,_,hcs,hx,hb,hl,hm,hlen',hel',hsp,hns⟩
 ·have hcs:[Value.slice a0 len cap]=[.slice none 0 0]:=hcs
  simp only[List.cons.injEq,Value.slice.injEq,and_true]at hcs
  obtain⟨rfl,rfl,rfl⟩:=hcs
  exact⟨[],[],0,none,fun _=>none,(by intro ρ i hi;cases hi),(fun ρ j _ => .nilSlice),(by simp),.inl rfl,Nat.zero_le _⟩
 ·have hcs:[Value.slice a0 len cap]=[.slice (some a) len' cap']:=hcs
  simp only[List.cons.injEq,Value.slice.injEq,and_true]at hcs
  obtain⟨rfl,rfl,rfl⟩:=hcs
  obtain⟨hrl,hr⟩:=hsp rfl
  have hU:cap<UNK:=by unfold UNK;have:maxLen=9223372036854775807:=by decide
                      omega
  have hspot:a.spot=none∧∃ row cells,W.shape? a.block=some (row,cells):=by
   simp only[Value.okWide,hu,Cell.okWide]at hval
   simp only[Cell.ok,hu]at hval
   obtain⟨_,_,_,h1,row,cells,h2,_⟩:=hval
   exact⟨h1,row,cells,h2⟩
  obtain⟨hs1,row,cells,hs2⟩:=hspot
  have hblk:∃ cs e' fr,W.heap[a.block]?=some (.cells cs e' fr):=by
   unfold World.shape? at hs2
   split at hs2
   ·rename_i c el fr hh;exact⟨c,el,fr,hh⟩
   ·cases hs2
  obtain⟨cs,e',fr,hh⟩:=hblk
  have ha:a=⟨a.block,a.off,none⟩:=by cases a;simp at hs1;simp[hs1]
  have hadd:∀ i,a.add i=⟨a.block,a.off+i,none⟩:=by
   intro i
   unfold Addr.add
   split
   ·subst_vars;exact ha
   ·rfl
  have hadd2:∀ i k,(a.add i).add k=⟨a.block,a.off+i+k,none⟩:=by
   intro i k
   rw[hadd]
   unfold Addr.add
   split
   ·subst_vars;simp
   ·rfl
  have each:∀ i,i<cap→∃ x,good x∧∀ k,k<c→cs[a.off+i*c+k]?=(cellsA x)[k]?:=by
   intro i hi
   have hb':∃ y,(W.cells? 0 (a.add (i*c)) c).bind (DataW.trod enc prog W 0 (fun _=>true) true n e)=some y:=by
    by_cases h1:i<len
    ·have:=hel' i h1
     rw[hc]at this
     exact⟨elems[i]'oM,by rw[this];simp[hlen',h1]⟩
    ·have:=hr (i - len) oM
     rw[hc,show len+(i - len)=i by omega]at this
     exact⟨rest[i - len]'oM,by rw[this];simp⟩
   obtain⟨y,hy⟩:=hb'
   obtain⟨cs',hcs',hy'⟩:=Option.bind_eq_some_iff.1 hy
   obtain⟨x,rfl,hg⟩:=hel n cs' y hy'
   obtain⟨_,_,hcell⟩:=World.cells?_some hcs'
   refine⟨x,hg,fun k hk=>?_⟩
   have:=hcell k hk
   rw[hadd2]at this
   unfold World.cell? at this
   simp only[hh,Option.isSome_none,Bool.false_eq_true,if_false]at this
   exact this
  have hall:∃ us:List α,us.length=cap∧∀ i x,us[i]?=some x→good x∧∀ k,k<c→cs[a.off+i*c+k]?=(cellsA x)[k]?:=by
   clear hcs hrl hr hel' hval hf hx hb hl hm hlen' hsp hns hU
   induction cap with
   |zero=>exact⟨[],rfl,fun i x h=>by simp at h⟩
   |succ m ih =>
    obtain⟨us,h1,h2⟩:=ih (fun i hi=>each i oM)
    obtain⟨x,h3⟩:=each m oM
    refine⟨us ++ [x],by simp[h1],fun i y hy=>?_⟩
    by_cases hi:i<us.length
    ·rw[List.getElem?_append_left hi]at hy;exact h2 i y hy
    ·rw[List.getElem?_append_right oM]at hy
     have h0:i - us.length=0:=by
      have:=(List.getElem?_eq_some_iff.1 hy).1
      simp at this;omega
     rw[h0]at hy
     simp at hy
     subst hy
     have:i=m:=oM
     subst this;exact h3
  obtain⟨us,hal,has⟩:=hall
  have hfl:∀ (l:List α),(l.flatMap cellsA).length=l.length*c:=by
   intro l
   induction l with
   |nil=>simp
   |cons x l ih=>rw[List.flatMap_cons,List.length_append,ih,hlen,List.length_cons,Nat.succ_mul];omega
  have hget:∀ (l:List α) (i k:Nat) (x:α),l[i]?=some x→k<c→(l.flatMap cellsA)[i*c+k]?=(cellsA x)[k]?:=by
   intro l
   induction l with
   |nil=>intro i k x h;simp at h
   |cons y l ih =>
    intro i k x h hk
    rw[List.flatMap_cons]
    cases i with
    |zero =>
     simp at h;subst h
     rw[Nat.zero_mul,Nat.zero_add,List.getElem?_append_left (by rw[hlen];exact hk)]
    |succ i =>
     have:c≤(i+1)*c+k:=by rw[Nat.succ_mul];omega
     rw[List.getElem?_append_right (by rw[hlen];exact this),hlen,show (i+1)*c+k - c=i*c+k by rw[Nat.succ_mul];omega]
     exact ih i k x (by simpa using h) hk
  by_cases h0:cap=0
  ·have hl0:len=0:=oM
   subst hl0
   refine⟨[],[],cap,some ⟨a.block,0,0,0,0⟩,fun j=>some ⟨j,a.off,none⟩,?_,?_,(by simp),.inl rfl,Nat.zero_le _⟩
   ·rintro ρ i ⟨⟩
    exact⟨rfl,rfl,cs,e',fr,hh,by simp,fun k hk=>by simp at hk⟩
   ·intro ρ j hj
    exact .slice ⟨_,hj,rfl,ha⟩ (.inl ⟨rfl,hU⟩)
  ·refine⟨us.take len,us,cap,some ⟨a.block,a.off,0,0,0⟩,fun j=>some ⟨j,0,none⟩,?_,?_,?_,.inr ⟨rfl,?_⟩,by simp;omega⟩
   ·rintro ρ i ⟨⟩
    have hlast:cap - 1<cap:=oM
    have hsz:a.off+cap*c≤cs.size:=by
     have h1:us[cap - 1]?=some (us[cap - 1]'oM):=List.getElem?_eq_getElem _
     have h2:=(has _ _ h1).2 (c - 1) oM
     rw[List.getElem?_eq_getElem (by rw[hlen];omega)]at h2
     have:=(Array.getElem?_eq_some_iff.1 h2).1
     have e:cap*c=(cap - 1)*c+c:=by
      conv=>lhs;rw[show cap=(cap - 1)+1 by omega,Nat.succ_mul]
     omega
    refine⟨rfl,rfl,cs,e',fr,hh,by rw[hfl,hal];exact hsz,fun k hk=>?_⟩
    rw[hfl,hal]at hk
    have hi:k / c<cap:=by rw[Nat.div_lt_iff_lt_mul hc0];exact hk
    have hk2:k % c<c:=Nat.mod_lt _ hc0
    have e:k / c*c+k % c=k:=Nat.div_add_mod' k c
    have h1:us[k / c]?=some (us[k / c]'oM):=List.getElem?_eq_getElem _
    have h2:=(has _ _ h1).2 (k % c) hk2
    have h3:=hget us _ _ _ h1 hk2
    have hlt:k % c<(cellsA (us[k / c]'oM)).length:=by rw[hlen];exact hk2
    rw[List.getElem?_eq_getElem hlt]at h2 h3
    show VRel ρ _ (cs.getD (a.off+k) Go.undef)
    rw[show a.off+k / c*c+k % c=a.off+k by omega]at h2
    rw[e]at h3
    rw[Array.getD_eq_getD_getElem?,h2,List.getD_eq_getElem?_getD,h3]
    exact VRel.of_plain 6 (hpl _ _ (List.getElem_mem _))
   ·intro ρ j hj
    have:(us.take len).length=len:=by simp;omega
    rw[this]
    exact .slice ⟨_,hj,rfl,by show a=⟨a.block,0+a.off,none⟩;rw[Nat.zero_add];exact ha⟩ (.inl ⟨rfl,hU⟩)
   ·intro x hx
    obtain⟨i,hi⟩:=List.getElem?_of_mem (List.mem_of_mem_take hx)
    exact (has i x hi).1
   ·intro k hk
    simp only[List.length_take]at hk
    rw[List.getElem?_take,if_pos oM]
def QRow{α M:Type}[Mem M](e:TypeId)(cellsA:α→List Value)(s:St M)(a:Option Addr)(A:List α):Prop:=
 A=[]∨∃ (j:Nat) (us:List α),a=some ⟨j,0,none⟩∧j<s.next∧s.at' j=some (.cells (us.flatMap cellsA) e false)∧∀ k,k<A.length→us[k]?=A[k]?
end Go.Proofs.Tryz
end
section
set_option maxRecDepth 100000
namespace Go.Proofs.Tryz
open Go.Cs Go.ChangeShapes Go.WideShapes Go.ChangeAt Go.RowKit
def rowsN(c:Nat→List Value)(n:Nat):List Value:=(List.range n).flatMap c
end Go.Proofs.Tryz
end
section
set_option maxRecDepth 100000
namespace Go.Proofs.Tryz
open Go.Cs Go.ChangeShapes Go.WideShapes Go.ChangeAt Go.RowKit Go.ChangeMaps
section
variable {H:Type}{enc:TypeId×Value→H}{w:World}{base:Nat}{sp:Nat→Bool}{held:Bool}
theorem open_value_c{m:Nat}{c0 c1 c2:Value}{y:DataW H×List MemPlace}(h:DataW.trod enc prog w base sp held m 31 [c0,c1,c2]=some y) :
  ∃ (k n:Int) (x:ByteArray),c0 = .int .i64 k∧c1 = .int .i64 n∧c2 = .string x∧y=(.agg [.lit (.int .i64 k),.lit (.int .i64 n),.lit (.string x.data.toList)],[])∧(Lit.int .i64 k).wf=true∧(Lit.int .i64 n).wf=true∧x.size≤maxLen:=by
 obtain⟨d,ps⟩:=y
 obtain⟨xs,m,_,hx,hl,hlen,hp⟩:=DataW.trod_struct underlying31 h
 have h0:DataW.trod enc prog w base sp held m 3 (List.take (prog.cellsOf 3) (List.drop 0 [c0,c1,c2]))=xs[0]?:=hp 0 _ rfl
 have h1:DataW.trod enc prog w base sp held m 3 (List.take (prog.cellsOf 3) (List.drop 1 [c0,c1,c2]))=xs[1]?:=hp 1 _ rfl
 have h2:DataW.trod enc prog w base sp held m 9 (List.take (prog.cellsOf 9) (List.drop 2 [c0,c1,c2]))=xs[2]?:=hp 2 _ rfl
 have hlen:xs.length=3:=hlen
 rw[ce3]at h0 h1
 rw[ce9]at h2
 match xs,hlen with
 | [y0,y1,y2],_ =>
  simp only[List.drop_zero,List.drop_succ_cons,List.take_succ_cons,List.take_zero,List.getElem?_cons_zero,List.getElem?_cons_succ]at h0 h1 h2
  obtain⟨k,e0,rfl,w0⟩:=DataW.trod_int underlying3 h0
  obtain⟨n,e1,rfl,w1⟩:=DataW.trod_int underlying3 h1
  obtain⟨x,e2,rfl,w2⟩:=DataW.trod_string underlying9 h2
  simp only[List.cons.injEq,and_true]at e0 e1 e2
  subst e0 e1 e2
  simp only[List.map_cons,List.map_nil,List.flatMap_cons,List.flatMap_nil,List.append_nil,Prod.mk.injEq]at hx
  exact⟨k,n,x,rfl,rfl,rfl,by rw[hx.1,hx.2],w0,w1,w2⟩
end
end Go.Proofs.Tryz
end
section
namespace Go.Cs
section
variable {M:Type}[Mem M]{P:Program}{w0:World}{s:St M}{ev:Operand→Value}{d:Option Tmp}{ty t:TypeId}{pos:String}{af:Array Edge}{g:Option (Nat×Bool)}{x y:Operand}{K:Value→St M→Prop}{F:Value→St M→Option Value→Prop}
def cmks(P:Program)(t:TypeId)(l c:Value):Option (Blk×(Nat→Value)):=match P.underlying t,l,c with
  |some (.slice e),.int _ l,.int _ c=>match P.info? e with
   |some ie=>if 0≤l∧l≤c∧c≤4294967296∧c*ie.bytes≤281474976710656 then
     match zerosOf P e (c.toNat*ie.size) with
     |some z=>some (.cells z e true,fun b => .slice (some ⟨b,0,none⟩) l.toNat c.toNat)
     |none=>none
    else none
   |none=>none
  |_,_,_=>none
theorem o_mks:wop P w0 ⟨d,.makeSlice t x y,ty,pos,af,g⟩ ev s K=wmk (cmks P t (ev x) (ev y)) s K:=rfl
theorem f_mks:wfop P ⟨d,.makeSlice t x y,ty,pos,af,g⟩ ev s F=wmk (cmks P t (ev x) (ev y)) s fun v s=>F v s none:=rfl
end
end Go.Cs
end
namespace Go.Proofs.Tryz
open Go.Cs
open Go.RowKit (Below)
set_option maxRecDepth 100000
attribute [local irreducible] QC WLoop WScope CRound WRange
set_option maxHeartbeats 32000000
variable {M:Type}[Mem M]{w0:World}{s:St M}{R:Value→St M→Prop}

structure Sim(H G:Hp):Prop where
 len:H.obs.length=G.obs.length
 obs:∀ (i:Nat) (a b:Ob),H.obs[i]?=some a→G.obs[i]?=some b→a.L=b.L∧a.proto=b.proto∧a.epoch=b.epoch
 mo:H.maxO=G.maxO
 mp:H.maxP=G.maxP
theorem Sim.so{H G:Hp}(h:Sim H G){i:Int}{a:Ob}(ha:obAt H i=some a):∃ b,obAt G i=some b∧a.L=b.L∧a.proto=b.proto∧a.epoch=b.epoch:=by
 obtain⟨j,rfl,hj,hoj⟩:=obAt_some ha
 have hb:G.obs[j]?=some (G.obs[j]'(by have:=h.len;omega)):=List.getElem?_eq_getElem _
 exact⟨_,by rw[obAt_get];exact hb,h.obs j a _ hoj hb⟩
theorem Sim.no{H G:Hp}(h:Sim H G){i:Int}(ha:obAt H i=none):obAt G i=none:=by
 rw[obAt_none]at ha ⊢
 rw[← h.len];exact ha
theorem Sim.proto{H G:Hp}(h:Sim H G)(i:Int):protoV H i=protoV G i:=by
 unfold protoV
 cases ha:obAt H i with
 |none=>rw[h.no ha]
 |some a=>obtain⟨b,hb,_,h2,_⟩:=h.so ha;rw[hb];simp only;rw[h2]
theorem Sim.epoch{H G:Hp}(h:Sim H G)(i:Int):epochV H i=epochV G i:=by
 unfold epochV
 cases ha:obAt H i with
 |none=>rw[h.no ha]
 |some a=>obtain⟨b,hb,_,_,h2⟩:=h.so ha;rw[hb];simp only;rw[h2]
theorem Sim.get{H G:Hp}(h:Sim H G){x:ByteArray}{i:Int}{v:V3}(hg:GetR H x i v):GetR G x i v:=by
 induction hg with
 |none ha=>exact .none (h.no ha)
 |own ha hv=>obtain⟨b,hb,h1,_⟩:=h.so ha;exact .own hb (by rw[← h1];exact hv)
 |up ha hv _ ih=>obtain⟨b,hb,h1,h2,_⟩:=h.so ha;exact .up hb (by rw[← h1];exact hv) (by rw[← h2];exact ih)
theorem Sim.symm{H G:Hp}(h:Sim H G):Sim G H:=
 ⟨h.len.symm,fun i a b ha hb=>by obtain⟨h1,h2,h3⟩:=h.obs i b a hb ha;exact⟨h1.symm,h2.symm,h3.symm⟩,h.mo.symm,h.mp.symm⟩
theorem Sim.on{H G:Hp}(h:Sim H G){o p:Int}{b:Bool}(hr:OnR H o p b):OnR G o p b:=by
 induction hr with
 |here=>exact .here
 |zero h0=>exact .zero h0
 |up h0 h1 _ ih=>rw[h.proto]at ih;exact .up h0 h1 ih
theorem Sim.onB{H G:Hp}(h:Sim H G)(o p:Int):onB H o p=onB G o p:=by
 unfold Tryz.onB
 by_cases h1:OnR H o p true
 ·rw[if_pos h1,if_pos (h.on h1)]
 ·rw[if_neg h1,if_neg (fun h2=>h1 (h.symm.on h2))]
theorem Sim.put{H G:Hp}(h:Sim H G){H' G':Hp}{i:Int}{a b:Ob}(hH:H'.obs=H.obs∧H'.maxO=H.maxO∧H'.maxP=H.maxP)(hG:G'.obs=G.obs∧G'.maxO=G.maxO∧G'.maxP=G.maxP)(hab:a.L=b.L∧a.proto=b.proto∧a.epoch=b.epoch):Sim (putO H' i a) (putO G' i b):=by
 refine⟨by simp only[putO,List.length_set,hH.1,hG.1];exact h.len,fun j u w hu hw=>?_,by simp only[putO,hH.2.1,hG.2.1];exact h.mo,by simp only[putO,hH.2.2,hG.2.2];exact h.mp⟩
 simp only[putO,hH.1,hG.1,List.getElem?_set]at hu hw
 by_cases e:i.toNat - 1=j
 ·simp only[e,if_true]at hu hw
  split at hu
  ·split at hw
   ·cases hu;cases hw;exact hab
   ·cases hw
  ·cases hu
 ·simp only[e,if_false]at hu hw
  exact h.obs j u w hu hw
theorem same3(H:Hp):H.obs=H.obs∧H.maxO=H.maxO∧H.maxP=H.maxP:=⟨rfl,rfl,rfl⟩
theorem next3(H:Hp)(k:Int)(x:ByteArray):(nextH H k x).obs=H.obs∧(nextH H k x).maxO=H.maxO∧(nextH H k x).maxP=H.maxP:=by
 have:=next_obs H k x
 exact⟨this.1,this.2.2.2,this.2.1⟩
theorem Sim.setE{H G:Hp}(h:Sim H G)(i:Int)(x:ByteArray):setE H i x=setE G i x:=by
 unfold Tryz.setE
 cases ha:obAt H i with
 |none=>rw[h.no ha]
 |some a=>obtain⟨b,hb,h1,_⟩:=h.so ha;rw[hb];simp only;rw[h1,h.mp]
theorem Sim.set{H G:Hp}(h:Sim H G)(i:Int)(x:ByteArray)(v:V3):Sim (setH H i x v) (setH G i x v):=by
 unfold setH
 cases ha:obAt H i with
 |none=>rw[h.no ha];exact h
 |some a =>
  obtain⟨b,hb,h1,h2,h3⟩:=h.so ha
  rw[hb]
  simp only
  rw[h1,h.mp]
  split
  ·exact h.put (same3 H) (same3 G) ⟨by simp only[],h2,h3⟩
  ·split
   ·exact h
   ·split<;>split
    ·exact h.put (same3 H) (same3 G) ⟨rfl,h2,by simp only[h3]⟩
    ·exact h.put (same3 H) (next3 G _ _) ⟨rfl,h2,by simp only[h3]⟩
    ·exact h.put (next3 H _ _) (same3 G) ⟨rfl,h2,by simp only[h3]⟩
    ·exact h.put (next3 H _ _) (next3 G _ _) ⟨rfl,h2,by simp only[h3]⟩
theorem Sim.delB{H G:Hp}(h:Sim H G)(i:Int)(x:ByteArray):delB H i x=delB G i x:=by
 unfold Tryz.delB
 cases ha:obAt H i with
 |none=>rw[h.no ha]
 |some a=>obtain⟨b,hb,h1,_⟩:=h.so ha;rw[hb];simp only[Option.bind_some];rw[h1]
theorem Sim.del{H G:Hp}(h:Sim H G)(i:Int)(x:ByteArray):Sim (delH H i x) (delH G i x):=by
 unfold delH
 cases ha:obAt H i with
 |none=>rw[h.no ha];exact h
 |some a =>
  obtain⟨b,hb,h1,h2,h3⟩:=h.so ha
  rw[hb]
  simp only
  rw[h1]
  split
  ·exact h.put (same3 H) (same3 G) ⟨rfl,h2,by simp only[h3]⟩
  ·exact h
theorem Sim.protoE{H G:Hp}(h:Sim H G)(i q:Int):protoE H i q=protoE G i q:=by
 have hn:∀ k,obAt H k=none↔obAt G k=none:=fun k=>⟨h.no,h.symm.no⟩
 unfold Tryz.protoE
 rw[h.onB]
 have e:(obAt H i=none∨(q≠0∧obAt H q=none))=(obAt G i=none∨(q≠0∧obAt G q=none)):=by rw[propext (hn i),propext (hn q)]
 by_cases h1:obAt H i=none∨(q≠0∧obAt H q=none)
 ·rw[if_pos h1];exact (if_pos (e▸h1)).symm
 ·rw[if_neg h1];exact (if_neg (e▸h1)).symm
theorem Sim.protoH{H G:Hp}(h:Sim H G)(i q:Int):Sim (protoH H i q) (protoH G i q):=by
 unfold Tryz.protoH
 rw[h.protoE]
 split
 ·cases ha:obAt H i with
  |none=>rw[h.no ha];exact h
  |some a =>
   obtain⟨b,hb,h1,h2,h3⟩:=h.so ha
   rw[hb]
   simp only
   split<;>split
   ·exact h.put (same3 H) (same3 G) ⟨h1,rfl,by simp only[h3]⟩
   ·exact h.put (G':={ G with F:=moveF G.F G.most b.shape q.toNat }) (same3 H) ⟨rfl,rfl,rfl⟩ ⟨h1,rfl,by simp only[h3]⟩
   ·exact h.put (H':={ H with F:=moveF H.F H.most a.shape q.toNat }) ⟨rfl,rfl,rfl⟩ (same3 G) ⟨h1,rfl,by simp only[h3]⟩
   ·exact h.put (H':={ H with F:=moveF H.F H.most a.shape q.toNat }) (G':={ G with F:=moveF G.F G.most b.shape q.toNat }) ⟨rfl,rfl,rfl⟩ ⟨rfl,rfl,rfl⟩ ⟨h1,rfl,by simp only[h3]⟩
 ·exact h
theorem Sim.makeV{H G:Hp}(h:Sim H G):makeV H=makeV G:=by
 unfold Tryz.makeV
 rw[h.mo,h.len]
theorem Sim.make{H G:Hp}(h:Sim H G):Sim (makeH H) (makeH G):=by
 unfold makeH
 rw[h.mo,h.len]
 split
 ·exact h
 ·refine⟨by simp[h.len],fun i a b ha hb=>?_,by first|rfl|exact h.mo,h.mp⟩
  simp only at ha hb
  by_cases hi:i<H.obs.length
  ·rw[List.getElem?_append_left hi]at ha
   rw[List.getElem?_append_left (by rw[← h.len];exact hi)]at hb
   exact h.obs i a b ha hb
  ·rw[List.getElem?_append_right oM]at ha
   rw[List.getElem?_append_right (by rw[← h.len];omega)]at hb
   have h0:i - H.obs.length=0:=by
    have:=(List.getElem?_eq_some_iff.1 ha).1
    simp at this;omega
   rw[← h.len]at hb
   rw[h0]at ha hb
   simp at ha hb
   subst ha hb
   exact⟨rfl,rfl,rfl⟩
theorem Sim.new(a c n m:Int):Sim (newH a c n) (newH a c m):=⟨rfl,fun i a b h=>by simp[newH]at h,rfl,rfl⟩
theorem HSz.put{B:Nat}{H H':Hp}(h:HSz B H)(hH:H'.obs=H.obs){i:Int}{a:Ob}(ha:∀ p∈a.L,PSz B p):HSz B (putO H' i a):=by
 intro j u hu
 simp only[putO,hH,List.getElem?_set]at hu
 split at hu
 ·split at hu
  ·cases hu;exact ha
  ·cases hu
 ·exact h j u hu
theorem HSz.mono{B C:Nat}{H:Hp}(h:HSz B H)(hBC:B≤C):HSz C H:=fun i o ho p hp=>by
 obtain⟨h1,h2,h3⟩:=h i o ho p hp
 exact⟨oM,oM,h3⟩
theorem setP_mem:∀ {L:List (ByteArray×V3)}{x:ByteArray}{v:V3}{p:ByteArray×V3},p∈setP L x v→p∈L∨p=(x,v):=by
 intro L
 induction L with
 |nil=>intro x v p h;simp only[setP,List.mem_cons,List.not_mem_nil,or_false]at h;exact .inr h
 |cons q L ih =>
  intro x v p h
  obtain⟨y,w⟩:=q
  unfold setP at h
  split at h
  ·rcases List.mem_cons.1 h with h|h
   ·exact .inr h
   ·exact .inl (List.mem_cons_of_mem _ h)
  ·rcases List.mem_cons.1 h with h|h
   ·exact .inl (by rw[h];exact List.mem_cons_self)
   ·rcases ih h with h|h
    ·exact .inl (List.mem_cons_of_mem _ h)
    ·exact .inr h
theorem delP_mem:∀ {L:List (ByteArray×V3)}{x:ByteArray}{p:ByteArray×V3},p∈delP L x→p∈L:=by
 intro L
 induction L with
 |nil=>intro x p h;cases h
 |cons q L ih =>
  intro x p h
  obtain⟨y,w⟩:=q
  unfold delP at h
  split at h
  ·exact List.mem_cons_of_mem _ h
  ·rcases List.mem_cons.1 h with h|h
   ·rw[h];exact List.mem_cons_self
   ·exact List.mem_cons_of_mem _ (ih h)
theorem HSz.at{B:Nat}{H:Hp}(h:HSz B H){i:Int}{a:Ob}(ha:obAt H i=some a):∀ p∈a.L,PSz B p:=by
 obtain⟨j,rfl,hj,hoj⟩:=obAt_some ha
 exact h j a hoj
theorem HSz.set{B:Nat}{H:Hp}(h:HSz B H)(i:Int){x:ByteArray}{v:V3}(hx:PSz B (x,v)):HSz B (setH H i x v):=by
 unfold setH
 cases ha:obAt H i with
 |none=>exact h
 |some a =>
  have hs:∀ p∈setP a.L x v,PSz B p:=fun p hp=>by
   rcases setP_mem hp with hp|rfl
   ·exact h.at ha p hp
   ·exact hx
  simp only
  split
  ·exact h.put rfl hs
  ·split
   ·exact h
   ·split
    ·exact h.put rfl hs
    ·exact h.put (next_obs _ _ _).1 hs
theorem HSz.del{B:Nat}{H:Hp}(h:HSz B H)(i:Int)(x:ByteArray):HSz B (delH H i x):=by
 unfold delH
 cases ha:obAt H i with
 |none=>exact h
 |some a =>
  simp only
  split
  ·exact h.put rfl fun p hp=>h.at ha p (delP_mem hp)
  ·exact h
theorem HSz.protoH{B:Nat}{H:Hp}(h:HSz B H)(i q:Int):HSz B (protoH H i q):=by
 unfold Tryz.protoH
 split
 ·cases ha:obAt H i with
  |none=>exact h
  |some a =>
   simp only
   split
   ·exact h.put rfl fun p hp=>h.at ha p hp
   ·exact h.put (H':={ H with F:=moveF H.F H.most a.shape q.toNat }) rfl fun p hp=>h.at ha p hp
 ·exact h
theorem HSz.make{B:Nat}{H:Hp}(h:HSz B H):HSz B (makeH H):=by
 unfold makeH
 split
 ·exact h
 ·intro j u hu
  simp only at hu
  by_cases hi:j<H.obs.length
  ·rw[List.getElem?_append_left hi]at hu;exact h j u hu
  ·rw[List.getElem?_append_right oM]at hu
   have h0:j - H.obs.length=0:=by
    have:=(List.getElem?_eq_some_iff.1 hu).1
    simp at this;omega
   rw[h0]at hu
   simp at hu
   subst hu
   intro p hp;cases hp
theorem HSz.new(B:Nat)(a c n:Int):HSz B (newH a c n):=fun i o h=>by simp[newH]at h
def TSz(B:Nat)(H:Hp):Prop:=∀ x∈H.T,x.size≤B
theorem txt_sz{B:Nat}{T:List ByteArray}(h:∀ x∈T,x.size≤B)(i:Nat):(txt T i).size≤B:=by
 unfold txt
 rw[List.getD_eq_getElem?_getD]
 cases hx:T[i - 1]? with
 |none=>exact Nat.zero_le _
 |some x=>exact h x (List.mem_of_getElem? hx)
theorem HSz.grow{B:Nat}{H:Hp}(h:HSz B H)(ht:TSz B H)(i to:Int){v:V3}(hv:v.2.2.size≤B ∧ -9223372036854775808≤v.2.1∧v.2.1≤9223372036854775807):HSz B (growH H i to v):=by
 unfold growH
 cases ha:obAt H i with
 |none=>exact h
 |some a =>
  simp only
  split
  ·refine h.put rfl fun p hp=>?_
   rcases List.mem_append.1 hp with hp|hp
   ·exact h.at ha p hp
   ·simp only[List.mem_cons,List.not_mem_nil,or_false]at hp
    subst hp
    exact⟨txt_sz ht _,hv⟩
  ·exact h
theorem ofT_sz{B:Nat}{T:List ByteArray}{x:ByteArray}(h:∀ y∈T,y.size≤B)(hx:x.size≤B):∀ y∈ofT T x,y.size≤B:=by
 intro y hy
 cases hi:idxOf T x with
 |some j=>rw[ofT_some hi]at hy;exact h y hy
 |none =>
  rw[ofT_none hi]at hy
  rcases List.mem_append.1 hy with hy|hy
  ·exact h y hy
  ·simp only[List.mem_cons,List.not_mem_nil,or_false]at hy
   subst hy;exact hx
theorem TSz.next{B:Nat}{H:Hp}(h:TSz B H)(i:Int){x:ByteArray}(hx:x.size≤B):TSz B (nextH H i x):=by
 unfold nextH
 split
 ·exact ofT_sz h hx
 ·exact h
theorem TSz.set{B:Nat}{H:Hp}(h:TSz B H)(i:Int){x:ByteArray}(v:V3)(hx:x.size≤B):TSz B (setH H i x v):=by
 unfold setH
 cases ha:obAt H i with
 |none=>exact h
 |some a =>
  simp only
  split
  ·exact h
  ·split
   ·exact h
   ·split
    ·exact h
    ·exact h.next _ hx
theorem TSz.same{B:Nat}{H G:Hp}(h:TSz B H)(hT:G.T=H.T):TSz B G:=by unfold TSz;rw[hT];exact h
theorem del_T(H:Hp)(i:Int)(x:ByteArray):(delH H i x).T=H.T:=by
 unfold delH
 split
 ·rfl
 ·split<;>rfl
theorem proto_T(H:Hp)(i q:Int):(protoH H i q).T=H.T:=by
 unfold protoH
 split
 ·split
  ·rfl
  ·split<;>rfl
 ·rfl
theorem grow_T(H:Hp)(i q:Int)(v:V3):(growH H i q v).T=H.T:=by
 unfold growH
 split
 ·rfl
 ·split<;>rfl
theorem make_T(H:Hp):(makeH H).T=H.T:=by unfold makeH;split<;>rfl
def REx:=(aI (aI (aI (aI (aI (aI @underlying247 (aI @sz247 @is247)) (aI (aI @ce247 @ag247) (aI @ze247 @fa247x0))) (aI (aI (aI @fa247x1 @underlying299) (aI @sz299 @is299)) (aI (aI @ce299 @ag299) (aI @ze299 @nt299)))) (aI (aI (aI @nn299 (aI @nf299 @ng299)) (aI (aI @underlying156 @sz156) (aI @is156 @ce156))) (aI (aI (aI @ag156 @ze156) (aI @fa156x0 @fa156x1)) (aI (aI @fa156x2 @fa156x3) (aI @fa156x4 @underlying91))))) (aI (aI (aI (aI @sz91 (aI @is91 @ce91)) (aI (aI @ag91 @ze91) (aI @nt91 @nn91))) (aI (aI (aI @nf91 @ng91) (aI @underlying152 @sz152)) (aI (aI @is152 @ce152) (aI @ag152 @ze152)))) (aI (aI (aI @underlying245 (aI @sz245 @is245)) (aI (aI @ce245 @ag245) (aI @ze245 @nt245))) (aI (aI (aI @nn245 @nf245) (aI @ng245 @underlying249)) (aI (aI @sz249 @is249) (aI @ce249 @ag249)))))) (aI (aI (aI (aI (aI @ze249 (aI @fa249x0 @fa249x1)) (aI (aI @fa249x2 @fa249x3) (aI @underlying243 @sz243))) (aI (aI (aI @is243 @ce243) (aI @ag243 @ze243)) (aI (aI @fa243x0 @fa243x1) (aI @underlying150 @sz150)))) (aI (aI (aI @is150 (aI @ce150 @ag150)) (aI (aI @ze150 @nt150) (aI @nn150 @nf150))) (aI (aI (aI @ng150 @underlying241) (aI @sz241 @is241)) (aI (aI @ce241 @ag241) (aI @ze241 @underlying298))))) (aI (aI (aI (aI @sz298 (aI @is298 @ce298)) (aI (aI @ag298 @ze298) (aI @fa298x0 @fa298x1))) (aI (aI (aI @underlying154 @sz154) (aI @is154 @ce154)) (aI (aI @ag154 @ze154) (aI @fa154x0 @underlying39)))) (aI (aI (aI (aI @sz39 @is39) (aI @ce39 @ag39)) (aI (aI @ze39 @underlying88) (aI @sz88 @is88))) (aI (aI (aI @ce88 @ag88) (aI @ze88 @underlying75)) (aI (aI @sz75 @is75) (aI @ce75 @ag75)))))))
section
variable {r f:Nat}
structure RZ(s:St M)(r f:Nat):Prop where
 heap:s.at' r=some (.cells [.slice none 0 0,.int .i64 0,.int .i64 0,.pointer (some ⟨f,0,none⟩),.slice none 0 0] 156 true)
 forest:s.at' f=some (.cells [.slice none 0 0,.int .i64 0] 243 true)
 rn:r<s.next
 fn:f<s.next
theorem RZ.same{s':St M}(h:RZ s r f)(hn:s.next≤s'.next)(h1:s'.at' r=s.at' r)(h2:s'.at' f=s.at' f):RZ s' r f:=
 ⟨h1.trans h.heap,h2.trans h.forest,by have:=h.rn;omega,by have:=h.fn;omega⟩
theorem RZ.le{s':St M}(h:RZ s r f)(hs:s.le s'):RZ s' r f:=h.same hs.1 (hs.2 _ h.rn) (hs.2 _ h.fn)
end
section
def SlI(s:St M)(v:Value)(l:List Nat):Prop:=SlU 3 1 s v (ints l) l.length
theorem SlI.form{v:Value}{l:List Nat}(h:SlI s v l):∃ a c,v = .slice a l.length c:=by
 rcases h with ⟨e,_,rfl⟩|⟨b,_,rfl,_⟩
 ·exact⟨none,0,by rw[e]⟩
 ·exact⟨_,_,rfl⟩
theorem SlI.get{v:Value}{l:List Nat}(h:SlI s v l){k:Nat}(hk:k<l.length):∃ b vs own,v = .slice (some ⟨b,0,none⟩) l.length UNK∧s.at' b=some (.cells vs 3 own)∧vs[k]?=some (.int .i64 ((l[k]:Nat):Int)):=by
 rcases h with ⟨e,_,rfl⟩|⟨b,junk,rfl,hb,_⟩
 ·omega
 ·exact⟨b,_,_,rfl,hb,ints_get junk hk⟩
theorem rlsame_spec{va vb:Value}{a b:List Nat}(ha:SlI s va a)(hb:SlI s vb b)(hla:a.length≤1000000)(hlb:b.length≤1000000)(hR:R (.bool (decide (a=b))) s):QC prog w0 275 #[va,vb] s R:=by
 refine wfun2 hmix ok275 func275 rfl ntmps275 results275 (by simp) ?_
 obtain⟨a1,ac,rfl⟩:=ha.form
 obtain⟨b1,bc,rfl⟩:=hb.form
 by_cases hl:(a.length:Int)=(b.length:Int)
 case neg =>
  have:decide (a=b)=false:=by
   simp only[decide_eq_false_iff_not]
   intro e;rw[e]at hl;exact hl rfl
  rw[this]at hR
  simp only[↓Zd,Zp,simprocAttr,REx,hl]
  exact hR
 simp only[↓Zd,Zp,simprocAttr,REx,hl]
 refine wloop_inv hmix (fun fuel env s1=>∃ k:Nat,fuel=a.length - k∧k≤a.length∧env 5 = .int .i64 (k:Int)∧env 0 = .slice a1 a.length ac∧env 1 = .slice b1 b.length bc∧s1=s∧a.take k=b.take k) a.length ⟨0,rfl,oM,rfl,rfl,rfl,rfl,rfl⟩ ?_
 rintro fuel env s1 ⟨k,rfl,hk,e5,e0,e1,rfl,hpre⟩
 by_cases hkl:(k:Int)<(a.length:Int)
 case neg =>
  have hk1:k=a.length:=oM
  have:decide (a=b)=true:=by
   rw[decide_eq_true_eq]
   rw[hk1,List.take_length,show a.length=b.length by omega,List.take_length]at hpre
   exact hpre
  rw[this]at hR
  simp only[↓Zd,Zp,simprocAttr,REx,e5,e0,hkl]
  exact hR
 obtain⟨ba,vsa,oa,ea,hba,hga⟩:=ha.get (k:=k) oM
 obtain⟨bb,vsb,ob,eb,hbb,hgb⟩:=hb.get (k:=k) oM
 cases ea
 cases eb
 have hk1:(0:Int)≤(k:Int)∧(k:Int)<(a.length:Int):=oM
 have hk2:(0:Int)≤(k:Int)∧(k:Int)<(b.length:Int):=oM
 have w1:IntKind.i64.wrap ((k:Int)+1)=((k+1:Nat):Int):=by rw[wrap_i64 oM];omega
 have hka:a[k]?=some a[k]:=List.getElem?_eq_getElem _
 have hkb:b[k]?=some (b[k]'oM):=List.getElem?_eq_getElem _
 by_cases he:((a[k]:Nat):Int)=((b[k]'oM:Nat):Int)
 case neg =>
  have:decide (a=b)=false:=by
   simp only[decide_eq_false_iff_not]
   intro e
   subst e
   exact he rfl
  rw[this]at hR
  simp only[↓Zd,Zp,simprocAttr,cld2,HEx,REx,e5,e0,e1,hkl,hk1,hk2,hba,hbb,hga,hgb,he,ord275]
  exact hR
 simp only[↓Zd,Zp,simprocAttr,cld2,HEx,REx,e5,e0,e1,hkl,hk1,hk2,hba,hbb,hga,hgb,he,w1,ord275]
 refine⟨a.length - (k+1),oM,k+1,rfl,oM,rfl,?_⟩
 rw[List.take_add_one,List.take_add_one,hka,hkb,hpre]
 have:a[k]=b[k]'oM:=oM
 rw[this]
def rshC(F:List Sh)(nm:Nat→Value)(i:Nat):List Value:=[.int .i64 (((F.getD i (0,[])).1:Nat):Int),nm i]
theorem rshC_len(F:List Sh)(nm:Nat→Value)(i:Nat):(rshC F nm i).length=2:=rfl
theorem rshC_at{F:List Sh}{nm:Nat→Value}{i:Nat}{t:Sh}(h:F[i]?=some t):rshC F nm i=[.int .i64 ((t.1:Nat):Int),nm i]:=by
 unfold rshC
 rw[List.getD_eq_getElem?_getD,h];rfl
structure RFAt(lo:Nat)(s:St M)(p:Nat)(F:List Sh)(most:Nat)(O:Nat→Prop):Prop where
 own:∀ b,O b→lo≤b∧b<s.next
 pin:O p
 ok:FOk F
 le:F.length≤most∧most≤150
 bl:∃ sl nm,s.at' p=some (.cells [sl,.int .i64 (most:Int)] 243 true)∧SlU 298 2 s sl (rows (rshC F nm) F.length) F.length∧(∀ q n c,sl = .slice (some q) n c→O q.block∧q.block≠p) ∧
  ∀ (i:Nat) (t:Sh),F[i]?=some t→SlI s (nm i) t.2.reverse∧∀ q n c,nm i = .slice (some q) n c→O q.block∧q.block≠p∧∀ q' n' c',sl = .slice (some q') n' c'→q.block≠q'.block
theorem RFAt.same{lo:Nat}{s s':St M}{p:Nat}{F:List Sh}{most:Nat}{O:Nat→Prop}(h:RFAt lo s p F most O)(hn:s.next≤s'.next)(hs:∀ b,O b→s'.at' b=s.at' b):RFAt lo s' p F most O:=by
 obtain⟨h1,h2,h3,h4,sl,nm,h5,h6,h7,h8⟩:=h
 exact⟨fun b hb=>⟨(h1 b hb).1,by have:=(h1 b hb).2;omega⟩,h2,h3,h4,sl,nm,by rw[hs _ h2];exact h5,h6.same fun q n c e=>hs _ (h7 q n c e).1,h7,fun i t ht=>⟨(h8 i t ht).1.same fun q n c e=>hs _ ((h8 i t ht).2 q n c e).1,(h8 i t ht).2⟩⟩
theorem RFAt.le'{lo:Nat}{s s':St M}{p:Nat}{F:List Sh}{most:Nat}{O:Nat→Prop}(h:RFAt lo s p F most O)(hs:s.le s'):RFAt lo s' p F most O:=h.same hs.1 fun b hb=>hs.2 b (h.own b hb).2
theorem RFAt.low{lo lo':Nat}{s:St M}{p:Nat}{F:List Sh}{most:Nat}{O:Nat→Prop}(h:RFAt lo s p F most O)(hl:lo'≤lo):RFAt lo' s p F most O:=
 ⟨fun b hb=>⟨by have:=(h.own b hb).1;omega,(h.own b hb).2⟩,h.pin,h.ok,h.le,h.bl⟩
def NmOf(s:St M)(p i:Nat)(v:Value):Prop:=∃ sl m b vs own n c,s.at' p=some (.cells [sl,m] 243 true)∧sl = .slice (some ⟨b,0,none⟩) n c∧s.at' b=some (.cells vs 298 own)∧vs[i*2+1]?=some v
theorem RFAt.nm{lo p i:Nat}{F:List Sh}{most:Nat}{O:Nat→Prop}{v:Value}{t:Sh}(hF:RFAt lo s p F most O)(ht:F[i]?=some t)(hv:NmOf s p i v):SlI s v t.2.reverse∧∀ q n c,v = .slice (some q) n c→O q.block:=by
 obtain⟨h1,h2,h3,h4,sl,nm,h5,h6,h7,h8⟩:=hF
 obtain⟨sl',m,b,vs,own,n,c,g1,g2,g3,g4⟩:=hv
 rw[h5]at g1
 cases g1
 have hi:=(List.getElem?_eq_some_iff.1 ht).1
 rcases h6 with ⟨e,_⟩|⟨b',junk,e,hb,hlb⟩
 ·omega
 rw[e]at g2
 cases g2
 rw[hb]at g3
 cases g3
 have f1:=rows_get (rshC_len F nm) (n:=F.length) junk hi (show 1<2 by omega)
 rw[rshC_at ht]at f1
 rw[f1]at g4
 cases g4
 exact⟨(h8 i t ht).1,fun q n c e=>((h8 i t ht).2 q n c e).1⟩
theorem NmOf.same{lo p i:Nat}{s':St M}{F:List Sh}{most:Nat}{O:Nat→Prop}{v:Value}(h:NmOf s p i v)(hF:RFAt lo s p F most O)(hs:∀ b,O b→s'.at' b=s.at' b):NmOf s' p i v:=by
 obtain⟨h1,h2,h3,h4,sl,nm,h5,h6,h7,h8⟩:=hF
 obtain⟨sl',m,b,vs,own,n,c,g1,g2,g3,g4⟩:=h
 rw[h5]at g1
 cases g1
 have hb:=(h7 ⟨b,0,none⟩ n c g2).1
 exact⟨_,_,b,vs,own,n,c,(hs p h2).trans h5,g2,(hs b hb).trans g3,g4⟩
theorem rfhas_spec{lo p:Nat}{F:List Sh}{most:Nat}{O:Nat→Prop}{i:Int}(hF:RFAt lo s p F most O)(hR:R (.bool (shAt F i).isSome) s):QC prog w0 239 #[.pointer (some ⟨p,0,none⟩),.int .i64 i] s R:=by
 refine wfun2 hmix ok239 func239 rfl ntmps239 results239 (by simp) ?_
 obtain⟨h1,h2,h3,h4,sl,nm,h5,h6,h7,h8⟩:=hF
 obtain⟨a,c,rfl⟩:∃ a c,sl = .slice a F.length c:=by
  rcases h6.form with ⟨e0,rfl⟩|⟨b,rfl⟩
  ·exact⟨none,0,by rw[e0]⟩
  ·exact⟨_,_,rfl⟩
 by_cases i1:1≤i
 ·by_cases i2:i≤(F.length:Int)
  ·have:(shAt F i).isSome=true:=by
    unfold shAt;rw[if_pos i1,List.getElem?_eq_getElem oM];rfl
   rw[this]at hR
   simp only[↓Zd,Zp,simprocAttr,cld2,REx,h5,i1,i2]
   exact hR
  ·have:(shAt F i).isSome=false:=by rw[shAt_out oM];rfl
   rw[this]at hR
   simp only[↓Zd,Zp,simprocAttr,cld2,REx,h5,i1,i2]
   exact hR
 ·have:(shAt F i).isSome=false:=by rw[shAt_out oM];rfl
  rw[this]at hR
  simp only[↓Zd,Zp,simprocAttr,i1]
  exact hR
theorem rowShape(q:Nat)(v:Value)(a:Option Addr)(n c:Nat):crow prog 241 1 #[(0,.agg #[.int .i64 (q:Int),.slice a n c])]=some (.cells [.int .i64 (q:Int),.slice a n c] 298 true):=oK
theorem infoShape:∃ ie,prog.info? 298=some ie∧ie.size=2∧0<ie.bytes∧ie.bytes≤100:=by
 obtain⟨ie,h⟩:=Option.isSome_iff_exists.1 is298
 have h1:=ce298
 have h2:decide (0<prog.bytesOf 298∧prog.bytesOf 298≤100)=true:=oK
 rw[cellsOf_info h]at h1
 simp only[Program.bytesOf,h,decide_eq_true_eq]at h2
 exact⟨ie,h,h1,h2.1,h2.2⟩
theorem wch_app_shape{s:St M}{sl:Value}{cs:List Value}{k q:Nat}{a:Option Addr}{n c:Nat}{K:Value→St M→Prop}(hlen:k≤1000000)(hsl:SlU 298 2 s sl cs k)(hfr:∀ q m c,sl = .slice (some q) m c→q.block<s.next)
  (h:∀ s',s'.next=s.next+2→s'.at' (s.next+1)=some (.cells (cs ++ [.int .i64 (q:Int),.slice a n c]) 298 true)→(∀ b,b<s.next→(∀ q n c,sl = .slice (some q) n c→b≠q.block)→s'.at' b=s.at' b)→K (.slice (some ⟨s.next+1,0,none⟩) (k+1) UNK) s') :
  wch (capp prog #[241,241] #[sl,.slice (some ⟨s.next,0,none⟩) 1 1] (s.new (.cells [.int .i64 (q:Int),.slice a n c] 298 true))) K:=by
 obtain⟨ie,hie,h1,h2,h3⟩:=infoShape
 have hcapp:capp prog #[241,241] #[sl,.slice (some ⟨s.next,0,none⟩) 1 1] (s.new (.cells [.int .i64 (q:Int),.slice a n c] 298 true))=capp3 prog 298 ie sl (s.new (.cells [.int .i64 (q:Int),.slice a n c] 298 true)) (cmore ie.size (.slice (some ⟨s.next,0,none⟩) 1 1) (s.new (.cells [.int .i64 (q:Int),.slice a n c] 298 true))):=
  app_eq underlying241 underlying241 hie
 have hv:cmore ie.size (.slice (some ⟨s.next,0,none⟩) 1 1) (s.new (.cells [.int .i64 (q:Int),.slice a n c] 298 true))=some (1,[.int .i64 (q:Int),.slice a n c]):=by
  simp only[more_at,aN,if_true,more2,h1];rfl
 obtain⟨s',h3,h4,h5,h6⟩:=app_rowU (n:=k) (k:=1) hie ze298 (by rw[h1];rfl) h2 hcapp oM (by
  have:(k+1)*ie.bytes≤1000001*100:=Nat.mul_le_mul oM h3
  omega) rfl hv (by rw[h1];exact hsl.same fun q m c e=>by rw[aN,if_neg (by have:=hfr q m c e;omega)])
 refine⟨_,s',h3,h s' (by simp at h4;omega) h5 fun b hb hq=>?_⟩
 rw[h6 b (by simp;omega) hq,aN,if_neg oM]
theorem growF_out{F:List Sh}{most:Nat}{t:Sh}(h:t ∉ F)(hm:¬ F.length<most):growF F most t=F∧growN F most t=0:=by
 unfold growF growN
 rw[if_neg h,if_neg h,if_neg hm,if_neg hm];exact⟨rfl,rfl⟩
theorem growF_new{F:List Sh}{most:Nat}{t:Sh}(h:t ∉ F)(hm:F.length<most):growF F most t=F ++ [t]∧growN F most t=F.length+1:=by
 unfold growF growN
 rw[if_neg h,if_neg h,if_pos hm,if_pos hm];exact⟨rfl,rfl⟩
theorem growF_old{F:List Sh}{most:Nat}(hF:FOk F){t:Sh}{k:Nat}(h:F[k]?=some t):growF F most t=F∧growN F most t=k+1:=by
 have hm:=List.mem_of_getElem? h
 have:=hF.is h
 unfold shIs at this
 rw[if_pos hm]at this
 unfold growF growN
 rw[if_pos hm,if_pos hm]
 exact⟨rfl,Option.some.inj this⟩
theorem rof_spec{lo p q:Nat}{l:List Nat}{F:List Sh}{most:Nat}{O:Nat→Prop}{v:Value}(hF:RFAt lo s p F most O)(hlo:lo≤s.next)(hv:SlI s v l.reverse)(hvO:∀ q n c,v = .slice (some q) n c→lo≤q.block∧q.block<s.next∧¬ O q.block)(hnd:l.Nodup)(hl12:l.length≤12)(hup:∀ x r,l=x::r→(q,r)∈F)
  (hR:∀ s' O',RFAt lo s' p (growF F most (q,l)) most O'→s.next≤s'.next→(∀ b,b<s.next→¬ O b→s'.at' b=s.at' b)→(∀ b,O' b→O b∨s.next≤b∨∃ q n c,v = .slice (some q) n c∧b=q.block)→(∀ i v,i<F.length→NmOf s p i v→NmOf s' p i v)→R (.int .i64 (growN F most (q,l):Int)) s') :
  QC prog w0 237 #[.pointer (some ⟨p,0,none⟩),.agg #[.int .i64 (q:Int),v]] s R:=by
 obtain⟨va,vc,rfl⟩:=hv.form
 refine wfun2 hmix ok237 func237 rfl ntmps237 results237 (by simp) ?_
 have hF0:=hF
 obtain⟨h1,h2,h3,h4,sl,nm,h5,h6,h7,h8⟩:=hF
 have hpn:=(h1 p h2).2
 have hpne:¬ p=s.next:=oM
 have l1:s.le (s.new (.cells [.int .i64 (q:Int),.slice va l.reverse.length vc] 298 true)):=lN (lR _)
 have hF1:=hF0.le' l1
 obtain⟨sa,sc,rfl⟩:∃ a c,sl = .slice a F.length c:=by
  rcases h6.form with ⟨e0,rfl⟩|⟨b,rfl⟩
  ·exact⟨none,0,by rw[e0]⟩
  ·exact⟨_,_,rfl⟩
 simp only[↓Zd,Zp,Zs,simprocAttr,REx]
 refine wloop_inv hmix (fun fuel env s1=>∃ k:Nat,fuel=F.length - k∧k≤F.length∧env 5 = .int .i64 (k:Int)∧env 0 = .pointer (some ⟨p,0,none⟩)∧env 3 = .pointer (some ⟨s.next,0,none⟩)∧s1=s.new (.cells [.int .i64 (q:Int),.slice va l.reverse.length vc] 298 true)∧∀ i,i<k→F[i]?≠some (q,l)) F.length ⟨0,rfl,oM,rfl,rfl,rfl,rfl,fun i hi=>oM⟩ ?_
 rintro fuel env s1 ⟨k,rfl,hk,e5,e0,e3,rfl,hno⟩
 by_cases hkl:(k:Int)<(F.length:Int)
 case pos =>
  have hkF:k<F.length:=oM
  obtain⟨t,ht⟩:∃ t,F[k]?=some t:=⟨F[k],by simp[hkF]⟩
  obtain⟨g1,g2⟩:=h8 k t ht
  rcases h6 with ⟨e,_⟩|⟨b,junk,e,hb,hlb⟩
  ·omega
  cases e
  have hbn:=(h1 _ (h7 _ _ _ rfl).1).2
  simp only at hbn
  have hbne:¬ b=s.next:=oM
  have f0:=rows_get (rshC_len F nm) (n:=F.length) junk hkF (show 0<2 by omega)
  have f1:=rows_get (rshC_len F nm) (n:=F.length) junk hkF (show 1<2 by omega)
  rw[rshC_at ht]at f0 f1
  have hkk:(0:Int)≤(k:Int)∧(k:Int)<(F.length:Int):=oM
  have w1:IntKind.i64.wrap ((k:Int)+1)=((k+1:Nat):Int):=by rw[wrap_i64 oM];omega
  obtain⟨na,nc,hnm⟩:=g1.form
  by_cases hq:((t.1:Nat):Int)=(q:Int)
  case neg =>
   simp only[↓Zd,Zp,Zr,simprocAttr,cld2,HEx,REx,e5,e0,e3,h5,hpne,hkl,hkk,hb,hbne,f0,hq,w1,ord237]
   refine⟨F.length - (k+1),oM,k+1,rfl,oM,rfl,fun i hi=>?_⟩
   by_cases e:i=k
   ·subst e
    rw[ht]
    intro e2
    cases e2
    exact hq rfl
   ·exact hno i oM
  rw[hnm]at f1
  simp only[↓Zd,Zp,Zr,simprocAttr,cld2,HEx,REx,e5,e0,e3,h5,hpne,hkl,hkk,hb,hbne,f0,f1,hq,ord237,co275]
  have hl1:t.2.reverse.length≤1000000:=by have:=(h3.names k t.1 t.2 ht).2;simp;omega
  refine rlsame_spec (a:=t.2.reverse) (b:=l.reverse) (by rw[← hnm];exact g1.same fun q n c e=>by have:=(h1 _ (g2 q n c e).1).2;rw[aN,if_neg oM]) (hv.same fun q n c e=>by have:=(hvO q n c e).2.1;rw[aN,if_neg oM]) hl1 (by simp;omega) ?_
  by_cases hll:t.2.reverse=l.reverse
  case pos =>
   have hte:t=(q,l):=by
    obtain⟨t1,t2⟩:=t
    simp only at hll hq
    rw[List.reverse_inj.1 hll,show t1=q by omega]
   subst hte
   obtain⟨gF,gN⟩:=growF_old (most:=most) h3 ht
   rw[gF,gN]at hR
   rw[hll]
   simp only[↓Zd,Zp,simprocAttr,HEx,e5,w1]
   exact hR _ O hF1 l1.1 (fun b hb _=>l1.2 b hb) (fun b hb => .inl hb) (fun i v _ h=>h.same hF0 fun b hb=>l1.2 b (hF0.own b hb).2)
  have hdf:decide (t.2.reverse=l.reverse)=false:=by simpa using hll
  rw[hdf]
  simp only[↓Zd,Zp,simprocAttr,HEx,e5,e0,e3,w1]
  refine⟨F.length - (k+1),oM,k+1,rfl,oM,rfl,fun i hi=>?_⟩
  by_cases e:i=k
  ·subst e
   rw[ht]
   intro e2
   cases e2
   exact hll rfl
  ·exact hno i oM
 have hnm:(q,l) ∉ F:=fun hm=>by
  obtain⟨i,hi⟩:=List.getElem?_of_mem hm
  exact hno i (by have:=(List.getElem?_eq_some_iff.1 hi).1;omega) hi
 by_cases hmx:(most:Int)≤(F.length:Int)
 case pos =>
  obtain⟨gF,gN⟩:=growF_out (most:=most) hnm oM
  rw[gF,gN]at hR
  simp only[↓Zd,Zp,simprocAttr,cld2,HEx,REx,e5,e0,h5,hpne,hkl,hmx,ord237]
  exact hR _ O hF1 l1.1 (fun b hb _=>l1.2 b hb) (fun b hb => .inl hb) (fun i v _ h=>h.same hF0 fun b hb=>l1.2 b (hF0.own b hb).2)
 obtain⟨gF,gN⟩:=growF_new (most:=most) hnm oM
 rw[gF,gN]at hR
 simp only[↓Zd,Zp,Zs,simprocAttr,HEx,REx,e5,e0,e3,h5,hpne,hkl,hmx,rowShape q (.bool true) va l.reverse.length vc,ord237]
 refine wch_app_shape oM (h6.same fun q n c e=>by have:=(h1 _ (h7 q n c e).1).2;rw[aN,if_neg oM]) (fun q n c e=>by have:=(h1 _ (h7 q n c e).1).2;simp only[nN];omega) fun s5 hn5 hb5 hk5=>?_
 simp only[nN]at hn5 hb5 hk5
 have hp5:s5.at' p=some (.cells [.slice sa F.length sc,.int .i64 (most:Int)] 243 true):=by
  rw[hk5 p oM (fun q n c e e2=>(h7 q n c e).2 e2.symm),aN,if_neg hpne];exact h5
 simp only[↓Zd,Zp,Zs,simprocAttr,REx,e0,hp5]
 have hrow:rows (rshC (F ++ [(q,l)]) (fun i=>if i=F.length then .slice va l.reverse.length vc else nm i)) (F.length+1)=rows (rshC F nm) F.length ++ [.int .i64 (q:Int),.slice va l.reverse.length vc]:=by
  rw[rows_succ]
  congr 1
  ·apply rows_congr
   intro i hi
   have e:F[i]?=some F[i]:=List.getElem?_eq_getElem hi
   rw[rshC_at e,rshC_at (t:=F[i]) (by rw[List.getElem?_append_left hi,e]),if_neg oM]
  ·rw[rshC_at (t:=(q,l)) (by simp),if_pos rfl]
 have hin:(F ++ [(q,l)]).length=F.length+1:=by simp
 refine hR _ (fun b=>O b∨b=s.next+2∨∃ q n c,Value.slice va l.reverse.length vc = .slice (some q) n c∧b=q.block) ⟨?_,.inl h2,h3.app hnm hnd hl12 hup,⟨by rw[hin];omega,h4.2⟩,.slice (some ⟨s.next+2,0,none⟩) (F.length+1) UNK,(fun i=>if i=F.length then .slice va l.reverse.length vc else nm i),?_,?_,?_,?_⟩ (by simp only[nU];omega) ?_ ?_ ?_
 ·rintro b (hb|rfl|⟨q0,n0,c0,e,rfl⟩)
  ·have:=h1 b hb;simp only[nU];omega
  ·simp only[nU];omega
  ·have:=hvO q0 n0 c0 e;simp only[nU];omega
 ·rw[aP,if_pos rfl]
 ·rw[hin]
  exact .inr ⟨s.next+2,[],rfl,by rw[aP,if_neg oM,hrow,List.append_nil];exact hb5,rows_len (rshC_len _ _) _⟩
 ·intro q0 n0 c0 e
  cases e
  exact⟨.inr (.inl rfl),by show s.next+2≠p;omega⟩
 ·intro i t ht
  have hold:∀ c,c<s.next→c≠p→(∀ q n k,Value.slice sa F.length sc = .slice (some q) n k→c≠q.block)→(s5.put p (.cells [.slice (some ⟨s.next+2,0,none⟩) (F.length+1) UNK,.int .i64 (most:Int)] 243 true)).at' c=s.at' c:=fun c hc hcp hcs=>by
   rw[aP,if_neg hcp,hk5 c oM hcs,aN,if_neg oM]
  by_cases hi:i<F.length
  ·rw[List.getElem?_append_left hi]at ht
   obtain⟨g1,g2⟩:=h8 i t ht
   simp only[if_neg (show ¬ i=F.length by omega)]
   refine⟨g1.same fun q0 n0 c0 e=>hold _ (h1 _ (g2 q0 n0 c0 e).1).2 (g2 q0 n0 c0 e).2.1 (g2 q0 n0 c0 e).2.2,fun q0 n0 c0 e=>⟨.inl (g2 q0 n0 c0 e).1,(g2 q0 n0 c0 e).2.1,fun q' n' c' e'=>?_⟩⟩
   cases e'
   have:=(h1 _ (g2 q0 n0 c0 e).1).2
   show q0.block≠s.next+2
   omega
  ·have hil:i=F.length:=by
    have:=(List.getElem?_eq_some_iff.1 ht).1
    simp at this;omega
   subst hil
   rw[List.getElem?_append_right (Nat.le_refl _),Nat.sub_self]at ht
   simp at ht
   subst ht
   simp only[if_true]
   refine⟨hv.same fun q0 n0 c0 e=>hold _ (hvO q0 n0 c0 e).2.1 (fun e2=>(hvO q0 n0 c0 e).2.2 (e2▸h2)) (fun q' n' c' e' e2=>(hvO q0 n0 c0 e).2.2 (by rw[e2];exact (h7 q' n' c' e').1)),fun q0 n0 c0 e=>⟨.inr (.inr ⟨q0,n0,c0,e,rfl⟩),fun e2=>(hvO q0 n0 c0 e).2.2 (e2▸h2),fun q' n' c' e'=>?_⟩⟩
   cases e'
   have:=(hvO q0 n0 c0 e).2.1
   show q0.block≠s.next+2
   omega
 ·intro b hb hno
  rw[aP,if_neg (fun e:b=p=>hno (e▸h2)),hk5 b oM (fun q n c e e2=>hno (by rw[e2];exact (h7 q n c e).1)),aN,if_neg oM]
 ·rintro b (hb|rfl|hb)
  ·exact .inl hb
  ·exact .inr (.inl oM)
  ·exact .inr (.inr hb)
 ·intro i v hi hv
  obtain⟨sl',m,b,vs,own,n,c,g1,g2,g3,g4⟩:=hv
  rw[h5]at g1
  cases g1
  rcases h6 with ⟨e,_⟩|⟨b',junk,e,hb,hlb⟩
  ·omega
  cases e
  cases g2
  rw[hb]at g3
  cases g3
  refine⟨_,_,s.next+2,_,true,_,_,by rw[aP,if_pos rfl],rfl,by rw[aP,if_neg oM];exact hb5,?_⟩
  have f1:=rows_get (rshC_len F nm) (n:=F.length) junk hi (show 1<2 by omega)
  have f2:=rows_get (rshC_len F nm) (n:=F.length) [.int .i64 (q:Int),.slice va l.reverse.length vc] hi (show 1<2 by omega)
  rw[f2,← f1];exact g4
theorem rroot_spec{lo p q:Nat}{F:List Sh}{most:Nat}{O:Nat→Prop}(hF:RFAt lo s p F most O)(hlo:lo≤s.next)
  (hR:∀ s' O',RFAt lo s' p (growF F most (q,[])) most O'→Upd s s' O O'→(∀ i v,i<F.length→NmOf s p i v→NmOf s' p i v)→R (.int .i64 (growN F most (q,[]):Int)) s'):QC prog w0 179 #[.pointer (some ⟨p,0,none⟩),.int .i64 (q:Int)] s R:=by
 refine wfun2 hmix ok179 func179 rfl ntmps179 results179 (by simp) ?_
 have hq:¬ (q:Int)<0:=oM
 have hbS:cbuild prog 298 #[(0,.int .i64 (q:Int))]=some (.agg #[.int .i64 (q:Int),.slice none 0 0]):=oK
 simp only[↓Zd,Zp,simprocAttr,hq,hbS,co237]
 refine rof_spec (l:=[]) hF hlo (.inl ⟨rfl,rfl,rfl⟩) (fun q n c e=>by cases e) List.nodup_nil (by simp) (fun x r e=>by cases e) fun s1 O1 hF1 hn1 hk1 ho1 hnm1=>?_
 simp only[↓Zd,Zp,simprocAttr,HEx]
 refine hR _ O1 hF1 ⟨hn1,hk1,fun b hb=>?_⟩ hnm1
 rcases ho1 b hb with h|h|⟨q,n,c,e,_⟩
 ·exact .inl h
 ·exact .inr h
 ·cases e
end
theorem slotL_of:∀ {l:List Nat},l.Nodup→∀ {k x:Nat},l.reverse[k]?=some x→slotL l x=(k:Int):=by
 intro l
 induction l with
 |nil=>intro _ k x h;simp at h
 |cons y r ih =>
  intro hn k x h
  simp only[List.nodup_cons]at hn
  rw[List.reverse_cons]at h
  unfold slotL
  by_cases hk:k<r.length
  ·rw[List.getElem?_append_left (by simpa using hk)]at h
   have hm:x∈r:=by simpa using List.mem_of_getElem? h
   rw[if_neg (fun e:y=x=>hn.1 (by rw[e];exact hm))]
   exact ih hn.2 h
  ·rw[List.getElem?_append_right (by simp;omega)]at h
   have h0:k - r.reverse.length=0:=by
    have:=(List.getElem?_eq_some_iff.1 h).1
    simp at this ⊢;omega
   rw[h0]at h
   simp at h
   rw[if_pos h]
   simp at h0
   omega
theorem ints_ok(l:List Nat):(ints l).all qC=true:=by
 simp[ints,Zs]
section
variable {lo p most:Nat}{F:List Sh}{O:Nat→Prop}
theorem RFAt.get(hF:RFAt lo s p F most O){j:Nat}{t:Sh}(ht:F[j]?=some t):∃ b vs own mv nm,s.at' p=some (.cells [.slice (some ⟨b,0,none⟩) F.length UNK,.int .i64 (mv:Int)] 243 true)∧s.at' b=some (.cells vs 298 own)∧vs[j*2]?=some (.int .i64 ((t.1:Nat):Int))∧vs[j*2+1]?=some nm∧SlI s nm t.2.reverse∧(∀ q n c,nm = .slice (some q) n c→O q.block)∧O b∧NmOf s p j nm:=by
 obtain⟨h1,h2,h3,h4,sl,nm,h5,h6,h7,h8⟩:=hF
 have hj:=(List.getElem?_eq_some_iff.1 ht).1
 rcases h6 with ⟨e,_⟩|⟨b,junk,rfl,hb,hlb⟩
 ·omega
 have f0:=rows_get (rshC_len F nm) (n:=F.length) junk hj (show 0<2 by omega)
 have f1:=rows_get (rshC_len F nm) (n:=F.length) junk hj (show 1<2 by omega)
 rw[rshC_at ht]at f0 f1
 obtain⟨g1,g2⟩:=h8 j t ht
 exact⟨b,_,_,most,nm j,h5,hb,f0,f1,g1,fun q n c e=>(g2 q n c e).1,(h7 _ _ _ rfl).1,_,_,b,_,_,_,_,h5,rfl,hb,f1⟩
theorem shAt_ix{i:Int}{t:Sh}(h:shAt F i=some t):∃ j:Nat,i=((j+1:Nat):Int)∧j<F.length∧F[j]?=some t:=by
 unfold shAt at h
 split at h
 ·exact⟨i.toNat - 1,oM,(List.getElem?_eq_some_iff.1 h).1,h⟩
 ·cases h
theorem rfnames_spec{i:Int}(hF:RFAt lo s p F most O)(hi : -9223372036854775808≤i∧i≤9223372036854775807)(hR:∀ v,SlI s v (namesOf F i).reverse→(∀ q n c,v = .slice (some q) n c→O q.block)→R v s):QC prog w0 257 #[.pointer (some ⟨p,0,none⟩),.int .i64 i] s R:=by
 refine wfun2 hmix ok257 func257 rfl ntmps257 results257 (by simp) ?_
 simp only[↓Zd,Zp,simprocAttr,co239]
 refine rfhas_spec hF ?_
 cases ht:shAt F i with
 |none =>
  have e0:namesOf F i=[]:=by unfold namesOf;rw[ht]
  rw[e0]at hR
  simp only[↓Zd,Zp,simprocAttr,HEx]
  exact hR _ (.inl ⟨rfl,rfl,rfl⟩) (fun q n c e=>by cases e)
 |some t =>
  have e0:namesOf F i=t.2:=by unfold namesOf;rw[ht]
  rw[e0]at hR
  obtain⟨j,rfl,hj,hFj⟩:=shAt_ix ht
  obtain⟨b,vs,own,mv,nm,g1,g2,g3,g4,g5,g6,g7,g8⟩:=hF.get hFj
  have w1:IntKind.i64.wrap (((j+1:Nat):Int) - 1)=(j:Int):=by rw[wrap_i64 oM];omega
  have hkk:(0:Int)≤(j:Int)∧(j:Int)<(F.length:Int):=oM
  obtain⟨a,c,hnm⟩:=g5.form
  rw[hnm]at g4
  simp only[↓Zd,Zp,simprocAttr,cld2,HEx,REx,g1,g2,g4,w1,hkk]
  rw[← hnm]
  exact hR nm g5 g6
theorem rfslot_spec{i:Int}{x:Nat}(hF:RFAt lo s p F most O)(hi : -9223372036854775808≤i∧i≤9223372036854775807)(hR:R (.int .i64 (slotL (namesOf F i) x)) s):QC prog w0 276 #[.pointer (some ⟨p,0,none⟩),.int .i64 i,.int .i64 (x:Int)] s R:=by
 refine wfun2 hmix ok276 func276 rfl ntmps276 results276 (by simp) ?_
 simp only[↓Zd,Zp,simprocAttr,co239]
 refine rfhas_spec hF ?_
 cases ht:shAt F i with
 |none =>
  have e0:slotL (namesOf F i) x = -1:=by unfold namesOf;rw[ht];rfl
  rw[e0]at hR
  simp only[↓Zd,Zp,simprocAttr,HEx]
  exact hR
 |some t =>
  have e0:namesOf F i=t.2:=by unfold namesOf;rw[ht]
  rw[e0]at hR
  obtain⟨j,rfl,hj,hFj⟩:=shAt_ix ht
  obtain⟨b,vs,own,mv,nm,g1,g2,g3,g4,g5,g6,g7,g8⟩:=hF.get hFj
  obtain⟨hnd,hl12⟩:=hF.ok.names j t.1 t.2 hFj
  have w1:IntKind.i64.wrap (((j+1:Nat):Int) - 1)=(j:Int):=by rw[wrap_i64 oM];omega
  have hkk:(0:Int)≤(j:Int)∧(j:Int)<(F.length:Int):=oM
  obtain⟨a,c,rfl⟩:=g5.form
  simp only[↓Zd,Zp,simprocAttr,cld2,HEx,REx,g1,g2,g4,w1,hkk]
  refine wloop_inv hmix (fun fuel env s1=>∃ k:Nat,fuel=t.2.reverse.length - k∧k≤t.2.reverse.length∧env 8 = .int .i64 (k:Int)∧env 7 = .slice a t.2.reverse.length c∧env 2 = .int .i64 (x:Int)∧s1=s∧∀ i,i<k→t.2.reverse[i]?≠some x) t.2.reverse.length ⟨0,rfl,oM,rfl,rfl,rfl,rfl,fun i hi=>oM⟩ ?_
  rintro fuel env s1 ⟨k,rfl,hk,e8,e7,e2,rfl,hno⟩
  have hkl12:t.2.reverse.length≤12:=by simp;exact hl12
  by_cases hkl:(k:Int)<(t.2.reverse.length:Int)
  case neg =>
   have hneg:slotL t.2 x = -1:=by
    have h1:slotL t.2 x<0:=(slotL_neg t.2 x).2 fun hm=>by
     obtain⟨i,hi⟩:=List.getElem?_of_mem (List.mem_reverse.2 hm)
     exact hno i (by have:=(List.getElem?_eq_some_iff.1 hi).1;omega) hi
    have:=slotL_ge t.2 x
    omega
   rw[hneg]at hR
   simp only[↓Zd,Zp,simprocAttr,REx,e8,e7,hkl]
   exact hR
  obtain⟨bb,vv,oo,eb,hbb,hgb⟩:=g5.get (k:=k) oM
  cases eb
  have hk1:(0:Int)≤(k:Int)∧(k:Int)<(t.2.reverse.length:Int):=oM
  have hks:t.2.reverse[k]?=some (t.2.reverse[k]'oM):=List.getElem?_eq_getElem _
  by_cases he:((t.2.reverse[k]'oM:Nat):Int)=(x:Int)
  case pos =>
   have hx:slotL t.2 x=(k:Int):=slotL_of hnd (by rw[hks];congr 1;omega)
   rw[hx]at hR
   simp only[↓Zd,Zp,simprocAttr,cld2,HEx,REx,e8,e7,e2,hkl,hk1,hbb,hgb,he]
   exact hR
  have wk:IntKind.i64.wrap ((k:Int)+1)=((k+1:Nat):Int):=by rw[wrap_i64 oM];omega
  simp only[↓Zd,Zp,Zr,simprocAttr,cld2,HEx,REx,e8,e7,e2,hkl,hk1,hbb,hgb,he,wk]
  refine⟨t.2.reverse.length - (k+1),oM,k+1,rfl,oM,rfl,fun i hi=>?_⟩
  by_cases e:i=k
  ·subst e
   rw[hks]
   intro e2
   have:=Option.some.inj e2
   exact he oM
  ·exact hno i oM
theorem wch_copy_ints{e:Nat}{v:Value}{l:List Nat}{K:Value→St M→Prop}(he:s.at' e=some (.cells [] 3 true))(hen:e<s.next)(hv:SlI s v l)(hl:l.length≤1000000)
  (h:∀ s' v',s.next≤s'.next→(∀ b,b<s.next→b≠e→s'.at' b=s.at' b)→SlC 3 1 s' v' (ints l) l.length→(∀ q n c,v' = .slice (some q) n c→(q.block=e∨s.next≤q.block)∧q.block<s'.next)→K v' s') :
  wch (capp prog #[88,88] #[.slice (some ⟨e,0,none⟩) 0 0,v] s) K:=by
 obtain⟨ie,hie,h1,h2⟩:=infoInt
 have hcapp:capp prog #[88,88] #[.slice (some ⟨e,0,none⟩) 0 0,v] s=capp3 prog 3 ie (.slice (some ⟨e,0,none⟩) 0 0) s (cmore ie.size v s):=app_eq underlying88 underlying88 hie
 have hvm:cmore ie.size v s=some (l.length,ints l):=by
  rcases hv with ⟨e1,e2,rfl⟩|⟨b,junk,rfl,hb,hlb⟩
  ·rw[more_nil,e1,e2]
  ·rw[more_at]
   simp only[hb,more2,h1]
   have:cut (ints l++junk) 0 (l.length*1)=some (ints l):=by
    unfold cut
    rw[if_pos (by rw[List.length_append,ints_len];omega),List.drop_zero,Nat.mul_one,← ints_len l,List.take_left']
    rfl
   rw[this];rfl
 by_cases h0:l.length=0
 ·refine⟨.slice (some ⟨e,0,none⟩) 0 0,s,?_,?_⟩
  ·rw[hcapp,hvm]
   unfold capp3
   simp only[ints_ok,Bool.true_eq_false,if_false,h0]
   rw[if_neg (by unfold UNK;omega)]
   simp
  ·refine h s _ (Nat.le_refl _) (fun _ _ _=>rfl) ?_ (fun q n c e2=>by cases e2;exact⟨.inl rfl,hen⟩)
   have:l=[]:=List.eq_nil_of_length_eq_zero h0
   subst this
   exact .inr ⟨e,0,rfl,.inr ⟨rfl,by unfold UNK;omega⟩,he,rfl⟩
 ·obtain⟨s',a1,a2,a3,a4⟩:=app_row (n:=0) (k:=l.length) (old:=[]) hie ze3 (by rw[h1];rfl) oM hcapp h0 (by rw[h2];omega) (ints_ok l) hvm (by rw[h1];exact .inr ⟨e,0,rfl,.inr ⟨rfl,by unfold UNK;omega⟩,he,rfl⟩)
  refine⟨_,s',a1,h s' _ oM (fun b hb hbe=>a4 b oM (fun q m c e2=>by cases e2;exact hbe)) ?_ (fun q n c e2=>by cases e2;exact⟨.inr (Nat.le_refl _),by show s.next<s'.next;omega⟩)⟩
  rw[Nat.zero_add]
  exact .inr ⟨s.next,UNK,rfl,.inl rfl,by rw[a3];rfl,by rw[ints_len,Nat.mul_one]⟩
theorem wch_app_intC{s:St M}{sl:Value}{l:List Nat}{x:Nat}{K:Value→St M→Prop}(hlen:l.length≤1000000)(hsl:SlC 3 1 s sl (ints l) l.length)(hfr:∀ q m c,sl = .slice (some q) m c→q.block<s.next)
  (h:∀ s',s'.next=s.next+2→s'.at' (s.next+1)=some (.cells (ints (l ++ [x])) 3 true)→(∀ b,b<s.next→(∀ q m c,sl = .slice (some q) m c→b≠q.block)→s'.at' b=s.at' b)→K (.slice (some ⟨s.next+1,0,none⟩) (l.length+1) UNK) s') :
  wch (capp prog #[88,88] #[sl,.slice (some ⟨s.next,0,none⟩) 1 1] (s.new (.cells [.int .i64 (x:Int)] 3 true))) K:=by
 obtain⟨ie,hie,h1,h2⟩:=infoInt
 have hcapp:capp prog #[88,88] #[sl,.slice (some ⟨s.next,0,none⟩) 1 1] (s.new (.cells [.int .i64 (x:Int)] 3 true))=capp3 prog 3 ie sl (s.new (.cells [.int .i64 (x:Int)] 3 true)) (cmore ie.size (.slice (some ⟨s.next,0,none⟩) 1 1) (s.new (.cells [.int .i64 (x:Int)] 3 true))):=
  app_eq underlying88 underlying88 hie
 have hv:cmore ie.size (.slice (some ⟨s.next,0,none⟩) 1 1) (s.new (.cells [.int .i64 (x:Int)] 3 true))=some (1,[.int .i64 (x:Int)]):=by
  simp only[more_at,aN,if_true,more2,h1];rfl
 obtain⟨s',a1,a2,a3,a4⟩:=app_row (n:=l.length) (k:=1) hie ze3 (by rw[h1];rfl) oM hcapp oM (by rw[h2];omega) rfl hv (by rw[h1];exact hsl.same fun q m c e=>by rw[aN,if_neg (by have:=hfr q m c e;omega)])
 refine⟨_,s',a1,h s' (by simp at a2;omega) (by simpa [ints] using a3) fun b hb hq=>?_⟩
 rw[a4 b (by simp;omega) hq,aN,if_neg oM]
theorem bShape(q:Int)(a:Option Addr)(n c:Nat):cbuild prog 298 #[(0,.int .i64 q),(1,.slice a n c)]=some (.agg #[.int .i64 q,.slice a n c]):=oK
theorem row0:crow prog 88 0 #[]=some (.cells [] 3 true):=oK
theorem rfadd_spec{i:Int}{x:Nat}(hF:RFAt lo s p F most O)(hlo:lo≤s.next)(hi : -9223372036854775808≤i∧i≤9223372036854775807)
  (hR:∀ s' O',RFAt lo s' p (addF F most i x) most O'→Upd s s' O O'→(∀ i v,i<F.length→NmOf s p i v→NmOf s' p i v)→R (.int .i64 (addN F most i x:Int)) s'):QC prog w0 240 #[.pointer (some ⟨p,0,none⟩),.int .i64 i,.int .i64 (x:Int)] s R:=by
 refine wfun2 hmix ok240 func240 rfl ntmps240 results240 (by simp) ?_
 simp only[↓Zd,Zp,simprocAttr,co239]
 refine rfhas_spec hF ?_
 cases ht:shAt F i with
 |none =>
  have hf:addF F most i x=F:=by unfold addF;rw[ht]
  have hg:addN F most i x=0:=by unfold addN;rw[ht]
  rw[hf,hg]at hR
  simp only[↓Zd,Zp,simprocAttr,HEx]
  exact hR _ O hF .refl (fun _ _ _ h=>h)
 |some t =>
  have hf:addF F most i x=if 12≤t.2.length∨x∈t.2 then F else growF F most (t.1,x::t.2):=by unfold addF;rw[ht]
  have hg:addN F most i x=if 12≤t.2.length∨x∈t.2 then 0 else growN F most (t.1,x::t.2):=by unfold addN;rw[ht]
  rw[hf,hg]at hR
  have hno:namesOf F i=t.2:=by unfold namesOf;rw[ht]
  obtain⟨j,rfl,hj,hFj⟩:=shAt_ix ht
  obtain⟨b,vs,own,mv,nm,g1,g2,g3,g4,g5,g6,g7,g8⟩:=hF.get hFj
  obtain⟨hnd,hl12⟩:=hF.ok.names j t.1 t.2 hFj
  have hle:=hF.le
  have w1:IntKind.i64.wrap (((j+1:Nat):Int) - 1)=(j:Int):=by rw[wrap_i64 oM];omega
  have hkk:(0:Int)≤(j:Int)∧(j:Int)<(F.length:Int):=oM
  obtain⟨a,c,rfl⟩:=g5.form
  by_cases h12:(12:Int)≤(t.2.reverse.length:Int)
  ·have h12':12≤t.2.length:=by simp at h12;omega
   rw[if_pos (.inl h12'),if_pos (.inl h12')]at hR
   simp only[↓Zd,Zp,simprocAttr,cld2,HEx,REx,g1,g2,g4,w1,hkk,h12]
   exact hR _ O hF .refl (fun _ _ _ h=>h)
  ·have h12':¬ 12≤t.2.length:=by simp at h12;omega
   simp only[↓Zd,Zp,simprocAttr,cld2,HEx,REx,g1,g2,g4,w1,hkk,h12,co276]
   refine rfslot_spec hF hi ?_
   rw[hno]
   by_cases hx:(0:Int)≤slotL t.2 x
   ·have hm:x∈t.2:=by
     by_cases hm:x∈t.2
     ·exact hm
     ·have:=(slotL_neg t.2 x).2 hm;omega
    rw[if_pos (.inr hm),if_pos (.inr hm)]at hR
    simp only[↓Zd,Zp,simprocAttr,HEx,hx]
    exact hR _ O hF .refl (fun _ _ _ h=>h)
   ·have hm:x ∉ t.2:=(slotL_neg t.2 x).1 oM
    have hor:¬ (12≤t.2.length∨x∈t.2):=by rintro (g|g);exact h12' g;exact hm g
    rw[if_neg hor,if_neg hor]at hR
    have hpn:=(hF.own p hF.pin).2
    have hbn:=(hF.own b g7).2
    have hpne:¬ p=s.next:=oM
    have hbne:¬ b=s.next:=oM
    simp only[↓Zd,Zp,simprocAttr,cld2,HEx,REx,hx,g1,g2,g4,w1,hkk,row0,hpne,hbne]
    have hv1:SlI (s.new (.cells [] 3 true)) (.slice a t.2.reverse.length c) t.2.reverse:=g5.same fun q n c e=>by
     have:=(hF.own _ (g6 q n c e)).2
     rw[aN,if_neg oM]
    refine wch_copy_ints (e:=s.next) (by rw[aN,if_pos rfl]) (by simp only[nN];omega) hv1 (by simp;omega) fun s2 v2 hn2 hk2 hs2 hf2=>?_
    simp only[nN]at hn2 hk2 hf2
    have hold2:∀ c,c<s.next→s2.at' c=s.at' c:=fun c hc=>by rw[hk2 c oM oM,aN,if_neg oM]
    have g12:=(hold2 p hpn).trans g1
    have g22:=(hold2 b hbn).trans g2
    have hF2:RFAt lo s2 p F most O:=hF.same oM fun c hc=>hold2 c (hF.own c hc).2
    obtain⟨a2,c2,rfl⟩:∃ a c,v2 = .slice a t.2.reverse.length c:=by
     rcases hs2 with ⟨e1,_,rfl⟩|⟨b2,c2,rfl,_⟩
     ·exact⟨none,0,by rw[e1]⟩
     ·exact⟨_,_,rfl⟩
    have g30:vs[j*2+0]?=some (.int .i64 ((t.1:Nat):Int)):=g3
    simp only[↓Zd,Zp,simprocAttr,cld2,HEx,REx,g12,g22,g30,w1,hkk,rowInt,ord240]
    refine wch_app_intC (l:=t.2.reverse) (x:=x) (by simp;omega) hs2 (fun q m c e=>(hf2 q m c e).2) fun s3 hn3 hb3 hk3=>?_
    have hold3:∀ c,c<s.next→s3.at' c=s.at' c:=fun c hc=>by
     rw[hk3 c oM (fun q m k e e2=>by rcases (hf2 q m k e).1 with h|h<;>omega),hold2 c hc]
    have g13:=(hold3 p hpn).trans g1
    have g23:=(hold3 b hbn).trans g2
    have hF3:RFAt lo s3 p F most O:=hF.same oM fun c hc=>hold3 c (hF.own c hc).2
    simp only[↓Zd,Zp,simprocAttr,cld2,HEx,REx,g13,g23,g30,bShape,co237]
    have hl:(x::t.2).reverse=t.2.reverse ++ [x]:=List.reverse_cons
    refine rof_spec (l:=x::t.2) hF3 oM (by rw[hl];exact .inr ⟨s2.next+1,[],by simp,by rw[hb3,List.append_nil],by rw[ints_len];simp⟩) (fun q n c e=>by cases e;exact⟨by show lo≤s2.next+1;omega,by show s2.next+1<s3.next;omega,fun hc=>by have:=(hF.own _ hc).2;simp only at this;omega⟩) (List.nodup_cons.2 ⟨hm,hnd⟩) (by simp only[List.length_cons];omega) (fun y r e=>by cases e;exact List.mem_of_getElem? hFj) fun s4 O4 hF4 hn4 hk4 ho4 hm4=>?_
    simp only[↓Zd,Zp,simprocAttr,HEx]
    refine hR _ O4 hF4 ⟨oM,fun c hc hno=>by rw[hk4 c oM hno,hold3 c hc],fun c hc=>?_⟩ (fun i v hi hv=>hm4 i v hi (hv.same hF fun c hc=>hold3 c (hF.own c hc).2))
    rcases ho4 c hc with h|h|⟨q,n,k,e,rfl⟩
    ·exact .inl h
    ·exact .inr oM
    ·cases e
     exact .inr (by show s.next≤s2.next+1;omega)
theorem moveL_zero(most:Nat):∀ (xs:List Nat) (F:List Sh),moveL most xs F 0=(F,0):=by
 intro xs
 induction xs with
 |nil=>intro F;rfl
 |cons x r ih =>
  intro F
  have h0:shAt F ((0:Nat):Int)=none:=shAt_out oM
  have h1:addF F most ((0:Nat):Int) x=F:=by unfold addF;rw[h0]
  have h2:addN F most ((0:Nat):Int) x=0:=by unfold addN;rw[h0]
  show moveL most r (addF F most ((0:Nat):Int) x) (addN F most ((0:Nat):Int) x)=_
  rw[h1,h2,ih]
theorem rfmove_spec{i:Int}{q:Nat}(hF:RFAt lo s p F most O)(hlo:lo≤s.next)(hi : -9223372036854775808≤i∧i≤9223372036854775807)
  (hR:∀ s' O',RFAt lo s' p (moveF F most i q) most O'→Upd s s' O O'→R (.int .i64 (moveN F most i q:Int)) s'):QC prog w0 254 #[.pointer (some ⟨p,0,none⟩),.int .i64 i,.int .i64 (q:Int)] s R:=by
 refine wfun2 hmix ok254 func254 rfl ntmps254 results254 (by simp) ?_
 simp only[↓Zd,Zp,simprocAttr,co239]
 refine rfhas_spec hF ?_
 cases ht:shAt F i with
 |none =>
  have hf:moveF F most i q=F:=by unfold moveF;rw[ht]
  have hg:moveN F most i q=0:=by unfold moveN;rw[ht]
  rw[hf,hg]at hR
  simp only[↓Zd,Zp,simprocAttr,HEx]
  exact hR _ O hF .refl
 |some t =>
  have hf:moveF F most i q=(moveL most t.2.reverse (growF F most (q,[])) (growN F most (q,[]))).1:=by unfold moveF;rw[ht]
  have hg:moveN F most i q=(moveL most t.2.reverse (growF F most (q,[])) (growN F most (q,[]))).2:=by unfold moveN;rw[ht]
  rw[hf,hg]at hR
  obtain⟨j,rfl,hj,hFj⟩:=shAt_ix ht
  obtain⟨b,vs,own,mv,nm,g1,g2,g3,g4,g5,g6,g7,g8⟩:=hF.get hFj
  obtain⟨hnd,hl12⟩:=hF.ok.names j t.1 t.2 hFj
  have hle:=hF.le
  have w1:IntKind.i64.wrap (((j+1:Nat):Int) - 1)=(j:Int):=by rw[wrap_i64 oM];omega
  have hkk:(0:Int)≤(j:Int)∧(j:Int)<(F.length:Int):=oM
  obtain⟨a,c,rfl⟩:=g5.form
  simp only[↓Zd,Zp,simprocAttr,cld2,HEx,REx,g1,g2,g4,w1,hkk,co179]
  refine rroot_spec hF hlo fun s1 O1 hF1 hU1 hm1=>?_
  have hn1:=hU1.next
  have hg150:=growN_le (q,[]) hle
  have hl12r:t.2.reverse.length≤12:=by simp;exact hl12
  simp only[↓Zd,Zp,simprocAttr,HEx]
  refine wloop_inv hmix (fun fuel env s3=>∃ (k u:Nat) (F3:List Sh) (O3:Nat→Prop),fuel=t.2.reverse.length - k∧k≤t.2.reverse.length∧env 9 = .int .i64 (k:Int)∧env 8 = .int .i64 (u:Int)∧env 7 = .slice a t.2.reverse.length c∧env 0 = .pointer (some ⟨p,0,none⟩)∧u≤150∧RFAt lo s3 p F3 most O3∧Upd s s3 O O3∧NmOf s3 p j (.slice a t.2.reverse.length c)∧F3[j]?=some t ∧
   moveL most (t.2.reverse.drop k) F3 u=moveL most t.2.reverse (growF F most (q,[])) (growN F most (q,[]))) t.2.reverse.length ⟨0,growN F most (q,[]),growF F most (q,[]),O1,rfl,oM,rfl,rfl,rfl,rfl,hg150,hF1,hU1,hm1 _ _ hj g8,growF_pre hFj,rfl⟩ ?_
  rintro fuel env s3 ⟨k,u,F3,O3,rfl,hk,e9,e8,e7,e0,hu,hF3,hU3,hnm3,hFj3,hmv⟩
  have hfin:t.2.reverse.length≤k∨u=0→R (.int .i64 (u:Int)) s3:=fun hd=>by
   have hmv2:moveL most (t.2.reverse.drop k) F3 u=(F3,u):=by
    rcases hd with h|h
    ·rw[List.drop_eq_nil_of_le h];rfl
    ·rw[h];exact moveL_zero _ _ _
   rw[hmv2]at hmv
   rw[← hmv]at hR
   exact hR _ O3 hF3 hU3
  by_cases hkl:(k:Int)<(t.2.reverse.length:Int)
  ·by_cases hu0:(0:Int)<(u:Int)
   ·obtain⟨gs,_⟩:=hF3.nm hFj3 hnm3
    obtain⟨bb,vv,oo,eb,hbb,hgb⟩:=gs.get (k:=k) oM
    cases eb
    have hk1:(0:Int)≤(k:Int)∧(k:Int)<(t.2.reverse.length:Int):=oM
    have wk:IntKind.i64.wrap ((k:Int)+1)=((k+1:Nat):Int):=by rw[wrap_i64 oM];omega
    simp only[↓Zd,Zp,simprocAttr,cld2,HEx,REx,e9,e8,e7,e0,hkl,hu0,hk1,hbb,hgb,co240]
    refine rfadd_spec (i:=(u:Int)) hF3 (by have:=hU3.next;omega) oM fun s4 O4 hF4 hU4 hm4=>?_
    have hle3:=hF3.le
    simp only[↓Zd,Zp,simprocAttr,HEx,e9,e7,e0,wk]
    refine⟨t.2.reverse.length - (k+1),oM,k+1,addN F3 most (u:Int) (t.2.reverse[k]'oM),addF F3 most (u:Int) (t.2.reverse[k]'oM),O4,rfl,oM,rfl,rfl,addN_le _ _ hle3,hF4,hU3.trans hU4,hm4 _ _ (List.getElem?_eq_some_iff.1 hFj3).1 hnm3,addF_get hFj3,?_⟩
    rw[← hmv]
    have:t.2.reverse.drop k=t.2.reverse[k]'oM::t.2.reverse.drop (k+1):=List.drop_eq_getElem_cons oM
    rw[this];rfl
   ·simp only[↓Zd,Zp,simprocAttr,REx,e9,e8,e7,hkl,hu0]
    exact hfin (.inr oM)
  ·simp only[↓Zd,Zp,simprocAttr,REx,e9,e8,e7,hkl]
   exact hfin (.inl oM)
end
theorem rslc_to{P:Program}{t e:TypeId}{ie:TypeInfo}(hu:P.underlying t=some (.slice e))(hie:P.info? e=some ie){a:Addr}{n h:Nat}(hh:h≤n):cslice P t (.slice (some a) n UNK) none (some (.int .i64 (h:Int))) none=some (.slice (some a) h UNK):=by
 have hb:cbound (some (.int .i64 (h:Int))) n n=some h:=by
  show (if 0≤(h:Int)∧(h:Int)≤(n:Int) then some (h:Int).toNat else none)=some h
  rw[if_pos ⟨oM,oM⟩,Int.toNat_natCast]
 unfold cslice
 simp only[hu,hie]
 have h0:cbound none UNK (if UNK=UNK then n else UNK)=some n∨True := .inr trivial
 simp only[cbound,if_true,Option.isNone_none,beq_self_eq_true,Bool.and_self,Option.isSome_none,Bool.false_and,Bool.false_eq_true,if_false]
 rw[if_pos ⟨oM,oM⟩,Int.toNat_natCast]
section
variable {lo p most:Nat}{F:List Sh}{O:Nat→Prop}
theorem SlI.less{v:Addr}{l:List Nat}{n:Nat}(h:SlI s (.slice (some v) l.length UNK) l)(hn:n≤l.length):SlI s (.slice (some v) n UNK) (l.take n):=by
 have hl:(l.take n).length=n:=by rw[List.length_take];omega
 rcases h with ⟨_,_,e⟩|⟨b,junk,e,hb,_⟩
 ·cases e
 ·cases e
  refine .inr ⟨b,ints (l.drop n)++junk,by rw[hl],?_,by rw[ints_len,Nat.mul_one]⟩
  rw[hb]
  congr 1
  rw[← List.append_assoc]
  congr 1
  unfold ints
  rw[← List.map_append,List.take_append_drop]
theorem rfparent_spec{i:Int}(hF:RFAt lo s p F most O)(hi : -9223372036854775808≤i∧i≤9223372036854775807)
  (hR:R (.int .i64 (match shAt F i with|some t=>(parId F t:Int)|none=>0)) s):QC prog w0 256 #[.pointer (some ⟨p,0,none⟩),.int .i64 i] s R:=by
 refine wfun2 hmix ok256 func256 rfl ntmps256 results256 (by simp) ?_
 simp only[↓Zd,Zp,simprocAttr,co257]
 refine rfnames_spec hF hi fun v hv hvO=>?_
 cases ht:shAt F i with
 |none =>
  have e0:namesOf F i=[]:=by unfold namesOf;rw[ht]
  rw[e0]at hv
  rw[ht]at hR
  obtain⟨a,c,rfl⟩:=hv.form
  simp only[↓Zd,Zp,simprocAttr,REx,List.reverse_nil]
  exact hR
 |some t =>
  have e0:namesOf F i=t.2:=by unfold namesOf;rw[ht]
  rw[e0]at hv
  rw[ht]at hR
  simp only at hR
  obtain⟨j,rfl,hj,hFj⟩:=shAt_ix ht
  obtain⟨q,l⟩:=t
  obtain⟨hnd,hl12⟩:=hF.ok.names j q l hFj
  have hle:=hF.le
  cases l with
  |nil =>
   obtain⟨a,c,rfl⟩:=hv.form
   simp only[↓Zd,Zp,simprocAttr,REx,List.reverse_nil]
   exact hR
  |cons x r =>
   obtain⟨jp,hjp,hFp,hpar⟩:=hF.ok.par hFj
   have hl:(x::r).reverse.length=r.length+1:=by simp
   rcases hv with ⟨e,_⟩|⟨bv,jv,rfl,hbv,hlv⟩
   ·simp at e
   have hv:SlI s (.slice (some ⟨bv,0,none⟩) (x::r).reverse.length UNK) (x::r).reverse := .inr ⟨bv,jv,rfl,hbv,hlv⟩
   have hz:¬ (((x::r).reverse.length:Nat):Int)=0:=oM
   simp only[List.length_cons]at hl12
   have wl:IntKind.i64.wrap ((((x::r).reverse.length:Nat):Int) - 1)=((r.length:Nat):Int):=by rw[wrap_i64 oM];omega
   have w1:IntKind.i64.wrap (((j+1:Nat):Int) - 1)=(j:Int):=by rw[wrap_i64 oM];omega
   have hkj:(0:Int)≤(j:Int)∧(j:Int)<(F.length:Int):=oM
   obtain⟨ie,hie,_⟩:=infoInt
   have hsl:=rslc_to (P:=prog) (a:=⟨bv,0,none⟩) (n:=(x::r).reverse.length) (h:=r.length) underlying88 hie oM
   have htk:(x::r).reverse.take r.length=r.reverse:=by
    rw[List.reverse_cons,List.take_append_of_le_length (by simp),List.take_of_length_le (by simp)]
   have hless:=hv.less (n:=r.length) oM
   rw[htk]at hless
   simp only[↓Zd,Zp,simprocAttr,REx,hz]
   refine wloop_inv hmix (fun fuel env s1=>∃ k:Nat,fuel=F.length - k∧k≤jp∧env 6 = .int .i64 (k:Int)∧env 0 = .pointer (some ⟨p,0,none⟩)∧env 1 = .int .i64 ((j+1:Nat):Int)∧env 5 = .slice (some ⟨bv,0,none⟩) (x::r).reverse.length UNK∧s1=s) F.length ⟨0,rfl,oM,rfl,rfl,rfl,rfl,rfl⟩ ?_
   rintro fuel env s1 ⟨k,rfl,hk,e6,e0,e1,e5,rfl⟩
   have hkF:k<F.length:=oM
   obtain⟨u,hu⟩:∃ u,F[k]?=some u:=⟨F[k],by simp[hkF]⟩
   obtain⟨b,vs,own,mv,nm,g1,g2,g3,g4,g5,g6,g7,g8⟩:=hF.get hFj
   obtain⟨b2,vs2,own2,mv2,nm2,f1,f2,f3,f4,f5,f6,f7,f8⟩:=hF.get hu
   rw[g1]at f1
   simp only[Option.some.injEq,Blk.cells.injEq,List.cons.injEq,Value.slice.injEq,Addr.mk.injEq,and_true]at f1
   obtain⟨rfl,_⟩:=f1
   rw[g2]at f2
   cases f2
   have hkk:(0:Int)≤(k:Int)∧(k:Int)<(F.length:Int):=oM
   have hkl:(k:Int)<(F.length:Int):=oM
   have wk:IntKind.i64.wrap ((k:Int)+1)=((k+1:Nat):Int):=by rw[wrap_i64 oM];omega
   have f30:vs[k*2+0]?=some (.int .i64 ((u.1:Nat):Int)):=f3
   have g30:vs[j*2+0]?=some (.int .i64 ((q:Nat):Int)):=g3
   have hgo:F[k]?≠some (q,r)→k+1≤jp:=fun hne=>by
    by_cases e:k=jp
    ·subst e;exact absurd hFp hne
    ·omega
   by_cases hq:((u.1:Nat):Int)=((q:Nat):Int)
   case neg =>
    simp only[↓Zd,Zp,simprocAttr,cld2,HEx,REx,e6,e0,e1,e5,g1,g2,hkl,hkk,hkj,w1,f30,g30,hq,wk,ord256]
    exact⟨F.length - (k+1),oM,k+1,rfl,hgo (fun e=>by rw[hu]at e;cases e;exact hq rfl),rfl⟩
   obtain⟨na,nc,rfl⟩:=f5.form
   simp only[↓Zd,Zp,simprocAttr,cld2,HEx,REx,e6,e0,e1,e5,g1,g2,hkl,hkk,hkj,w1,wl,f30,f4,g30,hq,hsl,ord256,co275]
   refine .inl ?_
   refine rlsame_spec f5 hless (by have:=(hF.ok.names k u.1 u.2 hu).2;simp;omega) (by simp;omega) ?_
   by_cases hll:u.2.reverse=r.reverse
   ·have hur:u=(q,r):=by
     obtain⟨u1,u2⟩:=u
     simp only at hll hq
     rw[List.reverse_inj.1 hll,show u1=q by omega]
    subst hur
    have hkp:k=jp:=hF.ok.one hu hFp
    subst hkp
    rw[hpar]at hR
    have hd:decide (r.reverse=r.reverse)=true:=by simp
    rw[hd]
    simp only[↓Zd,Zp,simprocAttr,HEx,e6,wk]
    exact hR
   ·have hd:decide (u.2.reverse=r.reverse)=false:=by simpa using hll
    rw[hd]
    simp only[↓Zd,Zp,simprocAttr,HEx,e6,e0,e1,e5,wk]
    exact⟨F.length - (k+1),oM,k+1,rfl,hgo (fun e=>by rw[hu]at e;cases e;exact hll rfl),rfl⟩
end
theorem idx_drop:∀ (T:List ByteArray) (x:ByteArray) (i:Nat),(∀ j,j<i→T[j]?≠some x)→idxOf T x=(idxOf (T.drop i) x).map (·+i):=by
 intro T;induction T with
 |nil=>intro x i _;simp[idxOf]
 |cons y T ih =>
  intro x i h
  cases i with
  |zero=>simp
  |succ i =>
   have h0:¬ y=x:=by have:=h 0 oM;simpa using this
   rw[idxOf,if_neg h0,ih x i (fun j hj=>by have:=h (j+1) oM;simpa using this),List.drop_succ_cons]
   cases idxOf (T.drop i) x with
   |none=>rfl
   |some j=>simp;omega
theorem idx_pos{T:List ByteArray}{x:ByteArray}{i:Nat}(hlt:i<T.length)(hno:∀ j,j<i→T[j]?≠some x)(he:T[i]=x):idxOf T x=some i:=by
 rw[idx_drop T x i hno,List.drop_eq_getElem_cons hlt,idxOf,if_pos he];simp
theorem idx_end{T:List ByteArray}{x:ByteArray}{i:Nat}(hlt:¬ i<T.length)(hno:∀ j,j<i→T[j]?≠some x):idxOf T x=none:=by
 rw[idx_drop T x i hno,List.drop_eq_nil_of_le oM];rfl
theorem no_more{T:List ByteArray}{x:ByteArray}{i:Nat}(hlt:i<T.length)(hno:∀ j,j<i→T[j]?≠some x)(he:¬ T[i]=x):∀ j,j<i+1→T[j]?≠some x:=by
 intro j hj
 rcases Nat.lt_or_ge j i with h'|h'
 ·exact hno j h'
 ·have:j=i:=oM
  subst this
  simp[hlt,he]
section
theorem slc_form{e:TypeId}{sz:Nat}{v:Value}{cs:List Value}{n:Nat}(h:SlC e sz s v cs n):∃ a c,v = .slice a n c:=by
 rcases h with ⟨e,_,rfl⟩|⟨b,c,rfl,_⟩
 ·exact⟨none,0,by rw[e]⟩
 ·exact⟨_,_,rfl⟩
theorem slc_str{v:Value}{T:List ByteArray}(h:SlC 9 1 s v (T.map .string) T.length){k:Nat}(hk:k<T.length):∃ b c,v = .slice (some ⟨b,0,none⟩) T.length c∧s.at' b=some (.cells (T.map .string) 9 true)∧(T.map Value.string)[k]?=some (.string T[k]):=by
 rcases h with ⟨e,_,rfl⟩|⟨b,c,rfl,_,h9,_⟩
 ·omega
 ·exact⟨b,c,rfl,h9,by simp[hk]⟩
theorem rtfind_spec{p:Nat}{T:List ByteArray}{x:ByteArray}{a b c d sl:Value}(hlen:T.length≤1000000)(h3:s.at' p=some (.cells [a,b,c,d,sl] 156 true))(h7:SlC 9 1 s sl (T.map .string) T.length)
  (h:R (match idxOf T x with|some j => .tuple #[.int .i64 ((j+1:Nat):Int),.bool true]|none => .tuple #[.int .i64 0,.bool false]) s) :
  QC prog w0 277 #[.pointer (some ⟨p,4,none⟩),.string x] s R:=by
 refine wfun2 hmix ok277 func277 rfl ntmps277 results277 (by simp) ?_
 obtain⟨q,cap,rfl⟩:=slc_form h7
 simp only[↓Zd,Zp,simprocAttr]
 refine wloop_inv hmix (fun fuel env s'=>∃ i:Nat,fuel=T.length - i∧i≤T.length∧env 6 = .int .i64 (i:Int)∧env 0 = .pointer (some ⟨p,4,none⟩)∧env 1 = .string x∧s'=s∧∀ j,j<i→T[j]?≠some x) T.length ⟨0,rfl,oM,rfl,rfl,rfl,rfl,fun j hj=>oM⟩ ?_
 rintro fuel env s' ⟨i,rfl,hi,e6,e0,e1,rfl,hno⟩
 by_cases hlt:(i:Int)<(T.length:Int)
 ·have hlt0:i<T.length:=oM
  have hk:(0:Int)≤(i:Int)∧(i:Int)<(T.length:Int):=oM
  have w7:IntKind.i64.wrap ((i:Int)+1)=((i+1:Nat):Int):=by rw[wrap_i64 oM];omega
  obtain⟨bb,cc,eb,h9,hx⟩:=slc_str h7 (k:=i) hlt0
  cases eb
  by_cases he:T[i]=x
  ·rw[idx_pos hlt0 hno he]at h
   simp only[↓Zd,Zp,simprocAttr,cld2,HEx,REx,e0,e1,e6,h3,h9,hlt,hk,hx,he,w7]
   exact h
  ·simp only[↓Zd,Zp,Zr,simprocAttr,cld2,HEx,REx,e0,e1,e6,h3,h9,hlt,hk,hx,he,w7]
   exact⟨T.length - (i+1),oM,i+1,rfl,oM,rfl,no_more hlt0 hno he⟩
 ·rw[idx_end oM hno]at h
  simp only[↓Zd,Zp,simprocAttr,cld2,REx,e0,e6,h3,hlt]
  exact h
theorem rtof_spec{p:Nat}{T:List ByteArray}{x:ByteArray}{a b c d sl:Value}(hp:p<s.next)(hlen:T.length≤1000000)(h3:s.at' p=some (.cells [a,b,c,d,sl] 156 true))(h7:SlC 9 1 s sl (T.map .string) T.length)(h8:∀ q n c,sl = .slice (some q) n c→q.block<s.next∧q.block≠p)
  (h:∀ s' sl',s'.at' p=some (.cells [a,b,c,d,sl'] 156 true)→SlC 9 1 s' sl' ((ofT T x).map .string) (ofT T x).length→s.next≤s'.next→(∀ b,b<s.next→b≠p→(∀ q n c,sl = .slice (some q) n c→b≠q.block)→s'.at' b=s.at' b) →
   (∀ q n c,sl' = .slice (some q) n c→sl=sl'∨(s.next≤q.block∧q.block<s'.next))→R (.int .i64 (ofI T x:Int)) s') :
  QC prog w0 241 #[.pointer (some ⟨p,4,none⟩),.string x] s R:=by
 refine wfun2 hmix ok241 func241 rfl ntmps241 results241 (by simp) ?_
 simp only[↓Zd,Zp,simprocAttr,co277]
 refine rtfind_spec hlen h3 h7 ?_
 cases hi:idxOf T x with
 |some j =>
  have e1:ofI T x=j+1:=by unfold ofI;rw[hi]
  rw[ofT_some hi,e1]at h
  simp only[↓Zd,Zp,simprocAttr,HEx]
  exact h s _ h3 h7 (Nat.le_refl _) (fun _ _ _ _=>rfl) (fun q n c e => .inl rfl)
 |none =>
  have e1:ofI T x=T.length+1:=by unfold ofI;rw[hi]
  rw[ofT_none hi,e1]at h
  obtain⟨s3,happ,hn3,hat3,hk3⟩:=app_str (x:=x) oM h7 (fun q n c e=>(h8 q n c e).1)
  have hp3:s3.at' p=some (.cells [a,b,c,d,sl] 156 true):=by rw[hk3 p hp (fun q n c e=>(h8 q n c e).2.symm)];exact h3
  simp only[↓Zd,Zp,Zs,simprocAttr,HEx,REx,h3,rowStr,happ,hp3]
  refine h _ (.slice (some ⟨s.next+1,0,none⟩) (T.length+1) UNK) ?_ ?_ ?_ ?_ ?_
  ·rw[aP,if_pos rfl]
  ·refine .inr ⟨s.next+1,UNK,by simp,.inl rfl,?_,by simp⟩
   rw[aP,if_neg oM]
   exact hat3
  ·simp only[nU];omega
  ·intro b hb hbp hq
   rw[aP,if_neg hbp]
   exact hk3 b hb hq
  ·intro q n c e
   cases e
   exact .inr ⟨by show s.next≤s.next+1;omega,by show s.next+1<_;simp only[nU];omega⟩
theorem rttext_spec{p:Nat}{T:List ByteArray}{i:Int}{a b c d sl:Value}(hi : -9223372036854775808≤i∧i≤9223372036854775807)(h3:s.at' p=some (.cells [a,b,c,d,sl] 156 true))(h7:SlC 9 1 s sl (T.map .string) T.length)
  (h:R (txtV T i) s):QC prog w0 258 #[.pointer (some ⟨p,4,none⟩),.int .i64 i] s R:=by
 refine wfun2 hmix ok258 func258 rfl ntmps258 results258 (by simp) ?_
 unfold txtV at h
 obtain⟨q,cap,rfl⟩:=slc_form h7
 by_cases i1:i<1
 ·rw[if_neg oM]at h
  simp only[↓Zd,Zp,simprocAttr,i1]
  exact h
 ·by_cases i2:(T.length:Int)<i
  ·rw[if_neg oM]at h
   simp only[↓Zd,Zp,simprocAttr,cld2,REx,h3,i1,i2]
   exact h
  ·rw[if_pos oM]at h
   obtain⟨j,rfl⟩:∃ j:Nat,i=((j+1:Nat):Int):=⟨(i - 1).toNat,oM⟩
   have w1:IntKind.i64.wrap (((j+1:Nat):Int) - 1)=(j:Int):=by rw[wrap_i64 oM];omega
   have hj:(0:Int)≤(j:Int)∧(j:Int)<(T.length:Int):=oM
   obtain⟨bb,cc,eb,h9,hx⟩:=slc_str h7 (k:=j) oM
   cases eb
   have hx2:T[j]'oM=T.getD j ⟨#[]⟩:=by
    have:j<T.length:=oM
    simp[this]
   rw[hx2]at hx
   simp only[↓Zd,Zp,simprocAttr,cld2,HEx,REx,h3,h9,i1,i2,w1,hj,hx]
   simpa using h
end
def atT(T:List ByteArray)(x:ByteArray):Int:=match idxOf T x with
 |some j=>(j:Int)
 |none => -1
def keysP(L:List (ByteArray×V3)):List ByteArray:=L.map (·.1)
theorem keysP_len(L:List (ByteArray×V3)):(keysP L).length=L.length:=by simp[keysP]
theorem getP_at:∀ {L:List (ByteArray×V3)}{x:ByteArray}{j:Nat},idxOf (keysP L) x=some j→∃ v,L[j]?=some (x,v)∧getP L x=some v:=by
 intro L
 induction L with
 |nil=>intro x j h;cases h
 |cons p L ih =>
  intro x j h
  obtain⟨y,w⟩:=p
  have h:(if y=x then some 0 else (idxOf (keysP L) x).map (·+1))=some j:=h
  unfold getP
  by_cases e:y=x
  ·rw[if_pos e]at h
   cases h
   rw[if_pos e]
   exact⟨w,by simp[e],rfl⟩
  ·rw[if_neg e]at h
   rw[if_neg e]
   obtain⟨k,hk,rfl⟩:=Option.map_eq_some_iff.1 h
   obtain⟨v,h1,h2⟩:=ih hk
   exact⟨v,by simpa using h1,h2⟩
theorem getP_no{L:List (ByteArray×V3)}{x:ByteArray}(h:idxOf (keysP L) x=none):getP L x=none:=getP_none.2 (idx_none h)
section
structure ROb(s:St M)(b:Nat)(L:List (ByteArray×V3))(a e f ns vs:Value):Prop where
 bl:s.at' b=some (.cells [a,ns,vs,e,f] 249 true)
 nm:SlC 9 1 s ns ((keysP L).map .string) (keysP L).length
 vl:SlU 31 3 s vs (valsC L) L.length
 few:L.length≤1000
theorem ROb.same{s':St M}{b:Nat}{L:List (ByteArray×V3)}{a e f ns vs:Value}(h:ROb s b L a e f ns vs)(h1:s'.at' b=s.at' b)(h2:∀ q n c,ns = .slice (some q) n c→s'.at' q.block=s.at' q.block)(h3:∀ q n c,vs = .slice (some q) n c→s'.at' q.block=s.at' q.block):ROb s' b L a e f ns vs:=
 ⟨h1.trans h.bl,h.nm.same h2,h.vl.same h3,h.few⟩
structure RFr(s:St M)(b:Nat)(ns vs:Value):Prop where
 bn:b<s.next
 n:∀ q n c,ns = .slice (some q) n c→q.block<s.next∧q.block≠b
 v:∀ q n c,vs = .slice (some q) n c→q.block<s.next∧q.block≠b
 nv:∀ q n c q' n' c',ns = .slice (some q) n c→vs = .slice (some q') n' c'→q.block≠q'.block
theorem ROb.le{s':St M}{b:Nat}{L:List (ByteArray×V3)}{a e f ns vs:Value}(h:ROb s b L a e f ns vs)(hf:RFr s b ns vs)(hs:s.le s'):ROb s' b L a e f ns vs:=
 h.same (hs.2 _ hf.bn) (fun q n c e=>hs.2 _ (hf.n q n c e).1) (fun q n c e=>hs.2 _ (hf.v q n c e).1)
theorem ROb.vform{b:Nat}{L:List (ByteArray×V3)}{a e f ns vs:Value}(h:ROb s b L a e f ns vs):∃ q c,vs = .slice q L.length c:=by
 rcases h.vl with ⟨e0,_,rfl⟩|⟨b,_,rfl,_⟩
 ·exact⟨none,0,by rw[e0]⟩
 ·exact⟨_,_,rfl⟩
theorem rdat_spec{b:Nat}{L:List (ByteArray×V3)}{x:ByteArray}{a e f ns vs:Value}(ho:ROb s b L a e f ns vs)(h:R (.int .i64 (atT (keysP L) x)) s) :
  QC prog w0 238 #[.pointer (some ⟨b,1,none⟩),.string x] s R:=by
 refine wfun2 hmix ok238 func238 rfl ntmps238 results238 (by simp) ?_
 obtain⟨h3,h7,h8,h9⟩:=ho
 have hlen:(keysP L).length≤1000:=by rw[keysP_len];exact h9
 generalize keysP L=T at *
 obtain⟨q,cap,rfl⟩:=slc_form h7
 unfold atT at h
 simp only[↓Zd,Zp,simprocAttr]
 refine wloop_inv hmix (fun fuel env s'=>∃ i:Nat,fuel=T.length - i∧i≤T.length∧env 5 = .int .i64 (i:Int)∧env 0 = .pointer (some ⟨b,1,none⟩)∧env 1 = .string x∧s'=s∧∀ j,j<i→T[j]?≠some x) T.length ⟨0,rfl,oM,rfl,rfl,rfl,rfl,fun j hj=>oM⟩ ?_
 rintro fuel env s' ⟨i,rfl,hi,e5,e0,e1,rfl,hno⟩
 by_cases hlt:(i:Int)<(T.length:Int)
 ·have hlt0:i<T.length:=oM
  have hk:(0:Int)≤(i:Int)∧(i:Int)<(T.length:Int):=oM
  have w7:IntKind.i64.wrap ((i:Int)+1)=((i+1:Nat):Int):=by rw[wrap_i64 oM];omega
  obtain⟨bb,cc,eb,h9,hx⟩:=slc_str h7 (k:=i) hlt0
  cases eb
  by_cases he:T[i]=x
  ·rw[idx_pos hlt0 hno he]at h
   simp only[↓Zd,Zp,simprocAttr,cld2,HEx,REx,e0,e1,e5,h3,h9,hlt,hk,hx,he]
   exact h
  ·simp only[↓Zd,Zp,Zr,simprocAttr,cld2,HEx,REx,e0,e1,e5,h3,h9,hlt,hk,hx,he,w7]
   exact⟨T.length - (i+1),oM,i+1,rfl,oM,rfl,no_more hlt0 hno he⟩
 ·rw[idx_end oM hno]at h
  simp only[↓Zd,Zp,simprocAttr,cld2,REx,e0,e5,h3,hlt]
  exact h
theorem rdget_spec{b:Nat}{L:List (ByteArray×V3)}{x:ByteArray}{a e f ns vs:Value}(ho:ROb s b L a e f ns vs)(hf:RFr s b ns vs)(h:∀ s',s.le s'→R (gotV (getP L x)) s') :
  QC prog w0 182 #[.pointer (some ⟨b,1,none⟩),.string x] s R:=by
 refine wfun2 hmix ok182 func182 rfl ntmps182 results182 (by simp) ?_
 have l1:s.le (s.new (.cells [.int .i64 0,.int .i64 0,.string ⟨#[]⟩] 31 true)):=lN (lR _)
 simp only[↓Zd,Zp,Zs,simprocAttr,HEx,co238]
 refine rdat_spec (ho.le hf l1) ?_
 cases hi:idxOf (keysP L) x with
 |none =>
  rw[getP_no hi]at h
  unfold gotV at h
  have e1:atT (keysP L) x = -1:=by unfold atT;rw[hi]
  rw[e1]
  simp only[↓Zd,Zp,Zs,simprocAttr,HEx]
  exact h _ oL
 |some j =>
  obtain⟨⟨k,n,y⟩,hj,hg⟩:=getP_at hi
  rw[hg]at h
  simp only[gotV,vOf,vA]at h
  have e1:atT (keysP L) x=(j:Int):=by unfold atT;rw[hi]
  rw[e1]
  have hlt:=(List.getElem?_eq_some_iff.1 hj).1
  have hk:(0:Int)≤(j:Int)∧(j:Int)<(L.length:Int):=oM
  have hn:¬ (j:Int)<0:=oM
  have h1:=ho.bl
  have hbn:¬ b=s.next:=by have:=hf.bn;omega
  rcases ho.vl with ⟨e0,_⟩|⟨b2,junk,rfl,hb2,_⟩
  ·omega
  have hb2n:¬ b2=s.next:=by have:=(hf.v _ _ _ rfl).1;simp only at this;omega
  obtain⟨c1,c2⟩:=valsC_cut L j _ _ junk hj
  simp only[↓Zd,Zp,Zs,simprocAttr,HEx,REx,h1,hbn,hn,hk,hb2,hb2n,c1,c2]
  exact h _ oL
theorem rdkey_spec{b:Nat}{L:List (ByteArray×V3)}{i:Int}{a e f ns vs:Value}(ho:ROb s b L a e f ns vs)(h:R (keyV L i) s) :
  QC prog w0 253 #[.pointer (some ⟨b,1,none⟩),.int .i64 i] s R:=by
 refine wfun2 hmix ok253 func253 rfl ntmps253 results253 (by simp) ?_
 obtain⟨h3,h7,h8,h9⟩:=ho
 have hl:=keysP_len L
 unfold keyV at h
 obtain⟨q,cap,rfl⟩:=slc_form h7
 by_cases i1:i<0
 ·rw[if_neg oM]at h
  simp only[↓Zd,Zp,simprocAttr,i1]
  exact h
 ·by_cases i2:((keysP L).length:Int)≤i
  ·rw[if_neg oM]at h
   simp only[↓Zd,Zp,simprocAttr,cld2,REx,h3,i1,i2]
   exact h
  ·rw[if_pos oM]at h
   obtain⟨j,rfl⟩:∃ j:Nat,i=(j:Int):=⟨i.toNat,oM⟩
   have hj:(0:Int)≤(j:Int)∧(j:Int)<((keysP L).length:Int):=oM
   obtain⟨bb,cc,eb,h9,hx⟩:=slc_str h7 (k:=j) oM
   cases eb
   have hx2:(keysP L)[j]'oM=(L.getD j (⟨#[]⟩,0,0,⟨#[]⟩)).1:=by
    have:j<L.length:=oM
    simp[keysP,this]
   rw[hx2]at hx
   rw[Int.toNat_natCast]at h
   simp only[↓Zd,Zp,simprocAttr,cld2,HEx,REx,h3,h9,i1,i2,hj,hx]
   exact h
end
def Hang(b:Nat)(ns vs:Value)(c:Nat):Prop:=c=b∨(∃ q n k,ns = .slice (some q) n k∧c=q.block)∨(∃ q n k,vs = .slice (some q) n k∧c=q.block)
section
theorem RFr.lt{b:Nat}{ns vs:Value}(h:RFr s b ns vs):∀ c,Hang b ns vs c→c<s.next:=by
 rintro c (rfl|⟨q,n,k,e,rfl⟩|⟨q,n,k,e,rfl⟩)
 ·exact h.bn
 ·exact (h.n _ _ _ e).1
 ·exact (h.v _ _ _ e).1
theorem RFr.le{s':St M}{b:Nat}{ns vs:Value}(h:RFr s b ns vs)(hn:s.next≤s'.next):RFr s' b ns vs:=
 ⟨by have:=h.bn;omega,fun q n c e=>⟨by have:=(h.n q n c e).1;omega,(h.n q n c e).2⟩,fun q n c e=>⟨by have:=(h.v q n c e).1;omega,(h.v q n c e).2⟩,h.nv⟩
theorem rdset_spec{b:Nat}{L:List (ByteArray×V3)}{x:ByteArray}{k n:Int}{y:ByteArray}{a e f ns vs:Value}(ho:ROb s b L a e f ns vs)(hf:RFr s b ns vs)(hnd:(L.map (·.1)).Nodup)(hfew:L.length<1000)
  (h:∀ s' ns' vs',ROb s' b (setP L x (k,n,y)) a e f ns' vs'→RFr s' b ns' vs'→Upd s s' (Hang b ns vs) (Hang b ns' vs')→R (.bool (getP L x).isNone) s') :
  QC prog w0 184 #[.pointer (some ⟨b,1,none⟩),.string x,vA k n y] s R:=by
 refine wfun2 hmix ok184 func184 rfl ntmps184 results184 (by simp) ?_
 have l1:s.le (s.new (.cells [.int .i64 k,.int .i64 n,.string y] 31 true)):=lN (lR _)
 have ho1:=ho.le hf l1
 have c7:(s.new (.cells [.int .i64 k,.int .i64 n,.string y] 31 true)).at' s.next=some (.cells [.int .i64 k,.int .i64 n,.string y] 31 true):=by rw[aN,if_pos rfl]
 have n7:(s.new (.cells [.int .i64 k,.int .i64 n,.string y] 31 true)).next=s.next+1:=by simp
 simp only[↓Zd,Zp,Zs,simprocAttr,HEx,vA,co238]
 refine rdat_spec ho1 ?_
 generalize s.new (.cells [.int .i64 k,.int .i64 n,.string y] 31 true)=s1 at *
 have hf1:=hf.le l1.1
 cases hi:idxOf (keysP L) x with
 |some j =>
  obtain⟨w,hj,hg⟩:=getP_at hi
  rw[hg,setP_some hnd hj]at h
  have e1:atT (keysP L) x=(j:Int):=by unfold atT;rw[hi]
  rw[e1]
  have hlt:=(List.getElem?_eq_some_iff.1 hj).1
  have hk:(0:Int)≤(j:Int)∧(j:Int)<(L.length:Int):=oM
  have hn:(0:Int)≤(j:Int):=oM
  have h1:=ho1.bl
  have ho1':=ho1
  rcases ho1.vl with ⟨e0,_⟩|⟨b2,junk,rfl,hb2,hl2⟩
  ·omega
  obtain⟨g1,g2⟩:=hf.v _ _ _ rfl
  simp only at g1 g2
  have hset:=valsC_set L j x (k,n,y) _ junk hj
  obtain⟨c1,c2⟩:=valsC_cut L j _ _ junk hj
  have hne:¬ b2=s.next:=oM
  simp only[↓Zd,Zp,Zs,simprocAttr,HEx,REx,vA,h1,hn,hk,hb2,c1,c7,hset,ord184]
  refine h _ ns (.slice (some ⟨b2,0,none⟩) L.length UNK) ⟨?_,?_,?_,?_⟩ (hf1.le (Nat.le_refl _)) ⟨?_,fun c hc ho=>?_,fun c hc => .inl hc⟩
  ·rw[aP,if_neg (fun e=>g2 e.symm)];exact h1
  ·have hke:keysP (L.set j (x,k,n,y))=keysP L:=keys_set hj
   rw[hke]
   exact ho1.nm.same fun q m c e=>by rw[aP,if_neg (fun e2=>hf.nv _ _ _ _ _ _ e rfl e2)]
  ·rw[List.length_set]
   refine .inr ⟨b2,junk,rfl,?_,?_⟩
   ·rw[aP,if_pos rfl]
   ·rw[valsC_len,List.length_set]
  ·rw[List.length_set];exact ho.few
  ·simp only[nU];omega
  ·rw[aP,if_neg (fun e=>ho (.inr (.inr ⟨_,_,_,rfl,e⟩)))]
   exact l1.2 c hc
 |none =>
  rw[getP_no hi,setP_none _ _ _ (getP_no hi)]at h
  have e1:atT (keysP L) x = -1:=by unfold atT;rw[hi]
  rw[e1]
  have h1:=ho1.bl
  have hkl:=keysP_len L
  obtain⟨s3,happ,hn3,hat3,hk3⟩:=app_str (x:=x) oM ho1.nm (fun q n c e=>(hf1.n q n c e).1)
  have hb3:s3.at' b=some (.cells [a,ns,vs,e,f] 249 true):=by rw[hk3 b hf1.bn (fun q n c e=>(hf.n q n c e).2.symm)];exact h1
  have c73:s3.at' s.next=some (.cells [.int .i64 k,.int .i64 n,.string y] 31 true):=by rw[hk3 _ oM (fun q n c e e2=>by have:=(hf.n q n c e).1;omega)];exact c7
  have hbn:=hf.bn
  have hbne:¬ s.next=b:=oM
  simp only[↓Zd,Zp,Zs,simprocAttr,HEx,REx,vA,h1,rowStr,happ,hb3,c73,hbne,rowVal,ord184]
  have hv3:SlU 31 3 (s3.put b (.cells [a,.slice (some ⟨s1.next+1,0,none⟩) ((keysP L).length+1) UNK,vs,e,f] 249 true)) vs (valsC L) L.length:=ho1.vl.same fun q m c e=>by
   rw[aP,if_neg (hf1.v q m c e).2,hk3 _ (hf1.v q m c e).1 (fun q' m' c' e' e2=>hf.nv _ _ _ _ _ _ e' e e2.symm)]
  have hput:(s3.put b (.cells [a,.slice (some ⟨s1.next+1,0,none⟩) ((keysP L).length+1) UNK,vs,e,f] 249 true)).next=s3.next:=by simp
  refine wch_app_val oM hv3 (fun q m c e=>by have:=(hf1.v q m c e).1;rw[hput];omega) fun s5 hn5 hat5 hk5=>?_
  rw[hput]at hn5 hat5 hk5
  have hb5:s5.at' b=some (.cells [a,.slice (some ⟨s1.next+1,0,none⟩) ((keysP L).length+1) UNK,vs,e,f] 249 true):=by
   rw[hk5 b oM (fun q m c e=>(hf.v q m c e).2.symm),aP,if_pos rfl]
  have hold:∀ c,c<s1.next→c≠b→(∀ q m k,ns = .slice (some q) m k→c≠q.block)→(∀ q m k,vs = .slice (some q) m k→c≠q.block)→s5.at' c=s1.at' c:=fun c hc h1 h2 h3=>by
   rw[hk5 c oM h3,aP,if_neg h1,hk3 c hc h2]
  have hns5:s5.at' (s1.next+1)=some (.cells (List.map Value.string (keysP L ++ [x])) 9 true):=by
   rw[hk5 _ oM (fun q m c e e2=>by have:=(hf1.v q m c e).1;omega),aP,if_neg oM,hat3]
  simp only[↓Zd,Zp,Zs,simprocAttr,HEx,REx,hb5]
  have hke:keysP (L ++ [(x,k,n,y)])=keysP L ++ [x]:=by simp[keysP]
  refine h _ (.slice (some ⟨s1.next+1,0,none⟩) ((keysP L).length+1) UNK) (.slice (some ⟨s3.next+1,0,none⟩) (L.length+1) UNK) ⟨?_,?_,?_,?_⟩ ⟨?_,fun q m c e=>?_,fun q m c e=>?_,fun q m c q' m' c' e e'=>?_⟩ ⟨?_,fun c hc ho=>?_,fun c hc=>?_⟩
  ·rw[aP,if_pos rfl]
  ·rw[hke]
   refine .inr ⟨s1.next+1,UNK,by simp,.inl rfl,?_,by simp⟩
   rw[aP,if_neg oM]
   exact hns5
  ·rw[List.length_append]
   refine .inr ⟨s3.next+1,[],rfl,?_,by rw[valsC_len];simp⟩
   rw[aP,if_neg oM,hat5,valsC_app,List.append_nil]
   rfl
  ·rw[List.length_append];simp only[List.length_cons,List.length_nil];omega
  ·simp only[nU];omega
  ·cases e
   exact⟨by simp only[nU];omega,by show s1.next+1≠b;omega⟩
  ·cases e
   exact⟨by simp only[nU];omega,by show s3.next+1≠b;omega⟩
  ·cases e
   cases e'
   show s1.next+1≠s3.next+1
   omega
  ·simp only[nU];omega
  ·rw[aP,if_neg (fun e=>ho (.inl e)),hold c oM (fun e=>ho (.inl e)) (fun q m k e e2=>ho (.inr (.inl ⟨q,m,k,e,e2⟩))) (fun q m k e e2=>ho (.inr (.inr ⟨q,m,k,e,e2⟩)))]
   exact l1.2 c hc
  ·rcases hc with rfl|⟨q,m,k,e,rfl⟩|⟨q,m,k,e,rfl⟩
   ·exact .inl (.inl rfl)
   ·cases e;exact .inr (by show s.next≤s1.next+1;omega)
   ·cases e;exact .inr (by show s.next≤s3.next+1;omega)
end
theorem delP_at:∀ {L:List (ByteArray×V3)}{x:ByteArray}{j:Nat},idxOf (keysP L) x=some j→delP L x=L.eraseIdx j:=by
 intro L
 induction L with
 |nil=>intro x j h;cases h
 |cons p L ih =>
  intro x j h
  obtain⟨y,w⟩:=p
  have h:(if y=x then some 0 else (idxOf (keysP L) x).map (·+1))=some j:=h
  unfold delP
  by_cases e:y=x
  ·rw[if_pos e]at h
   cases h
   rw[if_pos e];rfl
  ·rw[if_neg e]at h
   rw[if_neg e]
   obtain⟨k,hk,rfl⟩:=Option.map_eq_some_iff.1 h
   rw[ih hk];rfl
theorem er_skip{α:Type}{L:List α}{j:Nat}(h:j<L.length):(L.take (j+1)).eraseIdx j=(L.take j).eraseIdx j:=by
 have e1:(L.take j).eraseIdx j=L.take j:=List.eraseIdx_of_length_le (by rw[List.length_take];omega)
 rw[e1,List.take_add_one,List.getElem?_eq_getElem h]
 show (L.take j ++ [L[j]]).eraseIdx j=_
 rw[List.eraseIdx_append_of_length_le (by rw[List.length_take];omega),List.length_take,show j - min j L.length=0 by omega];simp
theorem er_more{α:Type}{L:List α}{i j:Nat}{u:α}(h:L[i]?=some u)(hne:i≠j):(L.take (i+1)).eraseIdx j=(L.take i).eraseIdx j ++ [u]:=by
 have hi:=(List.getElem?_eq_some_iff.1 h).1
 rw[List.take_add_one,h]
 show (L.take i ++ [u]).eraseIdx j=_
 rcases Nat.lt_or_ge j i with h1|h1
 ·rw[List.eraseIdx_append_of_lt_length (by rw[List.length_take];omega)]
 ·rw[List.eraseIdx_of_length_le (by rw[List.length_append,List.length_take];simp;omega),List.eraseIdx_of_length_le (by rw[List.length_take];omega)]
section
structure DelI(s s':St M)(b:Nat)(E:List (ByteArray×V3))(n6 v7:Value):Prop where
 le:s.le s'
 nm:SlC 9 1 s' n6 ((keysP E).map .string) (keysP E).length
 vl:SlU 31 3 s' v7 (valsC E) E.length
 fr:RFr s' b n6 v7
 nn:∀ q n c,n6 = .slice (some q) n c→s.next≤q.block
 nv:∀ q n c,v7 = .slice (some q) n c→s.next≤q.block
theorem rddel_spec{b j:Nat}{L:List (ByteArray×V3)}{x:ByteArray}{a e f ns vs:Value}(ho:ROb s b L a e f ns vs)(hf:RFr s b ns vs)(hj:idxOf (keysP L) x=some j)
  (h:∀ s' ns' vs',ROb s' b (delP L x) a e f ns' vs'→RFr s' b ns' vs'→Upd s s' (Hang b ns vs) (Hang b ns' vs')→R (.bool true) s') :
  QC prog w0 185 #[.pointer (some ⟨b,1,none⟩),.string x] s R:=by
 refine wfun2 hmix ok185 func185 rfl ntmps185 results185 (by simp) ?_
 rw[delP_at hj]at h
 obtain⟨w,hjL,_⟩:=getP_at hj
 have hjlt:=(List.getElem?_eq_some_iff.1 hjL).1
 have hkl:=keysP_len L
 have hfew:=ho.few
 simp only[↓Zd,Zp,simprocAttr,co238]
 refine rdat_spec ho ?_
 have e1:atT (keysP L) x=(j:Int):=by unfold atT;rw[hj]
 rw[e1]
 obtain⟨qn,cn,en⟩:=slc_form ho.nm
 obtain⟨qv,cv,ev⟩:=ho.vform
 have hbn:=hf.bn
 simp only[↓Zd,Zp,simprocAttr,HEx]
 refine wloop_inv hmix (fun fuel env s'=>∃ (i:Nat) (n6 v7:Value),fuel=L.length - i∧i≤L.length∧env 8 = .int .i64 (i:Int)∧env 5 = .int .i64 (j:Int)∧env 0 = .pointer (some ⟨b,1,none⟩)∧env 6=n6∧env 7=v7∧DelI s s' b ((L.take i).eraseIdx j) n6 v7) L.length
  ⟨0,.slice none 0 0,.slice none 0 0,rfl,oM,rfl,rfl,rfl,rfl,rfl,lR _,.inl ⟨by simp[keysP],by simp[keysP],rfl⟩,.inl ⟨by simp,by simp[valsC],rfl⟩,⟨hbn,(fun q n c e=>by cases e),(fun q n c e=>by cases e),(fun q n c q' n' c' e=>by cases e)⟩,(fun q n c e=>by cases e),(fun q n c e=>by cases e)⟩ ?_
 rintro fuel env s1 ⟨i,n6,v7,rfl,hi,e8,e5,e0,e6,e7,hD⟩
 have ho1:=ho.le hf hD.le
 have h1:=ho1.bl
 by_cases hlt:(i:Int)<((keysP L).length:Int)
 case neg =>
  have hil:i=L.length:=oM
  rw[hil,List.take_length]at hD
  rw[en]at h1
  have hj0:(0:Int)≤(j:Int):=oM
  have hb1:=hD.fr.bn
  obtain⟨q6,c6,rfl⟩:=slc_form hD.nm
  obtain⟨q7,c7,rfl⟩:∃ q c,v7 = .slice q (L.eraseIdx j).length c:=by
   rcases hD.vl.form with ⟨e0,rfl⟩|⟨b2,rfl⟩
   ·exact⟨none,0,by rw[e0]⟩
   ·exact⟨_,_,rfl⟩
  simp only[↓Zd,Zp,Zs,simprocAttr,HEx,REx,e8,e5,e0,e6,e7,h1,hlt,hj0]
  refine h _ _ _ ⟨?_,hD.nm.same fun q m c e=>?_,hD.vl.same fun q m c e=>?_,?_⟩ (hD.fr.le ?_) ⟨?_,fun c hc ho=>?_,fun c hc=>?_⟩
  ·rw[aP,if_pos rfl]
  ·rw[aP,if_neg (hD.fr.n q m c e).2,aP,if_neg (hD.fr.n q m c e).2]
  ·rw[aP,if_neg (hD.fr.v q m c e).2,aP,if_neg (hD.fr.v q m c e).2]
  ·have:=List.length_eraseIdx_le L j;omega
  ·simp only[nU];omega
  ·have:=hD.le.1;simp only[nU];omega
  ·have hcb:¬ c=b:=fun e=>ho (.inl e)
   rw[aP,if_neg hcb,aP,if_neg hcb]
   exact hD.le.2 c hc
  ·rcases hc with rfl|⟨q,m,k,e,rfl⟩|⟨q,m,k,e,rfl⟩
   ·exact .inl (.inl rfl)
   ·exact .inr (hD.nn _ _ _ e)
   ·exact .inr (hD.nv _ _ _ e)
 have hlt0:i<(keysP L).length:=oM
 have hiL:i<L.length:=oM
 have w8:IntKind.i64.wrap ((i:Int)+1)=((i+1:Nat):Int):=by rw[wrap_i64 oM];omega
 by_cases hij:(i:Int)=(j:Int)
 ·have hij':i=j:=oM
  subst hij'
  rw[en]at h1
  simp only[↓Zd,Zp,simprocAttr,cld2,REx,e8,e5,e0,e6,e7,h1,hlt,w8]
  exact⟨L.length - (i+1),oM,i+1,n6,v7,rfl,oM,rfl,rfl,rfl,by rw[er_skip hiL];exact hD⟩
 ·obtain⟨u,hu⟩:∃ u,L[i]?=some u:=⟨L[i],by simp[hiL]⟩
  obtain⟨z,k,n,y⟩:=u
  have her:=er_more hu (show i≠j by omega)
  have hel:((L.take i).eraseIdx j).length≤i:=by have:=List.length_eraseIdx_le (L.take i) j;rw[List.length_take]at this;omega
  generalize (L.take i).eraseIdx j=E at *
  have hkE:=keysP_len E
  obtain⟨bn,cn',eb,hbnm,hx⟩:=slc_str ho1.nm (k:=i) hlt0
  have hz:(keysP L)[i]=z:=by
   have h2:(keysP L)[i]?=some z:=by unfold keysP;rw[List.getElem?_map,hu];rfl
   rw[List.getElem?_eq_getElem hlt0]at h2
   exact Option.some.inj h2
  rw[hz]at hx
  rcases ho1.vl with ⟨e9,_⟩|⟨bv,junk,ev2,hbv,hvl⟩
  ·omega
  subst eb
  subst ev2
  obtain⟨c1,c2⟩:=valsC_cut L i _ _ junk hu
  have hk:(0:Int)≤(i:Int)∧(i:Int)<((keysP L).length:Int):=oM
  have hk2:(0:Int)≤(i:Int)∧(i:Int)<(L.length:Int):=oM
  have hs1:=hD.le.1
  have hbn1:=(hf.n _ _ _ rfl).1
  have hbv1:=(hf.v _ _ _ rfl).1
  simp only at hbn1 hbv1
  obtain⟨s3,happ,hn3,hat3,hk3⟩:=app_str (x:=z) oM hD.nm (fun q n c e=>(hD.fr.n q n c e).1)
  have hold3:∀ c,c<s.next→s3.at' c=s1.at' c:=fun c hc=>hk3 c oM (fun q m k e e2=>by have:=hD.nn _ _ _ e;omega)
  have h13:=(hold3 b hbn).trans h1
  have hbv3:=(hold3 bv hbv1).trans hbv
  have hvl3:SlU 31 3 s3 v7 (valsC E) E.length:=hD.vl.same fun q m c e=>hk3 _ (hD.fr.v q m c e).1 (fun q' m' c' e' e2=>hD.fr.nv _ _ _ _ _ _ e' e e2.symm)
  simp only[↓Zd,Zp,Zs,simprocAttr,HEx,REx,e8,e5,e0,e6,e7,h1,hlt,hk,hk2,hij,hbnm,hx,rowStr,happ,h13,hbv3,c1,c2,rowVal]
  refine wch_app_val oM hvl3 (fun q m c e=>by have:=(hD.fr.v q m c e).1;omega) fun s5 hn5 hat5 hk5=>?_
  have hold5:∀ c,c<s.next→s5.at' c=s1.at' c:=fun c hc=>by
   rw[hk5 c oM (fun q m k e e2=>by have:=hD.nv _ _ _ e;omega),hold3 c hc]
  have hns5:s5.at' (s1.next+1)=some (.cells (List.map Value.string (keysP E ++ [z])) 9 true):=by
   rw[hk5 _ oM (fun q m c e e2=>by have:=(hD.fr.v q m c e).1;omega),hat3]
  simp only[↓Zd,Zp,simprocAttr,e8,e5,e0,w8]
  have hke:keysP (E ++ [(z,k,n,y)])=keysP E ++ [z]:=by simp[keysP]
  refine⟨L.length - (i+1),oM,i+1,_,_,rfl,oM,rfl,rfl,rfl,?_⟩
  rw[her]
  refine⟨⟨oM,fun c hc=>by rw[hold5 c hc];exact hD.le.2 c hc⟩,?_,?_,⟨?_,fun q m c e=>?_,fun q m c e=>?_,fun q m c q' m' c' e e'=>?_⟩,fun q m c e=>?_,fun q m c e=>?_⟩
  ·rw[hke]
   exact .inr ⟨s1.next+1,UNK,by simp,.inl rfl,hns5,by simp⟩
  ·rw[List.length_append]
   refine .inr ⟨s3.next+1,[],rfl,?_,by rw[valsC_len];simp⟩
   rw[hat5,valsC_app,List.append_nil]
   rfl
  ·omega
  ·cases e
   exact⟨by show s1.next+1<s5.next;omega,by show s1.next+1≠b;omega⟩
  ·cases e
   exact⟨by show s3.next+1<s5.next;omega,by show s3.next+1≠b;omega⟩
  ·cases e
   cases e'
   show s1.next+1≠s3.next+1
   omega
  ·cases e
   show s.next≤s1.next+1
   omega
  ·cases e
   show s.next≤s3.next+1
   omega
end
section
structure RObAt(lo:Nat)(s:St M)(N:Nat)(b:Nat)(o:Ob)(O:Nat→Prop):Prop where
 own:∀ c,O c→lo≤c∧c<s.next
 pin:O b
 ep:o.epoch≤N
 bl:∃ ns vs,ROb s b o.L (.int .i64 (o.proto:Int)) (.int .i64 (o.epoch:Int)) (.int .i64 (o.shape:Int)) ns vs∧RFr s b ns vs∧∀ c,Hang b ns vs c→O c
theorem Hang.b{b:Nat}{ns vs:Value}:Hang b ns vs b := .inl rfl
theorem Hang.n{b:Nat}{ns vs:Value}{q:Addr}{n c:Nat}(e:ns = .slice (some q) n c):Hang b ns vs q.block := .inr (.inl ⟨q,n,c,e,rfl⟩)
theorem Hang.v{b:Nat}{ns vs:Value}{q:Addr}{n c:Nat}(e:vs = .slice (some q) n c):Hang b ns vs q.block := .inr (.inr ⟨q,n,c,e,rfl⟩)
theorem RObAt.same{lo:Nat}{s s':St M}{N b:Nat}{o:Ob}{O:Nat→Prop}(h:RObAt lo s N b o O)(hn:s.next≤s'.next)(hs:∀ c,O c→s'.at' c=s.at' c):RObAt lo s' N b o O:=by
 obtain⟨h1,h2,h3,ns,vs,h4,h5,h6⟩:=h
 exact⟨fun c hc=>⟨(h1 c hc).1,by have:=(h1 c hc).2;omega⟩,h2,h3,ns,vs,h4.same (hs _ (h6 _ .b)) (fun q n c e=>hs _ (h6 _ (.n e))) (fun q n c e=>hs _ (h6 _ (.v e))),h5.le hn,h6⟩
theorem RObAt.mono{lo:Nat}{s:St M}{N N' b:Nat}{o:Ob}{O:Nat→Prop}(h:RObAt lo s N b o O)(hN:N≤N'):RObAt lo s N' b o O:=
 ⟨h.own,h.pin,by have:=h.ep;omega,h.bl⟩
structure RHpIn(lo:Nat)(s:St M)(p:Nat)(H:Hp)(N:Nat)(O:Nat→Prop)(tg:Nat→Nat)(pf:Nat)(sl tl:Value)(bs:List Nat):Prop where
 own:∀ b,O b→lo≤b∧b<s.next
 ok:HOk H
 tn:H.T.length≤N
 pin:O p∧tg p=0
 bl:s.at' p=some (.cells [sl,.int .i64 (H.maxO:Int),.int .i64 (H.maxP:Int),.pointer (some ⟨pf,0,none⟩),tl] 156 true)
 row:SlU 245 1 s sl (ptrs bs) bs.length
 rowO:∀ q n c,sl = .slice (some q) n c→O q.block∧tg q.block=0∧q.block≠p
 fo:RFAt lo s pf H.F H.most (fun b=>O b∧tg b=1)
 ta:SlC 9 1 s tl (H.T.map .string) H.T.length
 taO:∀ q n c,tl = .slice (some q) n c→O q.block∧tg q.block=2
 len:bs.length=H.obs.length
 obj:∀ (i b:Nat) (o:Ob),bs[i]?=some b→H.obs[i]?=some o→RObAt lo s N b o (fun c=>O c∧tg c=i+3)
def RHpAt(lo:Nat)(s:St M)(p:Nat)(H:Hp)(N:Nat)(O:Nat→Prop):Prop:=HPro H∧∃ tg pf sl tl bs,RHpIn lo s p H N O tg pf sl tl bs
theorem RHpIn.same{lo:Nat}{s s':St M}{p:Nat}{H:Hp}{N:Nat}{O:Nat→Prop}{tg:Nat→Nat}{pf:Nat}{sl tl:Value}{bs:List Nat}(h:RHpIn lo s p H N O tg pf sl tl bs)(hn:s.next≤s'.next)(hs:∀ c,O c→s'.at' c=s.at' c):RHpIn lo s' p H N O tg pf sl tl bs:=
 ⟨fun b hb=>⟨(h.own b hb).1,by have:=(h.own b hb).2;omega⟩,h.ok,h.tn,h.pin,by rw[hs _ h.pin.1];exact h.bl,h.row.same fun q n c e=>hs _ (h.rowO q n c e).1,h.rowO,h.fo.same hn fun b hb=>hs b hb.1,h.ta.same fun q n c e=>hs _ (h.taO q n c e).1,h.taO,h.len,fun i b o h1 h2=>(h.obj i b o h1 h2).same hn fun c hc=>hs c hc.1⟩
theorem RHpIn.le{lo:Nat}{s s':St M}{p:Nat}{H:Hp}{N:Nat}{O:Nat→Prop}{tg:Nat→Nat}{pf:Nat}{sl tl:Value}{bs:List Nat}(h:RHpIn lo s p H N O tg pf sl tl bs)(hs:s.le s'):RHpIn lo s' p H N O tg pf sl tl bs:=h.same hs.1 fun c hc=>hs.2 c (h.own c hc).2
theorem RHpIn.mono{lo:Nat}{s:St M}{p:Nat}{H:Hp}{N N':Nat}{O:Nat→Prop}{tg:Nat→Nat}{pf:Nat}{sl tl:Value}{bs:List Nat}(h:RHpIn lo s p H N O tg pf sl tl bs)(hN:N≤N'):RHpIn lo s p H N' O tg pf sl tl bs:=
 ⟨h.own,h.ok,by have:=h.tn;omega,h.pin,h.bl,h.row,h.rowO,h.fo,h.ta,h.taO,h.len,fun i b o h1 h2=>(h.obj i b o h1 h2).mono hN⟩
theorem RHpAt.same{lo:Nat}{s s':St M}{p:Nat}{H:Hp}{N:Nat}{O:Nat→Prop}(h:RHpAt lo s p H N O)(hn:s.next≤s'.next)(hs:∀ c,O c→s'.at' c=s.at' c):RHpAt lo s' p H N O:=by
 obtain⟨hp,tg,pf,sl,tl,bs,h⟩:=h
 exact⟨hp,tg,pf,sl,tl,bs,h.same hn hs⟩
theorem RHpAt.own{lo:Nat}{s:St M}{p:Nat}{H:Hp}{N:Nat}{O:Nat→Prop}(h:RHpAt lo s p H N O):∀ b,O b→lo≤b∧b<s.next:=by
 obtain⟨hp,tg,pf,sl,tl,bs,h⟩:=h
 exact h.own
theorem RHpAt.ok{lo:Nat}{s:St M}{p:Nat}{H:Hp}{N:Nat}{O:Nat→Prop}(h:RHpAt lo s p H N O):HOk H:=by
 obtain⟨hp,tg,pf,sl,tl,bs,h⟩:=h
 exact h.ok
theorem RHpAt.le{lo:Nat}{s s':St M}{p:Nat}{H:Hp}{N:Nat}{O:Nat→Prop}(h:RHpAt lo s p H N O)(hs:s.le s'):RHpAt lo s' p H N O:=h.same hs.1 fun c hc=>hs.2 c (h.own c hc).2
theorem RHpAt.mono{lo:Nat}{s:St M}{p:Nat}{H:Hp}{N N':Nat}{O:Nat→Prop}(h:RHpAt lo s p H N O)(hN:N≤N'):RHpAt lo s p H N' O:=by
 obtain⟨hp,tg,pf,sl,tl,bs,h⟩:=h
 exact⟨hp,tg,pf,sl,tl,bs,h.mono hN⟩
theorem RHpIn.newF{lo:Nat}{s s':St M}{p:Nat}{H:Hp}{N:Nat}{O O':Nat→Prop}{tg:Nat→Nat}{pf:Nat}{sl tl:Value}{bs:List Nat}{F':List Sh}(h:RHpIn lo s p H N O tg pf sl tl bs)(hU:Upd s s' (fun b=>O b∧tg b=1) O')(hF:RFAt lo s' pf F' H.most O')(hok:HOk { H with F:=F' }) :
  RHpIn lo s' p { H with F:=F' } N (reO O tg 1 O') (reT tg 1 O') pf sl tl bs:=by
 have hO:∀ b,O b→b<s.next:=fun b hb=>(h.own b hb).2
 have hw:∀ b,O' b→(O b∧tg b=1)∨s.next≤b:=hU.own
 have hk:=re_keep h.own hU
 refine⟨re_own h.own hU.next hF.own,hok,h.tn,re_tag hO hw oM h.pin,?_,h.row.same fun q n c e=>?_,fun q n c e=>?_,?_,h.ta.same fun q n c e=>?_,fun q n c e=>re_tag hO hw oM (h.taO q n c e),h.len,fun i b o h1 h2=>?_⟩
 ·rw[hk p h.pin.1 (by rw[h.pin.2];omega)];exact h.bl
 ·have:=h.rowO q n c e
  exact hk _ this.1 (by rw[this.2.1];omega)
 ·have:=h.rowO q n c e
  have h2:=re_tag hO hw (j:=0) oM ⟨this.1,this.2.1⟩
  exact⟨h2.1,h2.2,this.2.2⟩
 ·rw[re_same];exact hF
 ·have:=h.taO q n c e
  exact hk _ this.1 (by rw[this.2];omega)
 ·rw[re_other hO hw oM]
  exact (h.obj i b o h1 h2).same hU.next fun c hc=>hk c hc.1 (by rw[hc.2];omega)
theorem RHpIn.newO{lo:Nat}{s s':St M}{p:Nat}{H:Hp}{N:Nat}{O O':Nat→Prop}{tg:Nat→Nat}{pf:Nat}{sl tl:Value}{bs:List Nat}{j b:Nat}{o':Ob}(h:RHpIn lo s p H N O tg pf sl tl bs)(hj:j<H.obs.length)(hb:bs[j]?=some b)(hU:Upd s s' (fun b=>O b∧tg b=j+3) O')(hB:RObAt lo s' N b o' O')(hok:HOk { H with obs:=H.obs.set j o' }) :
  RHpIn lo s' p { H with obs:=H.obs.set j o' } N (reO O tg (j+3) O') (reT tg (j+3) O') pf sl tl bs:=by
 have hO:∀ b,O b→b<s.next:=fun b hb=>(h.own b hb).2
 have hw:∀ b,O' b→(O b∧tg b=j+3)∨s.next≤b:=hU.own
 have hk:=re_keep h.own hU
 refine⟨re_own h.own hU.next hB.own,hok,h.tn,re_tag hO hw oM h.pin,?_,h.row.same fun q n c e=>?_,fun q n c e=>?_,?_,h.ta.same fun q n c e=>?_,fun q n c e=>re_tag hO hw oM (h.taO q n c e),by simpa using h.len,fun i b2 o h1 h2=>?_⟩
 ·rw[hk p h.pin.1 (by rw[h.pin.2];omega)];exact h.bl
 ·have:=h.rowO q n c e
  exact hk _ this.1 (by rw[this.2.1];omega)
 ·have:=h.rowO q n c e
  have h2:=re_tag hO hw (j:=0) oM ⟨this.1,this.2.1⟩
  exact⟨h2.1,h2.2,this.2.2⟩
 ·rw[re_other hO hw oM]
  exact h.fo.same hU.next fun b hb=>hk b hb.1 (by rw[hb.2];omega)
 ·have:=h.taO q n c e
  exact hk _ this.1 (by rw[this.2];omega)
 ·by_cases e:j=i
  ·subst e
   rw[hb]at h1
   cases h1
   simp only[List.getElem?_set,if_true,hj]at h2
   cases h2
   rw[re_same];exact hB
  ·simp only[List.getElem?_set,e,if_false]at h2
   rw[re_other hO hw oM]
   exact (h.obj i b2 o h1 h2).same hU.next fun c hc=>hk c hc.1 (by rw[hc.2];omega)
theorem RHpIn.newT{lo:Nat}{s s':St M}{p:Nat}{H:Hp}{N:Nat}{O:Nat→Prop}{tg:Nat→Nat}{pf:Nat}{sl tl tl':Value}{bs:List Nat}{T':List ByteArray}(h:RHpIn lo s p H N O tg pf sl tl bs)(hlo:lo≤s.next)
  (hbl:s'.at' p=some (.cells [sl,.int .i64 (H.maxO:Int),.int .i64 (H.maxP:Int),.pointer (some ⟨pf,0,none⟩),tl'] 156 true))(hta:SlC 9 1 s' tl' (T'.map .string) T'.length)(hn:s.next≤s'.next)
  (hkeep:∀ b,b<s.next→b≠p→(∀ q n c,tl = .slice (some q) n c→b≠q.block)→s'.at' b=s.at' b)(hnew:∀ q n c,tl' = .slice (some q) n c→tl=tl'∨(s.next≤q.block∧q.block<s'.next))(hok:HOk { H with T:=T' })(hTN:T'.length≤N) :
  ∃ O',RHpIn lo s' p { H with T:=T' } N (reO O tg 2 O') (reT tg 2 O') pf sl tl' bs∧Upd s s' O (reO O tg 2 O'):=by
 have hO:∀ b,O b→b<s.next:=fun b hb=>(h.own b hb).2
 have hw:∀ b,(∃ q n c,tl' = .slice (some q) n c∧b=q.block)→(O b∧tg b=2)∨s.next≤b:=by
  rintro b ⟨q,n,c,e,rfl⟩
  rcases hnew q n c e with h1|h1
  ·exact .inl (h.taO q n c (h1.trans e))
  ·exact .inr h1.1
 have hl:∀ b,(∃ q n c,tl' = .slice (some q) n c∧b=q.block)→lo≤b∧b<s'.next:=by
  rintro b ⟨q,n,c,e,rfl⟩
  rcases hnew q n c e with h1|h1
  ·have:=h.own _ (h.taO q n c (h1.trans e)).1;omega
  ·omega
 have hk:∀ b,O b→tg b≠2→b≠p→s'.at' b=s.at' b:=fun b hb ht hp=>hkeep b (hO b hb) hp fun q n c e e2=>ht (e2▸(h.taO q n c e).2)
 refine⟨fun b=>∃ q n c,tl' = .slice (some q) n c∧b=q.block,⟨re_own h.own hn hl,hok,hTN,re_tag hO hw oM h.pin,hbl,h.row.same fun q n c e=>?_,fun q n c e=>?_,?_,hta,fun q n c e=>?_,h.len,fun i b o h1 h2=>?_⟩,hn,fun b hb ho=>?_,fun b hb=>?_⟩
 ·have:=h.rowO q n c e
  exact hk _ this.1 (by rw[this.2.1];omega) this.2.2
 ·have:=h.rowO q n c e
  have h2:=re_tag hO hw (j:=0) oM ⟨this.1,this.2.1⟩
  exact⟨h2.1,h2.2,this.2.2⟩
 ·rw[re_other hO hw oM]
  exact h.fo.same hn fun b hb=>hk b hb.1 (by rw[hb.2];omega) (fun e=>by have:=h.pin.2;rw[← e,hb.2]at this;omega)
 ·have h3:=congrFun (re_same O tg 2 (fun b=>∃ q n c,tl' = .slice (some q) n c∧b=q.block)) q.block
  exact h3.mpr ⟨q,n,c,e,rfl⟩
 ·rw[re_other hO hw oM]
  exact (h.obj i b o h1 h2).same hn fun c hc=>hk c hc.1 (by rw[hc.2];omega) (fun e=>by have:=h.pin.2;rw[← e,hc.2]at this;omega)
 ·exact hkeep b hb (fun e=>ho (e▸h.pin.1)) fun q n c e e2=>ho (e2▸(h.taO q n c e).1)
 ·rcases hb with ⟨h1,_⟩|h1
  ·exact .inl h1
  ·rcases hw b h1 with h2|h2
   ·exact .inl h2.1
   ·exact .inr h2
theorem RHpIn.at{lo:Nat}{s:St M}{p:Nat}{H:Hp}{N:Nat}{O:Nat→Prop}{tg:Nat→Nat}{pf:Nat}{sl tl:Value}{bs:List Nat}(h:RHpIn lo s p H N O tg pf sl tl bs){j:Nat}{o:Ob}(ho:H.obs[j]?=some o) :
  ∃ b br vs own ns vv,bs[j]?=some b∧RObAt lo s N b o (fun c=>O c∧tg c=j+3)∧sl = .slice (some ⟨br,0,none⟩) bs.length UNK∧s.at' br=some (.cells vs 245 own)∧vs[j]?=some (.pointer (some ⟨b,0,none⟩))∧br<s.next ∧
   ROb s b o.L (.int .i64 (o.proto:Int)) (.int .i64 (o.epoch:Int)) (.int .i64 (o.shape:Int)) ns vv∧RFr s b ns vv∧∀ c,Hang b ns vv c→O c∧tg c=j+3:=by
 have hj:=(List.getElem?_eq_some_iff.1 ho).1
 have hb:bs[j]?=some (bs[j]'(by have:=h.len;omega)):=List.getElem?_eq_getElem _
 have hB:=h.obj j _ o hb ho
 obtain⟨ns,vv,h1,h2,h3⟩:=hB.bl
 rcases h.row with ⟨e0,_⟩|⟨br,junk,e,hbr,_⟩
 ·have:=h.len;omega
 ·exact⟨_,br,_,_,ns,vv,hb,hB,e,hbr,ptrs_get junk hb,(h.own _ (h.rowO _ _ _ e).1).2,h1,h2,h3⟩
theorem RHpIn.form{lo:Nat}{s:St M}{p:Nat}{H:Hp}{N:Nat}{O:Nat→Prop}{tg:Nat→Nat}{pf:Nat}{sl tl:Value}{bs:List Nat}(h:RHpIn lo s p H N O tg pf sl tl bs):∃ q c,sl = .slice q H.obs.length c:=by
 rw[← h.len]
 rcases h.row.form with ⟨e0,rfl⟩|⟨b,rfl⟩
 ·exact⟨none,0,by rw[e0]⟩
 ·exact⟨_,_,rfl⟩
end
section
variable {lo p N pf:Nat}{H:Hp}{O:Nat→Prop}{tg:Nat→Nat}{sl tl:Value}{bs:List Nat}
theorem rhas_spec(h:RHpIn lo s p H N O tg pf sl tl bs){i:Int}(hR:R (.bool (obAt H i).isSome) s):QC prog w0 180 #[.pointer (some ⟨p,0,none⟩),.int .i64 i] s R:=by
 refine wfun2 hmix ok180 func180 rfl ntmps180 results180 (by simp) ?_
 have h1:=h.bl
 obtain⟨q,c,rfl⟩:=h.form
 by_cases h0:1≤i
 ·by_cases h2:i≤(H.obs.length:Int)
  ·have e:(obAt H i).isSome=true:=by
    cases hc:obAt H i with
    |none=>exact absurd ⟨h0,h2⟩ (obAt_none.1 hc)
    |some o=>rfl
   rw[e]at hR
   simp only[↓Zd,Zp,simprocAttr,cld2,REx,h1,h0,h2]
   exact hR
  ·have e:(obAt H i).isSome=false:=by rw[obAt_none.2 oM];rfl
   rw[e]at hR
   simp only[↓Zd,Zp,simprocAttr,cld2,REx,h1,h0,h2]
   exact hR
 ·have e:(obAt H i).isSome=false:=by rw[obAt_none.2 oM];rfl
  rw[e]at hR
  simp only[↓Zd,Zp,simprocAttr,h0]
  exact hR
theorem ix_ok{j n:Nat}(h:j<n):(0:Int)≤(j:Int)∧(j:Int)<(n:Int):=oM
theorem RHpIn.w(h:RHpIn lo s p H N O tg pf sl tl bs){j:Nat}(hj:j<H.obs.length):IntKind.i64.wrap (((j+1:Nat):Int) - 1)=(j:Int):=by
 have:=h.ok.lim
 rw[wrap_i64 oM];omega
theorem rproto_spec(h:RHpIn lo s p H N O tg pf sl tl bs){i:Int}(hR:R (.int .i64 (protoV H i)) s):QC prog w0 193 #[.pointer (some ⟨p,0,none⟩),.int .i64 i] s R:=by
 refine wfun2 hmix ok193 func193 rfl ntmps193 results193 (by simp) ?_
 unfold protoV at hR
 simp only[↓Zd,Zp,simprocAttr,co180]
 refine rhas_spec h ?_
 cases ho:obAt H i with
 |none =>
  rw[ho]at hR
  simp only[↓Zd,Zp,simprocAttr,HEx]
  exact hR
 |some o =>
  rw[ho]at hR
  obtain⟨j,rfl,hj,hjo⟩:=obAt_some ho
  obtain⟨b,br,vs,own,ns,vv,hb,hB,rfl,hbr,hg,hbrn,hob,hfr,hO⟩:=h.at hjo
  have h1:=h.bl
  have h2:=hob.bl
  have hk:=ix_ok (n:=bs.length) (j:=j) (by rw[h.len];exact hj)
  have w1:=h.w hj
  simp only[↓Zd,Zp,simprocAttr,cld2,HEx,REx,h1,h2,w1,hk,hbr,hg]
  exact hR
theorem rcount_spec(h:RHpIn lo s p H N O tg pf sl tl bs){i:Int}(hR:R (.int .i64 (countV H i)) s):QC prog w0 191 #[.pointer (some ⟨p,0,none⟩),.int .i64 i] s R:=by
 refine wfun2 hmix ok191 func191 rfl ntmps191 results191 (by simp) ?_
 unfold countV at hR
 simp only[↓Zd,Zp,simprocAttr,co180]
 refine rhas_spec h ?_
 cases ho:obAt H i with
 |none =>
  rw[ho]at hR
  simp only[↓Zd,Zp,simprocAttr,HEx]
  exact hR
 |some o =>
  rw[ho]at hR
  obtain⟨j,rfl,hj,hjo⟩:=obAt_some ho
  obtain⟨b,br,vs,own,ns,vv,hb,hB,rfl,hbr,hg,hbrn,hob,hfr,hO⟩:=h.at hjo
  have h1:=h.bl
  have h2:=hob.bl
  obtain⟨qn,cn,rfl⟩:=slc_form hob.nm
  have hk:=ix_ok (n:=bs.length) (j:=j) (by rw[h.len];exact hj)
  have w1:=h.w hj
  simp only[↓Zd,Zp,simprocAttr,cld2,HEx,REx,h1,h2,w1,hk,hbr,hg,keysP_len]
  exact hR
theorem rkey_spec(h:RHpIn lo s p H N O tg pf sl tl bs){i k:Int}(hR:R (match obAt H i with|some o=>keyV o.L k|none => .tuple #[.string ⟨#[]⟩,.bool false]) s):QC prog w0 192 #[.pointer (some ⟨p,0,none⟩),.int .i64 i,.int .i64 k] s R:=by
 refine wfun2 hmix ok192 func192 rfl ntmps192 results192 (by simp) ?_
 simp only[↓Zd,Zp,simprocAttr,co180]
 refine rhas_spec h ?_
 cases ho:obAt H i with
 |none =>
  rw[ho]at hR
  simp only[↓Zd,Zp,simprocAttr,HEx]
  exact hR
 |some o =>
  rw[ho]at hR
  simp only at hR
  obtain⟨j,rfl,hj,hjo⟩:=obAt_some ho
  obtain⟨b,br,vs,own,ns,vv,hb,hB,rfl,hbr,hg,hbrn,hob,hfr,hO⟩:=h.at hjo
  have h1:=h.bl
  have hk:=ix_ok (n:=bs.length) (j:=j) (by rw[h.len];exact hj)
  have w1:=h.w hj
  simp only[↓Zd,Zp,simprocAttr,cld2,HEx,REx,h1,w1,hk,hbr,hg,co253]
  refine rdkey_spec hob ?_
  unfold keyV at *
  split at hR
  ·rename_i hc
   simp only[if_pos hc]
   simp only[↓Zd,Zp,simprocAttr,HEx]
   exact hR
  ·rename_i hc
   simp only[if_neg hc]
   simp only[↓Zd,Zp,simprocAttr,HEx]
   exact hR
theorem rown_spec(h:RHpIn lo s p H N O tg pf sl tl bs){i:Int}{x:ByteArray}(hR:∀ s',s.le s'→R (gotV ((obAt H i).bind fun o=>getP o.L x)) s'):QC prog w0 181 #[.pointer (some ⟨p,0,none⟩),.int .i64 i,.string x] s R:=by
 refine wfun2 hmix ok181 func181 rfl ntmps181 results181 (by simp) ?_
 have l1:s.le (s.new (.cells [.int .i64 0,.int .i64 0,.string ⟨#[]⟩] 31 true)):=lN (lR _)
 simp only[↓Zd,Zp,Zs,simprocAttr,HEx,co180]
 refine rhas_spec (h.le l1) ?_
 cases ho:obAt H i with
 |none =>
  rw[ho]at hR
  simp only[Option.bind_none,gotV]at hR
  simp only[↓Zd,Zp,Zs,simprocAttr,HEx]
  exact hR _ oL
 |some o =>
  rw[ho]at hR
  simp only[Option.bind_some]at hR
  obtain⟨j,rfl,hj,hjo⟩:=obAt_some ho
  obtain⟨b,br,vs,own,ns,vv,hb,hB,rfl,hbr,hg,hbrn,hob,hfr,hO⟩:=h.at hjo
  have h1:=h.bl
  have hk:=ix_ok (n:=bs.length) (j:=j) (by rw[h.len];exact hj)
  have w1:=h.w hj
  have hpn:¬ p=s.next:=by have:=(h.own p h.pin.1).2;omega
  have hbrn':¬ br=s.next:=oM
  simp only[↓Zd,Zp,simprocAttr,cld2,HEx,REx,h1,hpn,hbrn',w1,hk,hbr,hg,co182]
  refine rdget_spec (hob.le hfr l1) (hfr.le l1.1) fun s2 hs2=>?_
  have hn2:=hs2.1
  simp only[nN]at hn2
  have hle:s.le s2:=lT l1 hs2
  have c6:s2.at' s.next=some (.cells [.int .i64 0,.int .i64 0,.string ⟨#[]⟩] 31 true):=by rw[hs2.2 _ (by simp only[nN];omega),aN,if_pos rfl]
  unfold gotV vOf at *
  cases hgp:getP o.L x with
  |none =>
   rw[hgp]at hR
   simp only at hR
   simp only[↓Zd,Zp,Zs,simprocAttr,HEx,vA,c6]
   exact hR _ (lP hle oM)
  |some v =>
   obtain⟨a1,a2,a3⟩:=v
   rw[hgp]at hR
   simp only[vA]at hR
   simp only[↓Zd,Zp,Zs,simprocAttr,HEx,vA,c6]
   exact hR _ (lP hle oM)
end
theorem countP_lt{α:Type}{p q:α→Bool}:∀ {l:List α},(∀ x∈l,p x=true→q x=true)→(∃ x∈l,q x=true∧p x=false)→l.countP p<l.countP q:=by
 intro l
 have hle:∀ l:List α,(∀ x∈l,p x=true→q x=true)→l.countP p≤l.countP q:=fun l h=>List.countP_mono_left h
 induction l with
 |nil=>intro _ ⟨x,hx,_⟩;cases hx
 |cons y l ih =>
  intro h ⟨x,hx,h1,h2⟩
  have hl:=hle l fun x hx=>h x (List.mem_cons_of_mem _ hx)
  rw[List.countP_cons,List.countP_cons]
  rcases List.mem_cons.1 hx with rfl|hx
  ·rw[h1,h2];simp;omega
  ·have:=ih (fun x hx=>h x (List.mem_cons_of_mem _ hx)) ⟨x,hx,h1,h2⟩
   have hy:=h y List.mem_cons_self
   cases hp:p y with
   |true=>rw[hy hp];simp;omega
   |false=>simp;split<;>omega
theorem deep_few{H:Hp}(h:HOk H):∃ d:Nat→Nat,Deep H d∧∀ i,i<H.obs.length→d (i+1)<H.obs.length:=by
 obtain⟨d,hd⟩:=h.up
 have key:∀ (i:Nat) (p:Nat→Bool),i<H.obs.length→p i=false→(List.range H.obs.length).countP p<H.obs.length:=by
  intro i p hi hp
  have:=countP_lt (p:=p) (q:=fun _=>true) (l:=List.range H.obs.length) (fun _ _ _=>rfl) ⟨i,by simpa using hi,rfl,hp⟩
  simpa using this
 refine⟨fun x=>(List.range H.obs.length).countP fun j=>decide (d (j+1)<d x),fun i o ho=>?_,fun i hi=>key i _ hi (by simp)⟩
 rcases hd i o ho with h1|⟨h1,h2⟩
 ·exact .inl h1
 ·by_cases h0:o.proto=0
  ·exact .inl h0
  ·refine .inr ⟨h1,countP_lt (fun j _ hj=>?_) ⟨o.proto - 1,by simp;omega,?_,?_⟩⟩
   ·simp only[decide_eq_true_eq]at hj ⊢;omega
   ·simp only[decide_eq_true_eq];rw[show o.proto - 1+1=o.proto by omega];exact h2
   ·simp only[decide_eq_false_iff_not];rw[show o.proto - 1+1=o.proto by omega];omega
section
variable {lo p N pf:Nat}{H:Hp}{O:Nat→Prop}{tg:Nat→Nat}{sl tl:Value}{bs:List Nat}
theorem rget_spec(h:RHpIn lo s p H N O tg pf sl tl bs){i:Int}{x:ByteArray}
  (hR:∀ s' v,s.le s'→GetR H x i v→R (vOf v) s'):QC prog w0 105 #[.pointer (some ⟨p,0,none⟩),.int .i64 i,.string x] s R:=by
 refine wfun2 hmix ok105 func105 rfl ntmps105 results105 (by simp) ?_
 have l1:s.le (s.new (.cells [.int .i64 0,.int .i64 0,.string ⟨#[]⟩] 31 true)):=lN (lR _)
 obtain⟨d,hd,hfew⟩:=deep_few h.ok
 have hlim:=h.ok.lim
 simp only[↓Zd,Zp,Zs,simprocAttr,HEx]
 refine wloop_inv hmix (fun fuel env s1=>∃ (k:Nat) (i':Int),fuel=H.obs.length+1 - k∧k≤H.obs.length∧env 7 = .int .i64 (k:Int)∧env 1 = .int .i64 i'∧env 0 = .pointer (some ⟨p,0,none⟩)∧env 2 = .string x∧env 6 = .pointer (some ⟨s.next,0,none⟩)∧(s.new (.cells [.int .i64 0,.int .i64 0,.string ⟨#[]⟩] 31 true)).le s1∧(∀ v,GetR H x i' v→GetR H x i v)∧∀ j:Nat,j<H.obs.length→i'=((j+1:Nat):Int)→d (j+1)+k<H.obs.length) (H.obs.length+1)
  ⟨0,i,rfl,oM,rfl,rfl,rfl,rfl,rfl,lR _,fun v hv=>hv,fun j hj _=>by have:=hfew j hj;omega⟩ ?_
 rintro fuel env s1 ⟨k,i',rfl,hk,e7,e1,e0,e2,e6,hs1,himp,hdk⟩
 have hle1:=lT l1 hs1
 have h1:=(h.le hle1)
 have hb1:=h1.bl
 have hn1:=hs1.1
 simp only[nN]at hn1
 have hkl:(k:Int)≤(H.obs.length:Int):=oM
 have c6:s1.at' s.next=some (.cells [.int .i64 0,.int .i64 0,.string ⟨#[]⟩] 31 true):=by rw[hs1.2 _ (by simp only[nN];omega),aN,if_pos rfl]
 obtain⟨qs,cs,es⟩:=h.form
 have hb1':=hb1
 rw[es]at hb1'
 simp only[↓Zd,Zp,simprocAttr,cld2,REx,e7,e1,e0,hb1',hkl,co180]
 refine rhas_spec h1 ?_
 cases ho:obAt H i' with
 |none =>
  simp only[↓Zd,Zp,Zs,simprocAttr,HEx,e6,c6]
  exact hR _ (0,0,⟨#[]⟩) (lP hle1 oM) (himp _ (.none ho))
 |some o =>
  obtain⟨j,rfl,hj,hjo⟩:=obAt_some ho
  simp only[↓Zd,Zp,simprocAttr,HEx,e1,e0,e2,co181]
  refine rown_spec h1 fun s2 hs2=>?_
  rw[ho]
  simp only[Option.bind_some]
  have hn2:=hs2.1
  have hle2:=lT hle1 hs2
  have c62:s2.at' s.next=some (.cells [.int .i64 0,.int .i64 0,.string ⟨#[]⟩] 31 true):=by rw[hs2.2 _ oM];exact c6
  have hne:¬ s.next=s2.next:=oM
  cases hg:getP o.L x with
  |some v =>
   obtain⟨a1,a2,a3⟩:=v
   unfold gotV vOf
   simp only[↓Zd,Zp,Zs,simprocAttr,HEx,vA,e6,c62,hne]
   exact hR _ (a1,a2,a3) (lP (lP (lN hle2) oM) oM) (himp _ (.own ho hg))
  |none =>
   obtain⟨b,br,vs,own,ns,vv,hb,hB,esl,hbr,hgj,hbrn,hob,hfr,hO⟩:=(h.le hle2).at hjo
   have g1:=(h.le hle2).bl
   rw[esl]at g1
   have g2:=hob.bl
   have hp2:¬ p=s2.next:=by have:=((h.le hle2).own p h.pin.1).2;omega
   have hbr2:¬ br=s2.next:=oM
   have hb2:¬ b=s2.next:=by have:=hfr.bn;omega
   have hk2:=ix_ok (n:=bs.length) (j:=j) (by rw[h.len];exact hj)
   have w1:=h.w hj
   have wk:IntKind.i64.wrap ((k:Int)+1)=((k+1:Nat):Int):=by rw[wrap_i64 oM];omega
   have hdj:=hdk j hj rfl
   unfold gotV
   simp only[↓Zd,Zp,Zs,simprocAttr,HEx,REx,vA,e7,e1,e0,e2,e6,g1,g2,hp2,hbr2,hb2,hbr,hgj,hk2,w1,wk]
   refine⟨H.obs.length+1 - (k+1),oM,k+1,(o.proto:Int),rfl,oM,rfl,rfl,?_,fun v hv=>himp v (.up ho hg hv),fun j2 hj2 e=>?_⟩
   ·exact lP (lN (lT hs1 hs2)) (by simp only[nN];omega)
   ·rcases hd j o hjo with h0|⟨_,h0⟩
    ·omega
    ·have:o.proto=j2+1:=oM
     rw[this]at h0
     omega
theorem rnext_spec(h:RHpIn lo s p H N O tg pf sl tl bs)(hlo:lo≤s.next){i:Int}{x:ByteArray}(hN:N+1≤1000000)(hi : -9223372036854775808≤i∧i≤9223372036854775807)
  (hR:∀ s' O' tg' tl',RHpIn lo s' p (nextH H i x) (N+1) O' tg' pf sl tl' bs→Upd s s' O O'→R (.int .i64 (nextN H i x:Int)) s'):QC prog w0 183 #[.pointer (some ⟨p,0,none⟩),.int .i64 i,.string x] s R:=by
 refine wfun2 hmix ok183 func183 rfl ntmps183 results183 (by simp) ?_
 have hb:=h.bl
 have hm:=h.mono (N':=N+1) oM
 simp only[↓Zd,Zp,simprocAttr,cld2,REx,hb,co239]
 refine rfhas_spec h.fo ?_
 cases hsh:shAt H.F i with
 |none =>
  have e1:nextH H i x=H:=by unfold nextH;rw[hsh];rfl
  have e2:nextN H i x=0:=by unfold nextN;rw[hsh];rfl
  rw[e1,e2]at hR
  simp only[↓Zd,Zp,simprocAttr,HEx]
  exact hR _ _ _ _ hm .refl
 |some t =>
  have e1:nextH H i x={ H with F:=addF H.F H.most i (ofI H.T x),T:=ofT H.T x }:=by unfold nextH;rw[hsh];rfl
  have e2:nextN H i x=addN H.F H.most i (ofI H.T x):=by unfold nextN;rw[hsh];rfl
  have hok:=next_ok h.ok i x
  rw[e1]at hR hok
  rw[e2]at hR
  have htn:=h.tn
  simp only[↓Zd,Zp,simprocAttr,cld2,HEx,REx,hb,ord183,co241]
  refine rtof_spec (h.own p h.pin.1).2 oM hb h.ta (fun q n c e=>⟨(h.own _ (h.taO q n c e).1).2,fun e2=>by have:=(h.taO q n c e).2;rw[e2,h.pin.2]at this;omega⟩) fun s1 tl1 hb1 hta1 hn1 hk1 hnew1=>?_
  obtain⟨O1,h1,hU1⟩:=hm.newT hlo hb1 hta1 hn1 hk1 hnew1 (text_ok h.ok x) (by have:=ofT_len H.T x;omega)
  simp only[↓Zd,Zp,simprocAttr,cld2,HEx,REx,hb1,co240]
  refine rfadd_spec h1.fo oM hi fun s2 O2 hF2 hU2 _=>?_
  have h2:=h1.newF hU2 hF2 hok
  simp only[↓Zd,Zp,simprocAttr,HEx]
  exact hR _ _ _ _ h2 (hU1.trans (re_upd hU2))
end
section
variable {M:Type}[Mem M]{w0:World}{s s':St M}{R:Value→St M→Prop}{lo p N pf:Nat}{H:Hp}{O:Nat→Prop}{tg:Nat→Nat}{sl tl:Value}{bs:List Nat}
theorem ROb.head{b:Nat}{L:List (ByteArray×V3)}{a e f ns vs:Value}(h:ROb s b L a e f ns vs)(hf:RFr s b ns vs)(a' e' f':Value):ROb (s.put b (.cells [a',ns,vs,e',f'] 249 true)) b L a' e' f' ns vs:=
 ⟨by rw[aP,if_pos rfl],h.nm.same fun q n c e=>by rw[aP,if_neg (hf.n q n c e).2],h.vl.same fun q n c e=>by rw[aP,if_neg (hf.v q n c e).2],h.few⟩
theorem RFr.put{b c:Nat}{ns vs:Value}{B:Blk}(h:RFr s b ns vs):RFr (s.put c B) b ns vs:=h.le (by simp)
theorem hang_put{b c:Nat}{ns vs:Value}{B:Blk}(hc:Hang b ns vs c):Upd s (s.put c B) (Hang b ns vs) (Hang b ns vs):=
 ⟨by simp,fun d hd ho=>by rw[aP,if_neg (fun e=>ho (by rw[e];exact hc))],fun d hd => .inl hd⟩
theorem RHpIn.setO(h:RHpIn lo s p H N O tg pf sl tl bs)(hlo:lo≤s.next){i:Int}{j b:Nat}{o':Ob}{ns vv ns' vv':Value}(hij:i=((j+1:Nat):Int))(hj:j<H.obs.length)(hb:bs[j]?=some b)(hO:∀ c,Hang b ns vv c→O c∧tg c=j+3)(hU:Upd s s' (Hang b ns vv) (Hang b ns' vv'))
  (hob:ROb s' b o'.L (.int .i64 (o'.proto:Int)) (.int .i64 (o'.epoch:Int)) (.int .i64 (o'.shape:Int)) ns' vv')(hfr:RFr s' b ns' vv')(hep:o'.epoch≤N)(hok:HOk (putO H i o')) :
  ∃ O' tg',RHpIn lo s' p (putO H i o') N O' tg' pf sl tl bs∧Upd s s' O O':=by
 subst hij
 have e:(((j+1:Nat):Int).toNat - 1)=j:=oM
 unfold putO at *
 rw[e]at hok ⊢
 have hU2:Upd s s' (fun c=>O c∧tg c=j+3) (Hang b ns' vv'):=⟨hU.next,fun c hc ho=>hU.keep c hc fun h=>ho (hO c h),fun c hc=>(hU.own c hc).imp (hO c) id⟩
 have hB:RObAt lo s' N b o' (Hang b ns' vv'):=⟨fun c hc=>⟨by rcases hU.own c hc with h1|h1;exact (h.own c (hO c h1).1).1;omega,hfr.lt c hc⟩,.b,hep,ns',vv',hob,hfr,fun c hc=>hc⟩
 exact⟨_,_,h.newO hj hb hU2 hB hok,re_upd hU2⟩
theorem rdel_spec(h:RHpAt lo s p H N O)(hlo:lo≤s.next){i:Int}{x:ByteArray}(hN:N+3≤1000000)
  (hR:∀ s' O',RHpAt lo s' p (delH H i x) (N+3) O'→Upd s s' O O'→R (.bool (delB H i x)) s'):QC prog w0 110 #[.pointer (some ⟨p,0,none⟩),.int .i64 i,.string x] s R:=by
 refine wfun2 hmix ok110 func110 rfl ntmps110 results110 (by simp) ?_
 have hok:=del_ok h.ok i x
 have hpr:=del_pro h.1 i x
 obtain⟨hpro,tg,pf,sl,tl,bs,h⟩:=h
 simp only[↓Zd,Zp,simprocAttr,co181]
 refine rown_spec h fun s1 hs1=>?_
 have hn1:=hs1.1
 cases hgg:(obAt H i).bind fun o=>getP o.L x with
 |none =>
  have e1:delH H i x=H:=by
   unfold delH
   cases ho:obAt H i with
   |none=>rfl
   |some o =>
    rw[ho]at hgg
    have hgg:getP o.L x=none:=hgg
    simp only[hgg,Option.isSome_none,Bool.false_eq_true,if_false]
  have e2:delB H i x=false:=by unfold delB;rw[hgg];rfl
  rw[e1,e2]at hR
  simp only[gotV]
  simp only[↓Zd,Zp,Zs,simprocAttr,HEx,vA]
  have l2:s.le ((s1.new (.cells [.int .i64 0,.int .i64 0,.string ⟨#[]⟩] 31 true)).put s1.next (.cells [.int .i64 0,.int .i64 0,.string ⟨#[]⟩] 31 true)):=lP (lN hs1) oM
  exact hR _ _ ⟨hpro,tg,pf,sl,tl,bs,(h.le l2).mono oM⟩ (.of_le l2)
 |some w =>
  obtain⟨o,hat,hgo⟩:=Option.bind_eq_some_iff.1 hgg
  have e1:delH H i x=putO H i { L:=delP o.L x,shape:=0,proto:=o.proto,epoch:=o.epoch+1 }:=by unfold delH;rw[hat];simp only[hgo,Option.isSome_some,if_true]
  have e2:delB H i x=true:=by unfold delB;rw[hgg];rfl
  rw[e1]at hok hpr
  rw[e1,e2]at hR
  obtain⟨w1,w2,w3⟩:=w
  obtain⟨j,rfl,hj,hjo⟩:=obAt_some hat
  have l2:s.le ((s1.new (.cells [.int .i64 0,.int .i64 0,.string ⟨#[]⟩] 31 true)).put s1.next (.cells [.int .i64 w1,.int .i64 w2,.string w3] 31 true)):=lP (lN hs1) oM
  obtain⟨b,br,vs,own,ns,vv,hb,hB,esl,hbr,hg,hbrn,hob,hfr,hO⟩:=(h.le l2).at hjo
  have h1:=(h.le hs1).bl
  rw[esl]at h1
  have hpn:=(h.own p h.pin.1).2
  have hp2:¬ p=s1.next:=oM
  have hbro:=(h.own _ (h.rowO _ _ _ esl).1).2
  simp only at hbro
  have hbr2:¬ br=s1.next:=oM
  have hbra:s1.at' br=some (.cells vs 245 own):=by rw[aP,if_neg hbr2,aN,if_neg hbr2]at hbr;exact hbr
  have hk2:=ix_ok (n:=bs.length) (j:=j) (by rw[h.len];exact hj)
  have wj:=h.w hj
  have hep:=hB.ep
  have we:IntKind.i64.wrap ((o.epoch:Int)+1)=((o.epoch+1:Nat):Int):=by rw[wrap_i64 oM];omega
  obtain⟨jx,hjx⟩:∃ jx,idxOf (keysP o.L) x=some jx:=by
   cases hx:idxOf (keysP o.L) x with
   |none=>rw[getP_no hx]at hgo;cases hgo
   |some jx=>exact⟨jx,rfl⟩
  simp only[gotV,vOf]
  simp only[↓Zd,Zp,Zs,simprocAttr,HEx,REx,vA,h1,hbra,hp2,hbr2,hg,hk2,wj,co185]
  refine rddel_spec hob hfr hjx fun s3 ns3 vs3 hob3 hfr3 hU3=>?_
  have g3:=hob3.bl
  simp only[↓Zd,Zp,Zs,simprocAttr,HEx,REx,g3,we]
  have hob4:=(hob3.head hfr3 (.int .i64 (o.proto:Int)) (.int .i64 ((o.epoch+1:Nat):Int)) (.int .i64 (o.shape:Int))).head hfr3.put (.int .i64 (o.proto:Int)) (.int .i64 ((o.epoch+1:Nat):Int)) (.int .i64 0)
  obtain⟨O',tg',h4,hU4⟩:=((h.le l2).mono (N':=N+3) oM).setO (o':={ L:=delP o.L x,shape:=0,proto:=o.proto,epoch:=o.epoch+1 }) (by have:=l2.1;omega) rfl hj hb hO ((hU3.trans (hang_put .b)).trans (hang_put .b)) hob4 hfr3.put.put (by show o.epoch+1≤_;omega) hok
  exact hR _ _ ⟨hpr,_,_,_,_,_,h4⟩ ((Upd.of_le l2).trans hU4)
end
theorem next_zero(H:Hp)(x:ByteArray):nextH H ((0:Nat):Int) x=H∧nextN H ((0:Nat):Int) x=0:=by
 have h0:shAt H.F ((0:Nat):Int)=none:=shAt_out oM
 unfold nextH nextN
 rw[h0]
 exact⟨rfl,rfl⟩
theorem setH_new{H:Hp}{i:Int}{x:ByteArray}{v:V3}{o:Ob}(ho:obAt H i=some o)(hg:getP o.L x=none)(hl:¬ H.maxP≤o.L.length) :
  setH H i x v=putO (nextH H (o.shape:Int) x) i { L:=setP o.L x v,shape:=nextN H (o.shape:Int) x,proto:=o.proto,epoch:=o.epoch+1 }:=by
 unfold setH
 rw[ho]
 simp only[hg,Option.isSome_none,Bool.false_eq_true,if_false,if_neg hl]
 split
 ·rename_i hs
  rw[hs,(next_zero H x).1,(next_zero H x).2]
 ·rfl
section
variable {M:Type}[Mem M]{w0:World}{s s':St M}{R:Value→St M→Prop}{lo p N pf:Nat}{H:Hp}{O:Nat→Prop}{tg:Nat→Nat}{sl tl:Value}{bs:List Nat}
theorem rset_spec(h:RHpAt lo s p H N O)(hlo:lo≤s.next){i:Int}{x y:ByteArray}{k n:Int}(hN:N+3≤1000000)
  (hR:∀ s' O',RHpAt lo s' p (setH H i x (k,n,y)) (N+3) O'→Upd s s' O O'→R (.int .i64 (setE H i x)) s'):QC prog w0 107 #[.pointer (some ⟨p,0,none⟩),.int .i64 i,.string x,vA k n y] s R:=by
 refine wfun2 hmix ok107 func107 rfl ntmps107 results107 (by simp) ?_
 have hok:=set_ok h.ok i x (k,n,y)
 have hpr:=set_pro h.ok h.1 i x (k,n,y)
 obtain⟨hpro,tg,pf,sl,tl,bs,h⟩:=h
 have l1:s.le (s.new (.cells [.int .i64 k,.int .i64 n,.string y] 31 true)):=lN (lR _)
 simp only[↓Zd,Zp,Zs,simprocAttr,HEx,vA,co180]
 refine rhas_spec (h.le l1) ?_
 cases hat:obAt H i with
 |none =>
  have e1:setH H i x (k,n,y)=H:=by unfold setH;rw[hat]
  have e2:setE H i x=4:=by unfold setE;rw[hat]
  rw[e1,e2]at hR
  simp only[↓Zd,Zp,simprocAttr,HEx,vA]
  exact hR _ _ ⟨hpro,tg,pf,sl,tl,bs,(h.le l1).mono oM⟩ (.of_le l1)
 |some o =>
  obtain⟨j,hij,hj,hjo⟩:=obAt_some hat
  obtain⟨b,br,vs,own,ns,vv,hb,hB,esl,hbr,hg,hbrn,hob,hfr,hO⟩:=h.at hjo
  have hk2:=ix_ok (n:=bs.length) (j:=j) (by rw[h.len];exact hj)
  have wj:=h.w hj
  have h1:=h.bl
  rw[esl]at h1
  have hpn:=(h.own p h.pin.1).2
  have hp0:¬ p=s.next:=oM
  have hbr0:¬ br=s.next:=oM
  subst hij
  simp only[↓Zd,Zp,simprocAttr,cld2,HEx,REx,vA,h1,hp0,hbr0,hbr,hg,hk2,wj,co182]
  refine rdget_spec (hob.le hfr l1) (hfr.le l1.1) fun s1 hs1=>?_
  have hle1:=lT l1 hs1
  have hn1:=hs1.1
  simp only[nN]at hn1
  have c7:s1.at' s.next=some (.cells [.int .i64 k,.int .i64 n,.string y] 31 true):=by rw[hs1.2 _ (by simp only[nN];omega),aN,if_pos rfl]
  have hs2:¬ s.next=s1.next:=oM
  have hep:=hB.ep
  cases hgp:getP o.L x with
  |some w =>
   obtain⟨w1,w2,w3⟩:=w
   have e1:setH H ((j+1:Nat):Int) x (k,n,y)=putO H ((j+1:Nat):Int) { o with L:=setP o.L x (k,n,y) }:=by unfold setH;rw[hat];simp only[hgp,Option.isSome_some,if_true]
   have e2:setE H ((j+1:Nat):Int) x=0:=by unfold setE;rw[hat];simp only[hgp,Option.isSome_some,if_true]
   rw[e1]at hok hpr hR
   rw[e2]at hR
   have l2:s.le ((s1.new (.cells [.int .i64 0,.int .i64 0,.string ⟨#[]⟩] 31 true)).put s1.next (.cells [.int .i64 w1,.int .i64 w2,.string w3] 31 true)):=lP (lN hle1) oM
   simp only[gotV,vOf]
   simp only[↓Zd,Zp,Zs,simprocAttr,HEx,REx,vA,c7,hs2,ord107,co184]
   refine rdset_spec (hob.le hfr l2) (hfr.le l2.1) (h.ok.keys j o hjo) (by have:=h.ok.lens j o hjo;have:=h.ok.lim;omega) fun s3 ns3 vs3 hob3 hfr3 hU3=>?_
   simp only[↓Zd,Zp,simprocAttr,HEx]
   obtain⟨O',tg',h4,hU4⟩:=((h.le l2).mono (N':=N+3) oM).setO (o':={ o with L:=setP o.L x (k,n,y) }) (by have:=l2.1;omega) rfl hj hb hO hU3 hob3 hfr3 (by show o.epoch≤_;omega) hok
   exact hR _ _ ⟨hpr,_,_,_,_,_,h4⟩ ((Upd.of_le l2).trans hU4)
  |none =>
   have hob1:=hob.le hfr hle1
   obtain⟨qn,cn,en⟩:=slc_form hob.nm
   have g1:=hob1.bl
   rw[en]at g1
   have hkl:=keysP_len o.L
   have hbn:=hfr.bn
   have hb1:¬ b=s1.next:=oM
   have hp1:¬ p=s1.next:=oM
   have h11:=(h.le hle1).bl
   rw[esl]at h11
   have l2:s.le ((s1.new (.cells [.int .i64 0,.int .i64 0,.string ⟨#[]⟩] 31 true)).put s1.next (.cells [.int .i64 0,.int .i64 0,.string ⟨#[]⟩] 31 true)):=lP (lN hle1) oM
   simp only[gotV]
   by_cases hl:(H.maxP:Int)≤((keysP o.L).length:Int)
   ·have hl':H.maxP≤o.L.length:=oM
    have e1:setH H ((j+1:Nat):Int) x (k,n,y)=H:=by unfold setH;rw[hat];simp only[hgp,Option.isSome_none,Bool.false_eq_true,if_false,if_pos hl']
    have e2:setE H ((j+1:Nat):Int) x=42:=by unfold setE;rw[hat];simp only[hgp,Option.isSome_none,Bool.false_eq_true,if_false,if_pos hl']
    rw[e1,e2]at hR
    simp only[↓Zd,Zp,Zs,simprocAttr,HEx,REx,vA,g1,hb1,hp1,h11,hl,ord107]
    exact hR _ _ ⟨hpro,tg,pf,sl,tl,bs,(h.le l2).mono oM⟩ (.of_le l2)
   ·have hl':¬ H.maxP≤o.L.length:=oM
    rw[setH_new hat hgp hl']at hok hpr hR
    have e2:setE H ((j+1:Nat):Int) x=0:=by unfold setE;rw[hat];simp only[hgp,Option.isSome_none,Bool.false_eq_true,if_false,if_neg hl']
    rw[e2]at hR
    have we:IntKind.i64.wrap ((o.epoch:Int)+1)=((o.epoch+1:Nat):Int):=by rw[wrap_i64 oM];omega
    have hsh:o.shape≤150:=by
     by_cases h0:o.shape=0
     ·omega
     ·obtain⟨q0,l,h1,_⟩:=h.ok.fits j o hjo oM
      have:=(List.getElem?_eq_some_iff.1 h1).1
      have:=h.fo.le
      omega
    simp only[↓Zd,Zp,Zs,simprocAttr,HEx,REx,vA,g1,hb1,hp1,h11,hl,we,ord107,co183]
    have hob2:=hob.le hfr l2
    have hfr2:=hfr.le l2.1
    obtain⟨O3,tg3,h3,hU3⟩:=((h.le l2).mono (N':=N+1) oM).setO (o':={ o with epoch:=o.epoch+1 }) (by have:=l2.1;omega) rfl hj hb hO (hang_put .b) (hob2.head hfr2 (.int .i64 (o.proto:Int)) (.int .i64 ((o.epoch+1:Nat):Int)) (.int .i64 (o.shape:Int))) hfr2.put (by show o.epoch+1≤_;omega) (bump_ok h.ok hat (o.epoch+1))
    rw[en]at h3 hU3
    refine rnext_spec h3 (by simp only[Sn];omega) oM oM fun s5 O5 tg5 tl5 h5 hU5=>?_
    rw[next_put]at h5
    have hj5:j<(nextH H (o.shape:Int) x).obs.length:=by rw[(next_obs H _ x).1];exact hj
    have ho5:=putO_at (H:=nextH H (o.shape:Int) x) (i:=((j+1:Nat):Int)) (o:=o) (a:={ o with epoch:=o.epoch+1 }) rfl hj5
    obtain⟨b',br',vs',own',ns5,vv5,hb',hB5,_,_,_,_,hob5,hfr5,hO5⟩:=h5.at ho5
    rw[hb]at hb'
    cases hb'
    have g5:=hob5.bl
    have hN3:nextN (putO H ((j+1:Nat):Int) { o with epoch:=o.epoch+1 }) (o.shape:Int) x=nextN H (o.shape:Int) x:=rfl
    have hn5:=hU5.next
    simp only[Sn]at hn5
    have hsne:¬ s.next=b:=oM
    have c75:s5.at' s.next=some (.cells [.int .i64 k,.int .i64 n,.string y] 31 true):=by
     rw[hU5.keep _ (by simp only[Sn];omega) (fun hc=>?_),aP,if_neg hsne,aP,if_neg hs2,aN,if_neg hs2]
     ·exact c7
     ·rcases hU3.own _ hc with g|g
      ·have:=(h.own _ g).2;omega
      ·simp only[Sn]at g;omega
    rw[hN3]
    simp only[↓Zd,Zp,Zs,simprocAttr,HEx,REx,g5,c75,hsne,co184]
    refine rdset_spec (hob5.head hfr5 (.int .i64 (o.proto:Int)) (.int .i64 ((o.epoch+1:Nat):Int)) (.int .i64 ((nextN H (o.shape:Int) x:Nat):Int))) hfr5.put (h.ok.keys j o hjo) (by have:=h.ok.lens j o hjo;have:=h.ok.lim;show o.L.length<_;omega) fun s7 ns7 vs7 hob7 hfr7 hU7=>?_
    simp only[↓Zd,Zp,simprocAttr,HEx]
    obtain⟨O',tg',h8,hU8⟩:=(h5.mono (N':=N+3) oM).setO (o':={ L:=setP o.L x (k,n,y),shape:=nextN H (o.shape:Int) x,proto:=o.proto,epoch:=o.epoch+1 }) oM rfl (by show j<(List.set _ _ _).length;rw[List.length_set];exact hj5) hb hO5 ((hang_put .b).trans hU7) hob7 hfr7 (by show o.epoch+1≤_;omega) (by rw[putO_put];exact hok)
    rw[putO_put]at h8
    exact hR _ _ ⟨hpr,_,_,_,_,_,h8⟩ ((((Upd.of_le l2).trans hU3).trans hU5).trans hU8)
end
section
variable {M:Type}[Mem M]{w0:World}{s s':St M}{R:Value→St M→Prop}{lo p N pf:Nat}{H:Hp}{O:Nat→Prop}{tg:Nat→Nat}{sl tl:Value}{bs:List Nat}
theorem rsetproto_spec(h:RHpAt lo s p H N O)(hlo:lo≤s.next){i q:Int}(hN:N+3≤1000000)
  (hR:∀ s' O',RHpAt lo s' p (protoH H i q) (N+3) O'→Upd s s' O O'→R (.int .i64 (protoE H i q)) s'):QC prog w0 194 #[.pointer (some ⟨p,0,none⟩),.int .i64 i,.int .i64 q] s R:=by
 refine wfun2 hmix ok194 func194 rfl ntmps194 results194 (by simp) ?_
 obtain⟨hpro,tg,pf,sl,tl,bs,h⟩:=h
 have hmono:=h.mono (N':=N+3) oM
 have hno4:protoE H i q=4→R (.int .i64 4) s:=fun e=>by
  have:=hR s O
  rw[e]at this
  have e1:protoH H i q=H:=by unfold protoH;rw[if_neg oM]
  rw[e1]at this
  exact this ⟨hpro,_,_,_,_,_,hmono⟩ .refl
 have hno32:protoE H i q=32→R (.int .i64 32) s:=fun e=>by
  have:=hR s O
  rw[e]at this
  have e1:protoH H i q=H:=by unfold protoH;rw[if_neg oM]
  rw[e1]at this
  exact this ⟨hpro,_,_,_,_,_,hmono⟩ .refl
 cases hat:obAt H i with
 |none =>
  have e:protoE H i q=4:=by unfold protoE;rw[if_pos (.inl hat)]
  simp only[↓Zd,Zp,simprocAttr,co180]
  refine rhas_spec h ?_
  rw[hat]
  simp only[↓Zd,Zp,simprocAttr,HEx]
  exact hno4 e
 |some o =>
  obtain⟨j,rfl,hj,ho⟩:=obAt_some hat
  obtain⟨b,br,vs,own,ns,vv,hb,hB,esl,hbr,hg,hbrn,hob,hfr,hO⟩:=h.at ho
  have hk2:=ix_ok (n:=bs.length) (j:=j) (by rw[h.len];exact hj)
  have wj:=h.w hj
  have h1:=h.bl
  rw[esl]at h1
  have g1:=hob.bl
  have hep:=hB.ep
  have w1:IntKind.i64.wrap ((o.epoch:Int)+1)=((o.epoch+1:Nat):Int):=by rw[wrap_i64 oM];omega
  have hlim:=h.ok.lim
  obtain⟨d,hd,hfew⟩:=deep_few h.ok
  by_cases q0:q=0
  ·obtain rfl:q=((0:Nat):Int):=oM
   simp only[↓Zd,Zp,simprocAttr,co180]
   refine rhas_spec h ?_
   rw[hat]
   have hqok:¬ (obAt H ((j+1:Nat):Int)=none∨(((0:Nat):Int)≠0∧obAt H ((0:Nat):Int)=none)):=by rintro (h|h);rw[hat]at h;cases h;exact h.1 rfl
   have hup:onB H ((j+1:Nat):Int) ((0:Nat):Int)=false→HOk (putO H ((j+1:Nat):Int) { o with proto:=0,epoch:=o.epoch+1 }):=fun hon=>by
    unfold putO
    rw[show ((j+1:Nat):Int).toNat - 1=j by omega]
    exact h.ok.upd (F':=H.F) (T':=H.T) ho (fun _ _ h=>h) (fun _ _ _=>rfl) (Nat.le_refl _) h.ok.nodup h.ok.ids (fun h2=>h.ok.fits j o ho h2) (h.ok.keys j o ho) (h.ok.lens j o ho) (proto_up h.ok ho (.inl rfl) hon rfl)
   have hst:0=0∨∃ u,H.obs[0 - 1]?=some u∧d 0+0<H.obs.length := .inl rfl
   simp only[↓Zd,Zp,simprocAttr,HEx]
   refine wloop_inv hmix (fun fuel env s1=>∃ (k a:Nat),fuel=H.obs.length+1 - k∧k≤H.obs.length∧env 8 = .int .i64 (k:Int)∧env 7 = .int .i64 (a:Int)∧env 0 = .pointer (some ⟨p,0,none⟩)∧env 1 = .int .i64 ((j+1:Nat):Int)∧env 2 = .int .i64 ((0:Nat):Int)∧s1=s∧(∀ v,OnR H ((j+1:Nat):Int) (a:Int) v→OnR H ((j+1:Nat):Int) ((0:Nat):Int) v)∧(a=0∨∃ u,H.obs[a - 1]?=some u∧d a+k<H.obs.length)) (H.obs.length+1) ⟨0,0,rfl,oM,rfl,rfl,rfl,rfl,rfl,rfl,fun v hv=>hv,hst⟩ ?_
   rintro fuel env s1 ⟨k,a,rfl,hk,e8,e7,e0,e1,e2,rfl,himp,hda⟩
   have hkl:(k:Int)≤(bs.length:Int):=by have:=h.len;omega
   by_cases a0:(a:Int)=0
   ·have hon:onB H ((j+1:Nat):Int) ((0:Nat):Int)=false:=(himp false (by rw[a0];exact .zero oM)).eq
    have e:protoE H ((j+1:Nat):Int) ((0:Nat):Int)=0:=by unfold protoE;rw[if_neg hqok,if_neg (by rw[hon];simp)]
    have hok:=proto_ok h.ok ((j+1:Nat):Int) ((0:Nat):Int)
    have hpr:=proto_pro h.ok hpro ((j+1:Nat):Int) ((0:Nat):Int)
    have hob2:=(hob.head hfr (.int .i64 ((0:Nat):Int)) (.int .i64 (o.epoch:Int)) (.int .i64 (o.shape:Int))).head hfr.put (.int .i64 ((0:Nat):Int)) (.int .i64 ((o.epoch+1:Nat):Int)) (.int .i64 (o.shape:Int))
    obtain⟨O2,tg2,h2,hU2⟩:=hmono.setO (o':={ o with proto:=0,epoch:=o.epoch+1 }) hlo rfl hj hb hO ((hang_put .b).trans (hang_put .b)) hob2 hfr.put.put (by show o.epoch+1≤_;omega) (hup hon)
    by_cases hsp:(0:Int)<(o.shape:Int)
    ·have h0:¬ o.shape=0:=oM
     have e3:protoH H ((j+1:Nat):Int) ((0:Nat):Int)=putO { H with F:=moveF H.F H.most o.shape (0) } ((j+1:Nat):Int) { o with proto:=0,epoch:=o.epoch+1,shape:=moveN H.F H.most o.shape (0) }:=by unfold protoH;rw[if_pos e,hat];simp only[if_neg h0];rfl
     rw[e3]at hok hpr hR
     rw[e]at hR
     have hsh:o.shape≤150:=by
      obtain⟨q0,l,h1,_⟩:=h.ok.fits j o ho oM
      have:=(List.getElem?_eq_some_iff.1 h1).1
      have:=h.fo.le
      omega
     have hpb:¬ p=b:=fun e=>by have h1:=h.pin.2;have h2:=(hO _ .b).2;rw[e]at h1;omega
     have hbrb:¬ br=b:=fun e=>by have h1:=(h.rowO _ _ _ esl).2.1;have h2:=(hO _ .b).2;simp only at h1;rw[e]at h1;omega
     simp only[↓Zd,Zp,Zs,simprocAttr,HEx,REx,e8,e7,e0,e1,e2,h1,hkl,a0,hbr,hg,hk2,wj,g1,w1,hsp,hpb,ord194,co254]
     refine rfmove_spec (q:=0) h2.fo (by simp only[nU];omega) oM fun s4 O4 hF4 hU4=>?_
     have h4:=h2.newF hU4 hF4 (move_ok h2.ok o.shape (0))
     have hj4:(putO H ((j+1:Nat):Int) { o with proto:=0,epoch:=o.epoch+1 }).obs[j]?=some { o with proto:=0,epoch:=o.epoch+1 }:=putO_at (o:=o) rfl hj
     obtain⟨b',br',vs',own',ns5,vv5,hb',hB5,_,_,_,_,hob5,hfr5,hO5⟩:=h4.at hj4
     rw[hb]at hb'
     cases hb'
     have g5:=hob5.bl
     have hn4:=hU4.next
     simp only[nU]at hn4
     simp only[↓Zd,Zp,Zs,simprocAttr,HEx,REx,g5]
     obtain⟨O',tg',h8,hU8⟩:=h4.setO (o':={ o with proto:=0,epoch:=o.epoch+1,shape:=moveN H.F H.most o.shape (0) }) oM rfl (by show j<(List.set _ _ _).length;rw[List.length_set];exact hj) hb hO5 (hang_put .b) (hob5.head hfr5 (.int .i64 ((0:Nat):Int)) (.int .i64 ((o.epoch+1:Nat):Int)) (.int .i64 ((moveN H.F H.most o.shape (0):Nat):Int))) hfr5.put (by show o.epoch+1≤_;omega) (by rw[putO_putF];exact hok)
     rw[putO_putF]at h8
     exact hR _ _ ⟨hpr,_,_,_,_,_,h8⟩ ((hU2.trans (re_upd hU4)).trans hU8)
    ·have h0:o.shape=0:=oM
     have e3:protoH H ((j+1:Nat):Int) ((0:Nat):Int)=putO H ((j+1:Nat):Int) { o with proto:=0,epoch:=o.epoch+1 }:=by unfold protoH;rw[if_pos e,hat];simp only[if_pos h0];rfl
     rw[e3]at hok hpr hR
     rw[e]at hR
     simp only[↓Zd,Zp,Zs,simprocAttr,HEx,REx,e8,e7,e0,e1,e2,h1,hkl,a0,hbr,hg,hk2,wj,g1,w1,hsp]
     exact hR _ _ ⟨hpr,_,_,_,_,_,h2⟩ hU2
   ·rcases hda with hda|⟨u,hu,hdu⟩
    ·omega
    by_cases ai:(a:Int)=((j+1:Nat):Int)
    ·have hon:onB H ((j+1:Nat):Int) ((0:Nat):Int)=true:=(himp true (by rw[ai];exact .here)).eq
     have e:protoE H ((j+1:Nat):Int) ((0:Nat):Int)=32:=by unfold protoE;rw[if_neg hqok,if_pos hon]
     have aj:¬ ((j+1:Nat):Int)=0:=oM
     simp only[↓Zd,Zp,simprocAttr,cld2,REx,e8,e7,e0,e1,h1,hkl,ai,aj]
     exact hno32 e
    ·have wk:IntKind.i64.wrap ((k:Int)+1)=((k+1:Nat):Int):=by rw[wrap_i64 oM];omega
     have hau:obAt H (a:Int)=some u:=by
      obtain⟨a',rfl⟩:∃ a',a=a'+1:=⟨a - 1,oM⟩
      rw[obAt_get];exact hu
     have hpv:protoV H (a:Int)=(u.proto:Int):=by unfold protoV;rw[hau]
     simp only[↓Zd,Zp,simprocAttr,cld2,REx,e8,e7,e0,e1,h1,hkl,a0,ai,co193]
     refine rproto_spec h ?_
     rw[hpv]
     simp only[↓Zd,Zp,simprocAttr,HEx,e8,e0,e1,e2,wk]
     refine⟨H.obs.length+1 - (k+1),oM,k+1,u.proto,rfl,oM,rfl,rfl,fun v hv=>himp v (.up a0 ai (by rw[hpv];exact hv)),?_⟩
     rcases hd (a - 1) u hu with h0|⟨h3,h4⟩
     ·exact .inl h0
     ·by_cases hz:u.proto=0
      ·exact .inl hz
      ·refine .inr ⟨H.obs[u.proto - 1]'oM,List.getElem?_eq_getElem _,?_⟩
       rw[show a - 1+1=a by omega]at h4
       omega
  ·simp only[↓Zd,Zp,simprocAttr,co180]
   refine rhas_spec h ?_
   rw[hat]
   simp only[↓Zd,Zp,simprocAttr,HEx,q0,co180]
   refine rhas_spec h ?_
   cases hat2:obAt H q with
   |none =>
    have e:protoE H ((j+1:Nat):Int) q=4:=by unfold protoE;rw[if_pos (.inr ⟨q0,hat2⟩)]
    simp only[↓Zd,Zp,simprocAttr,HEx]
    exact hno4 e
   |some o2 =>
    obtain⟨j2,rfl,hj2,ho2⟩:=obAt_some hat2
    have hqok:¬ (obAt H ((j+1:Nat):Int)=none∨(((j2+1:Nat):Int)≠0∧obAt H ((j2+1:Nat):Int)=none)):=by rintro (h|h);rw[hat]at h;cases h;rw[hat2]at h;cases h.2
    have hup:onB H ((j+1:Nat):Int) ((j2+1:Nat):Int)=false→HOk (putO H ((j+1:Nat):Int) { o with proto:=j2+1,epoch:=o.epoch+1 }):=fun hon=>by
     unfold putO
     rw[show ((j+1:Nat):Int).toNat - 1=j by omega]
     exact h.ok.upd (F':=H.F) (T':=H.T) ho (fun _ _ h=>h) (fun _ _ _=>rfl) (Nat.le_refl _) h.ok.nodup h.ok.ids (fun h2=>h.ok.fits j o ho h2) (h.ok.keys j o ho) (h.ok.lens j o ho) (proto_up h.ok ho (.inr oM) hon rfl)
    have hst:j2+1=0∨∃ u,H.obs[j2+1 - 1]?=some u∧d (j2+1)+0<H.obs.length := .inr ⟨o2,ho2,by have:=hfew j2 hj2;omega⟩
    simp only[↓Zd,Zp,simprocAttr,HEx]
    refine wloop_inv hmix (fun fuel env s1=>∃ (k a:Nat),fuel=H.obs.length+1 - k∧k≤H.obs.length∧env 8 = .int .i64 (k:Int)∧env 7 = .int .i64 (a:Int)∧env 0 = .pointer (some ⟨p,0,none⟩)∧env 1 = .int .i64 ((j+1:Nat):Int)∧env 2 = .int .i64 ((j2+1:Nat):Int)∧s1=s∧(∀ v,OnR H ((j+1:Nat):Int) (a:Int) v→OnR H ((j+1:Nat):Int) ((j2+1:Nat):Int) v)∧(a=0∨∃ u,H.obs[a - 1]?=some u∧d a+k<H.obs.length)) (H.obs.length+1) ⟨0,j2+1,rfl,oM,rfl,rfl,rfl,rfl,rfl,rfl,fun v hv=>hv,hst⟩ ?_
    rintro fuel env s1 ⟨k,a,rfl,hk,e8,e7,e0,e1,e2,rfl,himp,hda⟩
    have hkl:(k:Int)≤(bs.length:Int):=by have:=h.len;omega
    by_cases a0:(a:Int)=0
    ·have hon:onB H ((j+1:Nat):Int) ((j2+1:Nat):Int)=false:=(himp false (by rw[a0];exact .zero oM)).eq
     have e:protoE H ((j+1:Nat):Int) ((j2+1:Nat):Int)=0:=by unfold protoE;rw[if_neg hqok,if_neg (by rw[hon];simp)]
     have hok:=proto_ok h.ok ((j+1:Nat):Int) ((j2+1:Nat):Int)
     have hpr:=proto_pro h.ok hpro ((j+1:Nat):Int) ((j2+1:Nat):Int)
     have hob2:=(hob.head hfr (.int .i64 ((j2+1:Nat):Int)) (.int .i64 (o.epoch:Int)) (.int .i64 (o.shape:Int))).head hfr.put (.int .i64 ((j2+1:Nat):Int)) (.int .i64 ((o.epoch+1:Nat):Int)) (.int .i64 (o.shape:Int))
     obtain⟨O2,tg2,h2,hU2⟩:=hmono.setO (o':={ o with proto:=j2+1,epoch:=o.epoch+1 }) hlo rfl hj hb hO ((hang_put .b).trans (hang_put .b)) hob2 hfr.put.put (by show o.epoch+1≤_;omega) (hup hon)
     by_cases hsp:(0:Int)<(o.shape:Int)
     ·have h0:¬ o.shape=0:=oM
      have e3:protoH H ((j+1:Nat):Int) ((j2+1:Nat):Int)=putO { H with F:=moveF H.F H.most o.shape (j2+1) } ((j+1:Nat):Int) { o with proto:=j2+1,epoch:=o.epoch+1,shape:=moveN H.F H.most o.shape (j2+1) }:=by unfold protoH;rw[if_pos e,hat];simp only[if_neg h0];rfl
      rw[e3]at hok hpr hR
      rw[e]at hR
      have hsh:o.shape≤150:=by
       obtain⟨q0,l,h1,_⟩:=h.ok.fits j o ho oM
       have:=(List.getElem?_eq_some_iff.1 h1).1
       have:=h.fo.le
       omega
      have hpb:¬ p=b:=fun e=>by have h1:=h.pin.2;have h2:=(hO _ .b).2;rw[e]at h1;omega
      have hbrb:¬ br=b:=fun e=>by have h1:=(h.rowO _ _ _ esl).2.1;have h2:=(hO _ .b).2;simp only at h1;rw[e]at h1;omega
      simp only[↓Zd,Zp,Zs,simprocAttr,HEx,REx,e8,e7,e0,e1,e2,h1,hkl,a0,hbr,hg,hk2,wj,g1,w1,hsp,hpb,ord194,co254]
      refine rfmove_spec (q:=j2+1) h2.fo (by simp only[nU];omega) oM fun s4 O4 hF4 hU4=>?_
      have h4:=h2.newF hU4 hF4 (move_ok h2.ok o.shape (j2+1))
      have hj4:(putO H ((j+1:Nat):Int) { o with proto:=j2+1,epoch:=o.epoch+1 }).obs[j]?=some { o with proto:=j2+1,epoch:=o.epoch+1 }:=putO_at (o:=o) rfl hj
      obtain⟨b',br',vs',own',ns5,vv5,hb',hB5,_,_,_,_,hob5,hfr5,hO5⟩:=h4.at hj4
      rw[hb]at hb'
      cases hb'
      have g5:=hob5.bl
      have hn4:=hU4.next
      simp only[nU]at hn4
      simp only[↓Zd,Zp,Zs,simprocAttr,HEx,REx,g5]
      obtain⟨O',tg',h8,hU8⟩:=h4.setO (o':={ o with proto:=j2+1,epoch:=o.epoch+1,shape:=moveN H.F H.most o.shape (j2+1) }) oM rfl (by show j<(List.set _ _ _).length;rw[List.length_set];exact hj) hb hO5 (hang_put .b) (hob5.head hfr5 (.int .i64 ((j2+1:Nat):Int)) (.int .i64 ((o.epoch+1:Nat):Int)) (.int .i64 ((moveN H.F H.most o.shape (j2+1):Nat):Int))) hfr5.put (by show o.epoch+1≤_;omega) (by rw[putO_putF];exact hok)
      rw[putO_putF]at h8
      exact hR _ _ ⟨hpr,_,_,_,_,_,h8⟩ ((hU2.trans (re_upd hU4)).trans hU8)
     ·have h0:o.shape=0:=oM
      have e3:protoH H ((j+1:Nat):Int) ((j2+1:Nat):Int)=putO H ((j+1:Nat):Int) { o with proto:=j2+1,epoch:=o.epoch+1 }:=by unfold protoH;rw[if_pos e,hat];simp only[if_pos h0];rfl
      rw[e3]at hok hpr hR
      rw[e]at hR
      simp only[↓Zd,Zp,Zs,simprocAttr,HEx,REx,e8,e7,e0,e1,e2,h1,hkl,a0,hbr,hg,hk2,wj,g1,w1,hsp]
      exact hR _ _ ⟨hpr,_,_,_,_,_,h2⟩ hU2
    ·rcases hda with hda|⟨u,hu,hdu⟩
     ·omega
     by_cases ai:(a:Int)=((j+1:Nat):Int)
     ·have hon:onB H ((j+1:Nat):Int) ((j2+1:Nat):Int)=true:=(himp true (by rw[ai];exact .here)).eq
      have e:protoE H ((j+1:Nat):Int) ((j2+1:Nat):Int)=32:=by unfold protoE;rw[if_neg hqok,if_pos hon]
      have aj:¬ ((j+1:Nat):Int)=0:=oM
      simp only[↓Zd,Zp,simprocAttr,cld2,REx,e8,e7,e0,e1,h1,hkl,ai,aj]
      exact hno32 e
     ·have wk:IntKind.i64.wrap ((k:Int)+1)=((k+1:Nat):Int):=by rw[wrap_i64 oM];omega
      have hau:obAt H (a:Int)=some u:=by
       obtain⟨a',rfl⟩:∃ a',a=a'+1:=⟨a - 1,oM⟩
       rw[obAt_get];exact hu
      have hpv:protoV H (a:Int)=(u.proto:Int):=by unfold protoV;rw[hau]
      simp only[↓Zd,Zp,simprocAttr,cld2,REx,e8,e7,e0,e1,h1,hkl,a0,ai,co193]
      refine rproto_spec h ?_
      rw[hpv]
      simp only[↓Zd,Zp,simprocAttr,HEx,e8,e0,e1,e2,wk]
      refine⟨H.obs.length+1 - (k+1),oM,k+1,u.proto,rfl,oM,rfl,rfl,fun v hv=>himp v (.up a0 ai (by rw[hpv];exact hv)),?_⟩
      rcases hd (a - 1) u hu with h0|⟨h3,h4⟩
      ·exact .inl h0
      ·by_cases hz:u.proto=0
       ·exact .inl hz
       ·refine .inr ⟨H.obs[u.proto - 1]'oM,List.getElem?_eq_getElem _,?_⟩
        rw[show a - 1+1=a by omega]at h4
        omega
end
theorem rowRPtr(a:Option Addr):crow prog 152 1 #[(0,.pointer a)]=some (.cells [.pointer a] 245 true):=oK
theorem infoRPtr:∃ ie,prog.info? 245=some ie∧ie.size=1∧0<ie.bytes∧ie.bytes≤100:=by
 obtain⟨ie,h⟩:=Option.isSome_iff_exists.1 is245
 have h1:=ce245
 have h2:decide (0<prog.bytesOf 245∧prog.bytesOf 245≤100)=true:=oK
 rw[cellsOf_info h]at h1
 simp only[Program.bytesOf,h,decide_eq_true_eq]at h2
 exact⟨ie,h,h1,h2.1,h2.2⟩
section
variable {lo p N:Nat}{H:Hp}{O:Nat→Prop}
theorem wch_app_rptr{s:St M}{sl:Value}{l:List Nat}{a:Nat}{K:Value→St M→Prop}(hlen:l.length≤1000000)(hsl:SlU 245 1 s sl (ptrs l) l.length)(hfr:∀ q m c,sl = .slice (some q) m c→q.block<s.next)
  (h:∀ s',s'.next=s.next+2→s'.at' (s.next+1)=some (.cells (ptrs (l ++ [a])) 245 true)→(∀ b,b<s.next→(∀ q n c,sl = .slice (some q) n c→b≠q.block)→s'.at' b=s.at' b)→K (.slice (some ⟨s.next+1,0,none⟩) (l.length+1) UNK) s') :
  wch (capp prog #[152,152] #[sl,.slice (some ⟨s.next,0,none⟩) 1 1] (s.new (.cells [.pointer (some ⟨a,0,none⟩)] 245 true))) K:=by
 obtain⟨ie,hie,h1,h2,h3⟩:=infoRPtr
 have hcapp:capp prog #[152,152] #[sl,.slice (some ⟨s.next,0,none⟩) 1 1] (s.new (.cells [.pointer (some ⟨a,0,none⟩)] 245 true))=capp3 prog 245 ie sl (s.new (.cells [.pointer (some ⟨a,0,none⟩)] 245 true)) (cmore ie.size (.slice (some ⟨s.next,0,none⟩) 1 1) (s.new (.cells [.pointer (some ⟨a,0,none⟩)] 245 true))):=
  app_eq underlying152 underlying152 hie
 have hv:cmore ie.size (.slice (some ⟨s.next,0,none⟩) 1 1) (s.new (.cells [.pointer (some ⟨a,0,none⟩)] 245 true))=some (1,[.pointer (some ⟨a,0,none⟩)]):=by
  simp only[more_at,aN,if_true,more2,h1];rfl
 obtain⟨s',h3,h4,h5,h6⟩:=app_rowU (n:=l.length) (k:=1) hie ze245 (by rw[h1];rfl) h2 hcapp oM (by
  have:(l.length+1)*ie.bytes≤1000001*100:=Nat.mul_le_mul oM h3
  omega) rfl hv (by rw[h1];exact hsl.same fun q m c e=>by rw[aN,if_neg (by have:=hfr q m c e;omega)])
 refine⟨_,s',h3,h s' (by simp at h4;omega) (by simpa [ptrs] using h5) fun b hb hq=>?_⟩
 rw[h6 b (by simp;omega) hq,aN,if_neg oM]
open Classical in
theorem RHpIn.addO{s':St M}{tg:Nat→Nat}{pf b r:Nat}{sl sl' tl:Value}{bs:List Nat}{o':Ob}{OO:Nat→Prop}(h:RHpIn lo s p H N O tg pf sl tl bs)(hn:s.next≤s'.next)(hk:∀ c,O c→tg c≠0→s'.at' c=s.at' c)
  (hp:s'.at' p=some (.cells [sl',.int .i64 (H.maxO:Int),.int .i64 (H.maxP:Int),.pointer (some ⟨pf,0,none⟩),tl] 156 true))(hsl:SlU 245 1 s' sl' (ptrs (bs ++ [b])) (bs ++ [b]).length)(hr:∀ q n c,sl' = .slice (some q) n c→q.block=r)
  (hr1:¬ O r∧lo≤r∧r<s'.next)(hOO:∀ c,OO c→¬ O c∧c≠r)(hB:RObAt lo s' N b o' OO)(hok:HOk { H with obs:=H.obs ++ [o'] }) :
  RHpIn lo s' p { H with obs:=H.obs ++ [o'] } N (fun c=>(O c∧tg c≠bs.length+3)∨OO c∨c=r) (fun c=>if OO c then bs.length+3 else if c=r then 0 else tg c) pf sl' tl (bs ++ [b]):=by
 have hrp:r≠p:=fun e=>hr1.1 (e▸h.pin.1)
 have hold:∀ k,k≠bs.length+3→k≠0→(fun c=>((O c∧tg c≠bs.length+3)∨OO c∨c=r)∧(if OO c then bs.length+3 else if c=r then 0 else tg c)=k)=fun c=>O c∧tg c=k:=by
  intro k hk1 hk2
  funext c
  apply propext
  by_cases h1:OO c
  ·simp only[h1,if_true,true_or,or_true,true_and]
   exact⟨fun e=>absurd e.symm hk1,fun e=>absurd e.1 (hOO c h1).1⟩
  ·by_cases h2:c=r
   ·subst h2
    simp only[h1,if_false,if_true,or_true,true_and]
    exact⟨fun e=>absurd e.symm hk2,fun e=>absurd e.1 hr1.1⟩
   ·simp only[h1,h2,if_false,or_false]
    exact⟨fun ⟨⟨a,_⟩,b⟩=>⟨a,b⟩,fun ⟨a,b⟩=>⟨⟨a,oM⟩,b⟩⟩
 have hnew:(fun c=>((O c∧tg c≠bs.length+3)∨OO c∨c=r)∧(if OO c then bs.length+3 else if c=r then 0 else tg c)=bs.length+3)=OO:=by
  funext c
  apply propext
  by_cases h1:OO c
  ·simp[h1]
  ·by_cases h2:c=r
   ·subst h2
    simp[h1]
   ·simp only[h1,h2,if_false,or_false,iff_false]
    exact fun ⟨⟨_,a⟩,b⟩=>a b
 have hpO:¬ OO p:=fun hc=>(hOO p hc).1 h.pin.1
 refine⟨fun c hc=>?_,hok,h.tn,⟨.inl ⟨h.pin.1,by rw[h.pin.2];omega⟩,?_⟩,hp,hsl,fun q n c e=>?_,?_,h.ta.same fun q n c e=>?_,fun q n c e=>?_,by simp[h.len],fun i b' o h1 h2=>?_⟩
 ·rcases hc with ⟨hc,_⟩|hc|rfl
  ·have:=h.own c hc;omega
  ·exact hB.own c hc
  ·exact hr1.2
 ·rw[if_neg hpO,if_neg (fun e=>hrp e.symm)];exact h.pin.2
 ·have:=hr q n c e
  rw[this]
  exact⟨.inr (.inr rfl),by rw[if_neg (fun hc=>(hOO r hc).2 rfl),if_pos rfl],hrp⟩
 ·rw[hold 1 oM oM]
  exact h.fo.same hn fun c hc=>hk c hc.1 (by rw[hc.2];omega)
 ·have:=h.taO q n c e
  exact hk _ this.1 (by rw[this.2];omega)
 ·have h3:=congrFun (hold 2 oM oM) q.block
  exact h3.mpr (h.taO q n c e)
 ·by_cases hi:i<bs.length
  ·rw[List.getElem?_append_left hi]at h1
   rw[List.getElem?_append_left (by rw[← h.len];exact hi)]at h2
   rw[hold (i+3) oM oM]
   exact (h.obj i b' o h1 h2).same hn fun c hc=>hk c hc.1 (by rw[hc.2];omega)
  ·have h0:i=bs.length:=by
    have:=(List.getElem?_eq_some_iff.1 h1).1
    simp at this;omega
   subst h0
   rw[List.getElem?_append_right (Nat.le_refl _)]at h1
   rw[List.getElem?_append_right (by rw[← h.len];exact Nat.le_refl _),← h.len]at h2
   simp at h1 h2
   subst h1 h2
   rw[hnew];exact hB
theorem rmake_spec(h:RHpAt lo s p H N O)(hlo:lo≤s.next)(hR:∀ s' O',RHpAt lo s' p (makeH H) N O'→Upd s s' O O'→R (makeV H) s'):QC prog w0 102 #[.pointer (some ⟨p,0,none⟩)] s R:=by
 refine wfun2 hmix ok102 func102 rfl ntmps102 results102 (by simp) ?_
 obtain⟨hpro,tg,pf,sl,tl,bs,h⟩:=h
 have hhb:=h.bl
 have hlim:=h.ok.lim
 have hlen:=h.len
 obtain⟨an,cn,rfl⟩:∃ a c,sl = .slice a bs.length c:=by
  rcases h.row with ⟨e1,_,rfl⟩|⟨b2,junk,rfl,_⟩
  ·exact⟨none,0,by rw[e1]⟩
  ·exact⟨_,_,rfl⟩
 by_cases hmx:(H.maxO:Int)≤(bs.length:Int)
 ·have e1:makeH H=H:=by unfold makeH;rw[if_pos oM]
  have e2:makeV H = .tuple #[.int .i64 0,.int .i64 40]:=by unfold makeV;rw[if_pos oM]
  rw[e1,e2]at hR
  simp only[↓Zd,Zp,simprocAttr,cld2,HEx,REx,hhb,hmx,ord102]
  exact hR _ _ ⟨hpro,tg,pf,_,tl,bs,h⟩ .refl
 ·have e1:makeH H={ H with obs:=H.obs ++ [{ L:=[],shape:=growN H.F H.most (0,[]),proto:=0,epoch:=0 }],F:=growF H.F H.most (0,[]) }:=by unfold makeH;rw[if_neg oM]
  have e2:makeV H = .tuple #[.int .i64 ((bs.length+1:Nat):Int),.int .i64 0]:=by unfold makeV;rw[if_neg oM,hlen]
  have hok:=make_ok h.ok
  have hpr:=make_pro hpro
  rw[e1]at hok hpr
  rw[e1,e2]at hR
  have hbo:∀ (v:Int),cbuild prog 249 #[(3,.int .i64 v)]=some (.agg #[.int .i64 0,.slice none 0 0,.slice none 0 0,.int .i64 0,.int .i64 v]):=fun v=>by kernel_rfl
  simp only[↓Zd,Zp,simprocAttr,cld2,HEx,REx,hhb,hmx,ord102,co179]
  refine rroot_spec (q:=0) h.fo hlo fun s3 O3 hF3 hU3 _=>?_
  have hn3:=hU3.next
  have hokF:HOk { H with F:=growF H.F H.most (0,[]) }:=h.ok.more (F':=growF H.F H.most (0,[])) (T':=H.T) (fun j t ht=>growF_get ht) (fun _ _ _=>rfl) (Nat.le_refl _) h.ok.nodup (fun j t ht y hy=>by
   rcases growF_mem ht with h1|rfl
   ·exact h.ok.ids j t h1 y hy
   ·cases hy)
  have h3:=h.newF hU3 hF3 hokF
  have hU3':=re_upd hU3
  have hhb3:=h3.bl
  generalize hO4:reO O tg 1 O3=O4 at h3 hU3'
  generalize hT4:reT tg 1 O3=tg4 at h3
  have hpO4:=h3.pin.1
  have hpn3:=(h3.own p hpO4).2
  have hpne3:¬ p=s3.next:=oM
  have hfr3:∀ q m c,Value.slice an bs.length cn = .slice (some q) m c→q.block<s3.next:=fun q m c e=>(h3.own _ (h3.rowO q m c e).1).2
  simp only[↓Zd,Zp,Zs,simprocAttr,HEx,REx,hhb3,hbo,rowRPtr]
  have l4:s3.le (s3.new (.cells [.int .i64 0,.slice none 0 0,.slice none 0 0,.int .i64 0,.int .i64 ((growN H.F H.most (0,[]):Nat):Int)] 249 true)):=lN (lR _)
  refine wch_app_rptr (l:=bs) (a:=s3.next) oM (h3.row.same fun q n c e=>l4.2 _ (hfr3 q n c e)) (fun q m c e=>by have:=hfr3 q m c e;simp only[nN];omega) fun s5 hn5 hb5 hk5=>?_
  simp only[nN]at hn5 hb5 hk5
  have hold:∀ c,c<s3.next→(∀ q m k,Value.slice an bs.length cn = .slice (some q) m k→c≠q.block)→s5.at' c=s3.at' c:=fun c hc hq=>by rw[hk5 c oM hq,aN,if_neg oM]
  have hp5:s5.at' p=some (.cells [.slice an bs.length cn,.int .i64 (H.maxO:Int),.int .i64 (H.maxP:Int),.pointer (some ⟨pf,0,none⟩),tl] 156 true):=by
   rw[hold p hpn3 (fun q m c e e2=>(h3.rowO q m c e).2.2 e2.symm)];exact hhb3
  simp only[↓Zd,Zp,Zs,simprocAttr,REx,hp5]
  have hB:RObAt lo (s5.put p (.cells [.slice (some ⟨s3.next+1+1,0,none⟩) (bs.length+1) UNK,.int .i64 (H.maxO:Int),.int .i64 (H.maxP:Int),.pointer (some ⟨pf,0,none⟩),tl] 156 true)) N s3.next { L:=[],shape:=growN H.F H.most (0,[]),proto:=0,epoch:=0 } (fun c=>c=s3.next):=by
   refine⟨?_,rfl,Nat.zero_le _,.slice none 0 0,.slice none 0 0,⟨?_,.inl ⟨rfl,rfl,rfl⟩,.inl ⟨rfl,rfl,rfl⟩,Nat.zero_le _⟩,⟨?_,(fun q n c e=>by cases e),(fun q n c e=>by cases e),(fun q n c q' n' c' e=>by cases e)⟩,?_⟩
   ·rintro c rfl
    simp only[nU];omega
   ·rw[aP,if_neg (fun e=>hpne3 e.symm),hk5 _ oM (fun q m c e e2=>by have:=hfr3 q m c e;omega),aN,if_pos rfl];rfl
   ·simp only[nU];omega
   ·rintro c (rfl|⟨q,n,k,e,_⟩|⟨q,n,k,e,_⟩)
    ·rfl
    ·cases e
    ·cases e
  have h6:=h3.addO (r:=s3.next+1+1) (b:=s3.next) (by simp only[nU];omega) (fun c hc hct=>by
    rw[aP,if_neg (fun e=>hct (by rw[e];exact h3.pin.2)),hold c (h3.own c hc).2 (fun q m k e e2=>hct (by rw[e2];exact (h3.rowO q m k e).2.1))]) (by rw[aP,if_pos rfl]) (.inr ⟨s3.next+1+1,[],by simp,by rw[aP,if_neg oM,List.append_nil];exact hb5,by rw[ptrs_len,Nat.mul_one]⟩) (fun q n c e=>by cases e;rfl) ⟨fun hc=>by have:=(h3.own _ hc).2;omega,oM,by simp only[nU];omega⟩ (fun c hc=>by
    subst hc
    exact⟨fun hc=>by have:=(h3.own _ hc).2;omega,oM⟩) hB hok
  refine hR _ _ ⟨hpr,_,_,_,_,_,h6⟩ ⟨by simp only[nU];omega,fun c hc hno=>?_,fun c hc=>?_⟩
  ·have hno4:¬ O4 c:=fun h4=>by
    rcases hU3'.own c h4 with g|g
    ·exact hno g
    ·omega
   rw[aP,if_neg (fun e:c=p=>hno4 (e▸hpO4)),hold c oM (fun q m k e e2=>hno4 (by rw[e2];exact (h3.rowO q m k e).1))]
   exact hU3'.keep c hc hno
  ·rcases hc with ⟨hc,_⟩|rfl|rfl
   ·exact hU3'.own c hc
   ·exact .inr oM
   ·exact .inr oM
end
section
variable {M:Type}[Mem M]{w0:World}{s s':St M}{R:Value→St M→Prop}{lo p N:Nat}{H:Hp}{O:Nat→Prop}
theorem rgrow_spec(h:RHpAt lo s p H N O)(hlo:lo≤s.next){i to:Int}{y:ByteArray}{k n:Int}(hN:N+3≤1000000)(hto : -9223372036854775808≤to∧to≤9223372036854775807)
  (hR:∀ s' O',RHpAt lo s' p (growH H i to (k,n,y)) (N+3) O'→Upd s s' O O'→R (.int .i64 (growE H i to)) s'):QC prog w0 197 #[.pointer (some ⟨p,0,none⟩),.int .i64 i,.int .i64 to,vA k n y] s R:=by
 refine wfun2 hmix ok197 func197 rfl ntmps197 results197 (by simp) ?_
 obtain⟨hpro,tg,pf,sl,tl,bs,h⟩:=h
 have hok:=grow_ok h.ok h.fo.ok i to (k,n,y)
 have hpr:=grow_pro h.ok h.fo.ok hpro i to (k,n,y)
 have l1:s.le (s.new (.cells [.int .i64 k,.int .i64 n,.string y] 31 true)):=lN (lR _)
 have hbad:∀ e:Int,e≠0→growE H i to=e→R (.int .i64 e) (s.new (.cells [.int .i64 k,.int .i64 n,.string y] 31 true)):=fun e e0 he=>by
  have e1:growH H i to (k,n,y)=H:=by
   unfold growH
   split
   ·rfl
   ·rw[if_neg oM]
  rw[e1,he]at hR
  exact hR _ _ ⟨hpro,tg,pf,sl,tl,bs,(h.le l1).mono oM⟩ (.of_le l1)
 have h1':=h.le l1
 simp only[↓Zd,Zp,Zs,simprocAttr,HEx,vA,co180]
 refine rhas_spec h1' ?_
 cases hat:obAt H i with
 |none =>
  simp only[↓Zd,Zp,simprocAttr,HEx,vA]
  exact hbad 4 oM (by unfold growE;rw[hat])
 |some o =>
  obtain⟨j,rfl,hj,ho⟩:=obAt_some hat
  obtain⟨b,br,vs,own,ns,vv,hb,hB,esl,hbr,hg,hbrn,hob,hfr,hO⟩:=h1'.at ho
  have hk2:=ix_ok (n:=bs.length) (j:=j) (by rw[h.len];exact hj)
  have wj:=h.w hj
  have hhb:=h1'.bl
  rw[esl]at hhb
  have hhs:=h.bl
  rw[esl]at hhs
  have hpn:=(h.own p h.pin.1).2
  have hp0:¬ p=s.next:=oM
  have hbo:=(h.own _ (hO _ .b).1).2
  have hb0:¬ b=s.next:=oM
  have hbro:=(h.own _ (h.rowO _ _ _ esl).1).2
  simp only at hbro
  have hbr0:¬ br=s.next:=oM
  have hbrs:s.at' br=some (.cells vs 245 own):=by rw[aN,if_neg hbr0]at hbr;exact hbr
  have g1:=hob.bl
  rw[aN,if_neg hb0]at g1
  obtain⟨qn,cn,en⟩:=slc_form hob.nm
  rw[en]at g1
  have hkl:=keysP_len o.L
  have hep:=hB.ep
  have w1:IntKind.i64.wrap ((o.epoch:Int)+1)=((o.epoch+1:Nat):Int):=by rw[wrap_i64 oM];omega
  have hml:o.L.length≤32:=by have:=h.ok.lens j o ho;have:=h.ok.lim;omega
  by_cases hs0:o.shape=0
  ·have hs0':((o.shape:Nat):Int)=0:=oM
   simp only[↓Zd,Zp,simprocAttr,cld2,HEx,REx,vA,hhs,hp0,hbr0,hb0,hbrs,hg,hk2,wj,g1,hs0',ord197]
   exact hbad 2 oM (by unfold growE;rw[hat];simp only[if_pos hs0])
  have hs0':¬ ((o.shape:Nat):Int)=0:=oM
  simp only[↓Zd,Zp,simprocAttr,cld2,HEx,REx,vA,hhs,hp0,hbr0,hb0,hbrs,hg,hk2,wj,g1,hs0',ord197,co256]
  refine rfparent_spec h1'.fo hto ?_
  cases ht:shAt H.F to with
  |none =>
   have hz:¬ (0:Int)=(o.shape:Int):=oM
   simp only[↓Zd,Zp,simprocAttr,cld2,HEx,hb0,g1,hz]
   exact hbad 2 oM (by unfold growE;rw[hat];simp only[if_neg hs0,ht];rw[if_pos oM])
  |some t =>
   by_cases hpar:parId H.F t=o.shape
   ·obtain⟨q,x,l,rfl,f1,f2,f3,f4,f5⟩:=grow_fits (n:=0) h.ok h.fo.ok ho oM ht hpar
    have hpi:((parId H.F (q,x::l):Nat):Int)=(o.shape:Int):=oM
    have hnm:namesOf H.F to=x::l:=by unfold namesOf;rw[ht]
    simp only[hpi]
    by_cases hmx:(H.maxP:Int)≤((keysP o.L).length:Int)
    ·simp only[↓Zd,Zp,simprocAttr,cld2,HEx,REx,hhs,hp0,hb0,g1,hmx]
     exact hbad 42 oM (by unfold growE;rw[hat];simp only[if_neg hs0,ht];rw[if_neg oM,if_pos oM])
    ·have he:growE H ((j+1:Nat):Int) to=0:=by unfold growE;rw[hat];simp only[if_neg hs0,ht];rw[if_neg oM,if_neg oM]
     have e1:growH H ((j+1:Nat):Int) to (k,n,y)=putO H ((j+1:Nat):Int) { L:=o.L ++ [(txt H.T x,k,n,y)],shape:=to.toNat,proto:=o.proto,epoch:=o.epoch+1 }:=by unfold growH;rw[hat];simp only[if_pos he,hnm];rfl
     rw[e1]at hok hpr hR
     rw[he]at hR
     have htn:to=((to.toNat:Nat):Int):=oM
     have hids:=h.ok.ids _ _ f1 x (by simp)
     have hl12:=(h.fo.ok.names _ q (x::l) f1).2
     simp only[↓Zd,Zp,simprocAttr,cld2,HEx,REx,hhs,hp0,hb0,g1,hmx,co257]
     refine rfnames_spec h1'.fo hto fun v hv hvO=>?_
     rw[hnm]at hv
     have hlen:(x::l).reverse.length=l.length+1:=by simp
     obtain⟨bv,vals,ow,ev,hbv,hgv⟩:=hv.get (k:=l.length) oM
     have hlast:(x::l).reverse[l.length]'oM=x:=by simp
     rw[hlast]at hgv
     rw[hlen]at ev
     subst ev
     have wl:IntKind.i64.wrap (((l.length+1:Nat):Int) - 1)=((l.length:Nat):Int):=by
      simp only[List.length_cons]at hl12
      rw[wrap_i64 oM];omega
     have hkv:=ix_ok (n:=l.length+1) (j:=l.length) oM
     have hbvn:¬ bv=s.next:=by
      have:=(h.own _ (hvO _ _ _ rfl).1).2
      simp only at this
      omega
     rw[aN,if_neg hbvn]at hbv
     have hT:=h.tn
     have htx:txtV H.T (x:Int) = .tuple #[.string (txt H.T x),.bool true]:=by
      unfold txtV
      rw[if_pos oM,Int.toNat_natCast]
      rfl
     simp only[↓Zd,Zp,simprocAttr,cld2,HEx,REx,hbvn,hbv,hgv,wl,hkv,co258]
     refine rttext_spec oM h1'.bl h1'.ta ?_
     rw[htx]
     simp only[↓Zd,Zp,Zs,simprocAttr,HEx,REx,co184]
     refine rdset_spec hob hfr (h.ok.keys j o ho) oM fun s7 ns7 vs7 hob7 hfr7 hU7=>?_
     rw[setP_none _ _ _ f5]at hob7
     have g7:=hob7.bl
     simp only[↓Zd,Zp,Zs,simprocAttr,HEx,REx,g7,w1]
     rw[htn]
     have hob9:=(hob7.head hfr7 (.int .i64 (o.proto:Int)) (.int .i64 (o.epoch:Int)) (.int .i64 ((to.toNat:Nat):Int))).head hfr7.put (.int .i64 (o.proto:Int)) (.int .i64 ((o.epoch+1:Nat):Int)) (.int .i64 ((to.toNat:Nat):Int))
     obtain⟨O',tg',h8,hU8⟩:=(h1'.mono (N':=N+3) oM).setO (o':={ L:=o.L ++ [(txt H.T x,k,n,y)],shape:=to.toNat,proto:=o.proto,epoch:=o.epoch+1 }) (by have:=l1.1;omega) rfl hj hb hO ((hU7.trans (hang_put .b)).trans (hang_put .b)) hob9 hfr7.put.put (by show o.epoch+1≤_;omega) hok
     exact hR _ _ ⟨hpr,_,_,_,_,_,h8⟩ ((Upd.of_le l1).trans hU8)
   ·have hz:¬ ((parId H.F t:Nat):Int)=(o.shape:Int):=oM
    simp only[↓Zd,Zp,simprocAttr,cld2,HEx,hb0,g1,hz]
    exact hbad 2 oM (by unfold growE;rw[hat];simp only[if_neg hs0,ht];rw[if_pos hpar])
end
section
theorem rcut_spec{a m:Int}(hm:0≤m)(h:R (.int .i64 (max 0 (min a m))) s):QC prog w0 98 #[.int .i64 a,.int .i64 m] s R:=by
 refine wfun2 hmix ok98 func98 rfl ntmps98 results98 (by simp) ?_
 by_cases h1:a<0
 ·rw[show max 0 (min a m)=0 by omega]at h
  simp only[↓Zd,Zp,simprocAttr,h1]
  exact h
 ·by_cases h2:m<a
  ·rw[show max 0 (min a m)=m by omega]at h
   simp only[↓Zd,Zp,simprocAttr,h1,h2]
   exact h
  ·rw[show max 0 (min a m)=a by omega]at h
   simp only[↓Zd,Zp,simprocAttr,h1,h2]
   exact h
theorem rfnew_spec{n:Int}(h:R (.pointer (some ⟨s.next,0,none⟩)) (s.new (.cells [.slice none 0 0,.int .i64 (max 0 (min n 150))] 243 true))):QC prog w0 99 #[.int .i64 n] s R:=by
 refine wfun2 hmix ok99 func99 rfl ntmps99 results99 (by simp) ?_
 have hbF:∀ v:Int,cbuild prog 243 #[(1,.int .i64 v)]=some (.agg #[.slice none 0 0,.int .i64 v]):=fun v=>by kernel_rfl
 by_cases h1:n<0
 ·rw[show max 0 (min n 150)=0 by omega]at h
  have h2:¬ (150:Int)<0:=oM
  simp only[↓Zd,Zp,Zs,simprocAttr,REx,h1,h2,hbF]
  exact h
 ·by_cases h2:150<n
  ·rw[show max 0 (min n 150)=150 by omega]at h
   simp only[↓Zd,Zp,Zs,simprocAttr,REx,h1,h2,hbF]
   exact h
  ·rw[show max 0 (min n 150)=n by omega]at h
   simp only[↓Zd,Zp,Zs,simprocAttr,REx,h1,h2,hbF]
   exact h
theorem rnew_spec{a b c d n:Int}(h:∀ s' p,RHpAt s.next s' p (newH a c n) 0 (fun b=>s.next≤b∧b<s'.next)→s.le s'→R (.pointer (some ⟨p,0,none⟩)) s'):QC prog w0 37 #[.agg #[.int .i64 a,.int .i64 b,.int .i64 c,.int .i64 d],.int .i64 n] s R:=by
 refine wfun2 hmix ok37 func37 rfl ntmps37 results37 (by simp) ?_
 have hbH:∀ (e g:Int) (f:Nat),cbuild prog 156 #[(1,.int .i64 e),(2,.int .i64 g),(3,.pointer (some ⟨f,0,none⟩))]=some (.agg #[.slice none 0 0,.int .i64 e,.int .i64 g,.pointer (some ⟨f,0,none⟩),.slice none 0 0]):=fun e g f=>by kernel_rfl
 simp only[↓Zd,Zp,Zs,simprocAttr,HEx,is24,fa24x0,fa24x2,ord37,co98]
 refine rcut_spec oM ?_
 simp only[↓Zd,Zp,simprocAttr,cld2,HEx,co98]
 refine rcut_spec oM ?_
 simp only[↓Zd,Zp,simprocAttr,HEx,co99]
 refine rfnew_spec ?_
 simp only[↓Zd,Zp,Zs,simprocAttr,REx,hbH]
 have e1:((newH a c n).maxO:Int)=max 0 (min a 200):=by simp only[newH];omega
 have e2:((newH a c n).maxP:Int)=max 0 (min c 32):=by simp only[newH];omega
 have e3:((newH a c n).most:Int)=max 0 (min n 150):=by simp only[newH];omega
 have e4:(newH a c n).most≤150:=oM
 refine h _ _ ⟨newH_pro a c n,(fun c=>if c=s.next+1 then 1 else 0),s.next+1,.slice none 0 0,.slice none 0 0,[],⟨fun b hb=>hb,newH_ok a c n,Nat.zero_le _,⟨⟨oM,by simp only[nN];omega⟩,by rw[if_neg oM]⟩,?_,.inl ⟨rfl,rfl,rfl⟩,(fun q n c e=>by cases e),⟨fun b hb=>hb.1,⟨⟨oM,by simp only[nN];omega⟩,by rw[if_pos rfl]⟩,FOk.nil,⟨Nat.zero_le _,e4⟩,.slice none 0 0,fun _ => .slice none 0 0,?_,.inl ⟨rfl,rfl,rfl⟩,(fun q n c e=>by cases e),fun i t ht=>by simp[newH]at ht⟩,.inl ⟨rfl,rfl,rfl⟩,(fun q n c e=>by cases e),rfl,fun i b o hb _=>by simp at hb⟩⟩ oL
 ·rw[aN,if_pos (by simp only[nN]),e1,e2]
 ·rw[aN,if_neg (by simp only[nN];omega),aN,if_pos (by simp only[nN]),e3]
end
section
variable {lo p N:Nat}{H:Hp}{O:Nat→Prop}
end
theorem Vguard31:Program.eqGuardType prog prog.depth 31=false:=oK
theorem Vstood31:prog.stoodInHeld 31=false:=oK
theorem Vpart31x0(k n:Int)(x:ByteArray):pureRun prog (part 3 #[.int .i64 k,.int .i64 n,.string x] 0)=some (.int .i64 k):=oK
theorem Vpart31x1(k n:Int)(x:ByteArray):pureRun prog (part 3 #[.int .i64 k,.int .i64 n,.string x] 1)=some (.int .i64 n):=oK
theorem Vpart31x2(k n:Int)(x:ByteArray):pureRun prog (part 9 #[.int .i64 k,.int .i64 n,.string x] 2)=some (.string x):=oK
theorem Veq31{k n k' n':Int}{x x':ByteArray}:pureRun prog (Go.binOp .eql 31 (vA k n x) (vA k' n' x'))=some (.bool ((k == k') && ((n == n') && (decide (x=x') && true)))):=by
 unfold vA
 simp only[Go.binOp,pureRun_bind]
 have:=pr_eqStruct (P:=prog) (d:=9999) (xs:=#[.int .i64 k,.int .i64 n,.string x]) (ys:=#[.int .i64 k',.int .i64 n',.string x']) underlying31 Vstood31
 rw[show Op.equal 31 (Value.agg #[.int .i64 k,.int .i64 n,.string x]) (Value.agg #[.int .i64 k',.int .i64 n',.string x'])=Op.equalIn (9999+1) 31 (Value.agg #[.int .i64 k,.int .i64 n,.string x]) (Value.agg #[.int .i64 k',.int .i64 n',.string x']) from rfl,this]
 rw[pr_eqCons (by decide) (Vpart31x0 k n x) (Vpart31x0 k' n' x') (pr_eqInt (d:=9998) underlying3) (pr_eqCons (by decide) (Vpart31x1 k n x) (Vpart31x1 k' n' x') (pr_eqInt (d:=9998) underlying3) (pr_eqCons (by decide) (Vpart31x2 k n x) (Vpart31x2 k' n' x') (pr_eqString (d:=9998) underlying9) pr_eqNil))]
 rfl
theorem Vsame31{k n k' n':Int}{x x':ByteArray}{ox oy:Operand}:cbin prog .eql 31 ox oy (vA k n x) (vA k' n' x')=some (.bool (decide (k=k') && (decide (n=n') && decide (x=x')))):=by
 have h:=Veq31 (k:=k) (n:=n) (x:=x) (k':=k') (n':=n') (x':=x')
 have h1:plain 6 (vA k n x)=true:=oK
 have h2:plain 6 (vA k' n' x')=true:=oK
 have h3:pureRun prog (eqGuard .eql 31 ox oy (vA k n x) (vA k' n' x'))=some ():=by
  unfold vA eqGuard
  simp only[pureRun_bind,pureRun_program,Option.bind_some,Vguard31,Bool.not_false,if_true,pureRun_ite,pureRun_pure]
  rfl
 unfold vA at h1 h2 h3 h ⊢
 unfold cbin
 dsimp only
 rw[if_pos ⟨h1,h2⟩]
 unfold pure6
 rw[pureRun_bind,h3,Option.bind_some,h]
 show some (Value.bool _)=_
 rw[Bool.and_true]
 congr 2
theorem Vneq57{k n k' n':Int}{x x':ByteArray}:pureRun prog (Go.binOp .neq 31 (vA k n x) (vA k' n' x'))=some (.bool (!((k == k') && ((n == n') && (decide (x=x') && true))))):=by
 unfold vA
 simp only[Go.binOp,pureRun_bind]
 have:=pr_eqStruct (P:=prog) (d:=9999) (xs:=#[.int .i64 k,.int .i64 n,.string x]) (ys:=#[.int .i64 k',.int .i64 n',.string x']) underlying31 Vstood31
 rw[show Op.equal 31 (Value.agg #[.int .i64 k,.int .i64 n,.string x]) (Value.agg #[.int .i64 k',.int .i64 n',.string x'])=Op.equalIn (9999+1) 31 (Value.agg #[.int .i64 k,.int .i64 n,.string x]) (Value.agg #[.int .i64 k',.int .i64 n',.string x']) from rfl,this]
 rw[pr_eqCons (by decide) (Vpart31x0 k n x) (Vpart31x0 k' n' x') (pr_eqInt (d:=9998) underlying3) (pr_eqCons (by decide) (Vpart31x1 k n x) (Vpart31x1 k' n' x') (pr_eqInt (d:=9998) underlying3) (pr_eqCons (by decide) (Vpart31x2 k n x) (Vpart31x2 k' n' x') (pr_eqString (d:=9998) underlying9) pr_eqNil))]
 rfl
theorem Vdiffer57{k n k' n':Int}{x x':ByteArray}{ox oy:Operand}:cbin prog .neq 31 ox oy (vA k n x) (vA k' n' x')=some (.bool (!(decide (k=k') && (decide (n=n') && decide (x=x'))))):=by
 have h:=Vneq57 (k:=k) (n:=n) (x:=x) (k':=k') (n':=n') (x':=x')
 have h1:plain 6 (vA k n x)=true:=oK
 have h2:plain 6 (vA k' n' x')=true:=oK
 have h3:pureRun prog (eqGuard .neq 31 ox oy (vA k n x) (vA k' n' x'))=some ():=by
  unfold vA eqGuard
  simp only[pureRun_bind,pureRun_program,Option.bind_some,Vguard31,Bool.not_false,if_true,pureRun_ite,pureRun_pure]
  rfl
 unfold vA at h1 h2 h3 h ⊢
 unfold cbin
 dsimp only
 rw[if_pos ⟨h1,h2⟩]
 unfold pure6
 rw[pureRun_bind,h3,Option.bind_some,h]
 show some (Value.bool _)=_
 rw[Bool.and_true]
 congr 2
theorem VneSelf{k n:Int}{x:ByteArray}{ox oy:Operand}:cbin prog .neq 31 ox oy (.agg #[.int .i64 k,.int .i64 n,.string x]) (.agg #[.int .i64 k,.int .i64 n,.string x])=some (.bool false):=by
 have:=Vdiffer57 (k:=k) (n:=n) (x:=x) (k':=k) (n':=n) (x':=x) (ox:=ox) (oy:=oy)
 unfold vA at this
 rw[this];simp
end Go.Proofs.Tryz
section
set_option maxRecDepth 100000
namespace Go.Proofs.Tryz
open Go.Cs Go.ChangeShapes Go.WideShapes Go.ChangeAt Go.RowKit Go.ChangeMaps
structure AID where
 a0:Int
 a1:Int
 a2:Int
def actIC(x:AID):List Value:=[.int .i64 x.a0,.int .i64 x.a1,.int .i64 x.a2]
def ActIOk(x:AID):Prop:=I64 x.a0∧I64 x.a1∧I64 x.a2
end Go.Proofs.Tryz
end
section
set_option maxRecDepth 100000
namespace Go.Proofs.Tryz
open Go.Cs Go.ChangeShapes Go.WideShapes Go.ChangeAt Go.RowKit Go.ChangeMaps
theorem I64.le{n:Int}(h:I64 n) : -9223372036854775808≤n∧n≤9223372036854775807:=h
structure CodeD where
 p:Int
 l:Int
 s:Int
 d:Int
 ins:List AID
 us:List AID
 cp:Nat
 oi:Option BI
 ad:Nat→Option Addr
structure CodeV where
 p:Int
 l:Int
 s:Int
 d:Int
 ins:List AID
 ad:Option Addr
 cp:Nat
def codeC(c:CodeV):List Value:=[.int .i64 c.p,.int .i64 c.l,.int .i64 c.s,.int .i64 c.d,.slice c.ad c.ins.length c.cp]
structure CodeOk(c:CodeV):Prop where
 p:I64 c.p
 l:I64 c.l
 s:I64 c.s
 d:I64 c.d
 ins:∀ a∈c.ins,ActIOk a
 len:c.ins.length≤9223372036854775807
def strC(x:ByteArray):List Value:=[.string x]
def val3(x:Int×Int×ByteArray):List Value:=[.int .i64 x.1,.int .i64 x.2.1,.string x.2.2]
end Go.Proofs.Tryz
end
section
set_option maxRecDepth 100000
namespace Go.Proofs.Tryz
open Go.Cs Go.ChangeShapes Go.WideShapes Go.ChangeAt Go.RowKit Go.ChangeMaps
structure A18D where
 a0:Int
 a1:Int
 a2:Int
 a3:ByteArray
 a4:V3
 a5:V3
 a6:V3
def act18C(x:A18D):List Value:=[.int .i64 x.a0,.int .i64 x.a1,.int .i64 x.a2,.string x.a3,.int .i64 x.a4.1,.int .i64 x.a4.2.1,.string x.a4.2.2,.int .i64 x.a5.1,.int .i64 x.a5.2.1,.string x.a5.2.2,.int .i64 x.a6.1,.int .i64 x.a6.2.1,.string x.a6.2.2]
def Act18Ok(x:A18D):Prop:=I64 x.a0∧I64 x.a1∧I64 x.a2∧I64 x.a4.1∧I64 x.a4.2.1∧I64 x.a5.1∧I64 x.a5.2.1∧I64 x.a6.1∧I64 x.a6.2.1
theorem el_A18D{H:Type}{enc:TypeId×Value→H}{W:World}(n:Nat)(l:List Value)(y:DataW H×List MemPlace)(hf:DataW.trod enc prog W 0 (fun _=>true) true n 33 l=some y):∃ a,l=act18C a∧Act18Ok a:=by
 obtain⟨xs,m,_,hx,hl,hlen,hp⟩:=DataW.trod_struct underlying33 hf
 rw[ce33]at hl
 have h0:DataW.trod enc prog W 0 (fun _=>true) true m 3 (List.take (prog.cellsOf 3) (List.drop 0 l))=xs[0]?:=hp 0 _ rfl
 rw[ce3]at h0
 have h1:DataW.trod enc prog W 0 (fun _=>true) true m 3 (List.take (prog.cellsOf 3) (List.drop 1 l))=xs[1]?:=hp 1 _ rfl
 rw[ce3]at h1
 have h2:DataW.trod enc prog W 0 (fun _=>true) true m 3 (List.take (prog.cellsOf 3) (List.drop 2 l))=xs[2]?:=hp 2 _ rfl
 rw[ce3]at h2
 have h3:DataW.trod enc prog W 0 (fun _=>true) true m 9 (List.take (prog.cellsOf 9) (List.drop 3 l))=xs[3]?:=hp 3 _ rfl
 rw[ce9]at h3
 have h4:DataW.trod enc prog W 0 (fun _=>true) true m 31 (List.take (prog.cellsOf 31) (List.drop 4 l))=xs[4]?:=hp 4 _ rfl
 rw[ce31]at h4
 have h5:DataW.trod enc prog W 0 (fun _=>true) true m 31 (List.take (prog.cellsOf 31) (List.drop 7 l))=xs[5]?:=hp 5 _ rfl
 rw[ce31]at h5
 have h6:DataW.trod enc prog W 0 (fun _=>true) true m 31 (List.take (prog.cellsOf 31) (List.drop 10 l))=xs[6]?:=hp 6 _ rfl
 rw[ce31]at h6
 have hlen:xs.length=7:=hlen
 match l,hl,xs,hlen with
 | [c0,c1,c2,c3,c4,c5,c6,c7,c8,c9,c10,c11,c12],_,[y0,y1,y2,y3,y4,y5,y6],_ =>
  simp only[List.drop_zero,List.drop_succ_cons,List.take_succ_cons,List.take_zero,List.getElem?_cons_zero,List.getElem?_cons_succ]at h0 h1 h2 h3 h4 h5 h6
  obtain⟨a0,e0,rfl,w0⟩:=DataW.trod_int underlying3 h0
  simp only[List.cons.injEq,and_true]at e0
  subst e0
  obtain⟨a1,e1,rfl,w1⟩:=DataW.trod_int underlying3 h1
  simp only[List.cons.injEq,and_true]at e1
  subst e1
  obtain⟨a2,e2,rfl,w2⟩:=DataW.trod_int underlying3 h2
  simp only[List.cons.injEq,and_true]at e2
  subst e2
  obtain⟨a3,e3,rfl,w3⟩:=DataW.trod_string underlying9 h3
  simp only[List.cons.injEq,and_true]at e3
  subst e3
  obtain⟨k4,n4,x4,rfl,rfl,rfl,rfl,w4k,w4n,w4x⟩:=open_value_c h4
  obtain⟨k5,n5,x5,rfl,rfl,rfl,rfl,w5k,w5n,w5x⟩:=open_value_c h5
  obtain⟨k6,n6,x6,rfl,rfl,rfl,rfl,w6k,w6n,w6x⟩:=open_value_c h6
  exact⟨⟨a0,a1,a2,a3,(k4,n4,x4),(k5,n5,x5),(k6,n6,x6)⟩,rfl,Go.Cs.fits_i64 w0,Go.Cs.fits_i64 w1,Go.Cs.fits_i64 w2,Go.Cs.fits_i64 w4k,Go.Cs.fits_i64 w4n,Go.Cs.fits_i64 w5k,Go.Cs.fits_i64 w5n,Go.Cs.fits_i64 w6k,Go.Cs.fits_i64 w6n⟩
theorem open_acts18{H:Type}{enc:TypeId×Value→H}{W:World}{r:Reach}{b0:Nat}{v:Value}{d:DataW H}{ps:List MemPlace}(hval:Value.okWide prog W r b0 22 v)(hd:DataW.Trod enc prog W 0 (fun _=>true) true 22 v d ps) :
  ∃ (A us:List A18D) (cp:Nat) (oi:Option BI) (ad:Nat→Option Addr),(∀ ρ,QIn ρ W oi (us.flatMap act18C))∧(∀ (ρ:Ren) j,ρ j=oi→VRel ρ (.slice (ad j) A.length cp) v)∧(∀ a∈A,Act18Ok a)∧(A=[]∨(ad=fun j=>some ⟨j,0,none⟩)∧∀ k,k<A.length→us[k]?=A[k]?)∧A.length≤9223372036854775807:=
 open_rows (c:=13) act18C Act18Ok underlying22 ce33 (fun _=>rfl) (fun a x hx=>by
  simp only[act18C,List.mem_cons,List.not_mem_nil,or_false]at hx
  rcases hx with rfl|rfl|rfl|rfl|rfl|rfl|rfl|rfl|rfl|rfl|rfl|rfl|rfl<;>rfl) oM el_A18D hval hd
theorem acts18_cut:∀ (l:List A18D) (k:Nat) (x:A18D),l[k]?=some x→k*13+13≤(l.flatMap act18C).length∧List.take 13 (List.drop (k*13) (l.flatMap act18C))=act18C x:=by
 intro l
 induction l with
 |nil=>intro k x h;simp at h
 |cons y l ih =>
  intro k x h
  rw[List.flatMap_cons]
  cases k with
  |zero =>
   simp at h;subst h
   exact⟨by rw[List.length_append];show 0*13+13≤13+_;omega,rfl⟩
  |succ k =>
   obtain⟨h1,h2⟩:=ih k x (by simpa using h)
   refine⟨by rw[List.length_append];show _≤13+_;omega,?_⟩
   rw[show (k+1)*13=13+k*13 by omega,← List.drop_drop]
   exact h2
end Go.Proofs.Tryz
end
namespace Go.Proofs.Tryz
open Go.Cs
open Go.RowKit (Below)
set_option maxRecDepth 100000
attribute [local irreducible] QC WLoop WScope CRound WRange
set_option maxHeartbeats 32000000
variable {M:Type}[Mem M]{w0:World}{s:St M}{R:Value→St M→Prop}
def TAx:=(aI (aI (aI (aI (aI (aI (aI @underlying90 @sz90) (aI @is90 @ce90)) (aI (aI @ag90 @ze90) (aI @fa90x0 @fa90x1))) (aI (aI (aI @fa90x2 @fa90x3) (aI @fa90x4 @fa90x5)) (aI (aI @fa90x6 @fa90x7) (aI @fa90x8 @fa90x9)))) (aI (aI (aI (aI @fa90x10 @fa90x11) (aI @underlying25 @sz25)) (aI (aI @is25 @ce25) (aI @ag25 @ze25))) (aI (aI (aI @nt25 @nn25) (aI @nf25 @ng25)) (aI (aI @underlying193 @sz193) (aI @is193 @ce193))))) (aI (aI (aI (aI (aI @ag193 @ze193) (aI @fa193x0 @fa193x1)) (aI (aI @fa193x2 @underlying78) (aI @sz78 @is78))) (aI (aI (aI @ce78 @ag78) (aI @ze78 @nt78)) (aI (aI @nn78 @nf78) (aI @ng78 @underlying24)))) (aI (aI (aI (aI @sz24 @is24) (aI @ce24 @ag24)) (aI (aI @ze24 @fa24x0) (aI @fa24x1 @fa24x2))) (aI (aI (aI @fa24x3 @underlying39) (aI @sz39 @is39)) (aI (aI @ce39 @ag39) (aI @ze39 @underlying88)))))) (aI (aI (aI (aI (aI (aI @sz88 @is88) (aI @ce88 @ag88)) (aI (aI @ze88 @underlying9) (aI @sz9 @is9))) (aI (aI (aI @ce9 @ag9) (aI @ze9 @underlying130)) (aI (aI @sz130 @is130) (aI @ce130 @ag130)))) (aI (aI (aI (aI @ze130 @underlying167) (aI @sz167 @is167)) (aI (aI @ce167 @ag167) (aI @underlying43 @sz43))) (aI (aI (aI @is43 @ce43) (aI @ag43 @underlying120)) (aI (aI @sz120 @is120) (aI @ce120 @ag120))))) (aI (aI (aI (aI (aI @underlying87 @sz87) (aI @is87 @ce87)) (aI (aI @ag87 @ze87) (aI @fa87x2 @underlying209))) (aI (aI (aI @sz209 @is209) (aI @ce209 @ag209)) (aI (aI @ze209 @nt209) (aI @nn209 @nf209)))) (aI (aI (aI (aI @ng209 @underlying2) (aI @sz2 @is2)) (aI (aI @ce2 @ag2) (aI @ze2 @underlying211))) (aI (aI (aI @sz211 @is211) (aI @ce211 @ag211)) (aI (aI @ze211 @nt211) (aI @nn211 (aI @nf211 @ng211))))))))
structure StD where
 H:Hp
 g:List (Int×Int×ByteArray)
 l0:Int
 l1:Int
 l2:Int
 l3:Int
 fuel:Int
 taken:Int
 depth:Int
 out:List ByteArray
 tch:List Int
 kind:Int
 err:Int
 vk:Int
 vn:Int
 vx:ByteArray
structure StN(D:StD)(N:Nat):Prop where
 fuel:0≤D.taken∧D.taken≤D.fuel∧D.fuel≤1048576
 depth:0≤D.depth∧D.depth≤1000000
 lim:0≤D.l1∧D.l1≤1000000∧0≤D.l3∧D.l3≤1000000
 out:D.out.length≤N
 tch:D.tch.length≤N
 glob:D.g.length≤24
 n:32≤N
def blkOf:Value→Option Nat
 |.slice (some a) _ _=>some a.block
 |_=>none
def ownS(q gb:Nat)(ov tv:Value)(O:Nat→Prop):Nat→Prop:=fun b=>b=q∨b=gb∨blkOf ov=some b∨blkOf tv=some b∨O b
def stC(D:StD)(p gb:Nat)(ov tv:Value):List Value:=[.pointer (some ⟨p,0,none⟩),.pointer none,.int .i64 D.l0,.int .i64 D.l1,.int .i64 D.l2,.int .i64 D.l3,.slice (some ⟨gb,0,none⟩) D.g.length D.g.length,.int .i64 D.fuel,.int .i64 D.taken,.int .i64 D.depth,ov,tv,.int .i64 D.kind,.int .i64 D.err,.int .i64 D.vk,.int .i64 D.vn,.string D.vx]
section
structure StIn(lo:Nat)(s:St M)(q:Nat)(D:StD)(N:Nat)(O:Nat→Prop)(p gb:Nat)(ov tv:Value):Prop where
 heap:HpAt lo s p D.H N O
 bl:s.at' q=some (.cells (stC D p gb ov tv) 90 true)
 num:StN D N
 q0:lo≤q∧q<s.next∧¬ O q
 g0:lo≤gb∧gb<s.next∧¬ O gb∧gb≠q
 gl:s.at' gb=some (.cells (D.g.flatMap val3) 31 true)
 so:SlC 9 1 s ov (D.out.map .string) D.out.length
 st:SlC 3 1 s tv (D.tch.map (.int .i64)) D.tch.length
 o0:∀ b,blkOf ov=some b→lo≤b∧b<s.next∧¬ O b∧b≠q∧b≠gb
 t0:∀ b,blkOf tv=some b→lo≤b∧b<s.next∧¬ O b∧b≠q∧b≠gb∧blkOf ov≠some b
theorem slc_to{e:TypeId}{sz:Nat}{s s':St M}{sl:Value}{cs:List Value}{n:Nat}(h:SlC e sz s sl cs n)(hs:∀ b,blkOf sl=some b→s'.at' b=s.at' b):SlC e sz s' sl cs n:=
 h.same fun a m c e=>hs a.block (by rw[e];rfl)
theorem StN.mono{D:StD}{N N':Nat}(h:StN D N)(hN:N≤N'):StN D N':=
 ⟨h.fuel,h.depth,h.lim,by have:=h.out;omega,by have:=h.tch;omega,h.glob,by have:=h.n;omega⟩
variable {lo q N p gb:Nat}{D:StD}{O:Nat→Prop}{ov tv:Value}
theorem StIn.same{s':St M}(h:StIn lo s q D N O p gb ov tv)(hn:s.next≤s'.next)(hs:∀ b,ownS q gb ov tv O b→s'.at' b=s.at' b):StIn lo s' q D N O p gb ov tv:=by
 obtain⟨a1,a2,a3,a4,a5,a6,a7,a8,a9,a10⟩:=h
 refine⟨a1.same hn fun c hc=>hs c (.inr (.inr (.inr (.inr hc)))),(hs q (.inl rfl)).trans a2,a3,⟨a4.1,oM,a4.2.2⟩,⟨a5.1,oM,a5.2.2⟩,(hs gb (.inr (.inl rfl))).trans a6,slc_to a7 fun b hb=>hs b (.inr (.inr (.inl hb))),slc_to a8 fun b hb=>hs b (.inr (.inr (.inr (.inl hb)))),fun b hb=>?_,fun b hb=>?_⟩
 ·have:=a9 b hb;exact⟨this.1,oM,this.2.2⟩
 ·have:=a10 b hb;exact⟨this.1,oM,this.2.2⟩
theorem StIn.own(h:StIn lo s q D N O p gb ov tv):∀ b,ownS q gb ov tv O b→lo≤b∧b<s.next:=by
 rintro b (rfl|rfl|hb|hb|hb)
 ·exact⟨h.q0.1,h.q0.2.1⟩
 ·exact⟨h.g0.1,h.g0.2.1⟩
 ·have:=h.o0 b hb;exact⟨this.1,this.2.1⟩
 ·have:=h.t0 b hb;exact⟨this.1,this.2.1⟩
 ·exact h.heap.own b hb
theorem StIn.le{s':St M}(h:StIn lo s q D N O p gb ov tv)(hs:s.le s'):StIn lo s' q D N O p gb ov tv:=h.same hs.1 fun b hb=>hs.2 b (h.own b hb).2
theorem StIn.mono{N':Nat}(h:StIn lo s q D N O p gb ov tv)(hN:N≤N'):StIn lo s q D N' O p gb ov tv:=by
 obtain⟨a1,a2,a3,a4,a5,a6,a7,a8,a9,a10⟩:=h
 exact⟨a1.mono hN,a2,a3.mono hN,a4,a5,a6,a7,a8,a9,a10⟩
theorem StIn.heaped{s':St M}{H':Hp}{N':Nat}{O':Nat→Prop}(h:StIn lo s q D N O p gb ov tv)(hN:N≤N')(hH:HpAt lo s' p H' N' O')(hU:Upd s s' O O'):StIn lo s' q { D with H:=H' } N' O' p gb ov tv∧Upd s s' (ownS q gb ov tv O) (ownS q gb ov tv O'):=by
 obtain⟨a1,a2,a3,a4,a5,a6,a7,a8,a9,a10⟩:=h
 have hn:=hU.next
 have hO':∀ b,b<s.next→¬ O b→¬ O' b:=fun b hb hb2 hb3=>by rcases hU.own b hb3 with h|h;exact hb2 h;omega
 have a3:=a3.mono hN
 refine⟨⟨hH,(hU.keep q a4.2.1 a4.2.2).trans a2,⟨a3.fuel,a3.depth,a3.lim,a3.out,a3.tch,a3.glob,a3.n⟩,⟨a4.1,oM,hO' q a4.2.1 a4.2.2⟩,⟨a5.1,oM,hO' gb a5.2.1 a5.2.2.1,a5.2.2.2⟩,(hU.keep gb a5.2.1 a5.2.2.1).trans a6,slc_to a7 fun b hb=>hU.keep b (a9 b hb).2.1 (a9 b hb).2.2.1,slc_to a8 fun b hb=>hU.keep b (a10 b hb).2.1 (a10 b hb).2.2.1,fun b hb=>?_,fun b hb=>?_⟩,hn,fun b hb ho=>hU.keep b hb fun h=>ho (.inr (.inr (.inr (.inr h)))),?_⟩
 ·have:=a9 b hb;exact⟨this.1,oM,hO' b this.2.1 this.2.2.1,this.2.2.2⟩
 ·have:=a10 b hb;exact⟨this.1,oM,hO' b this.2.1 this.2.2.1,this.2.2.2⟩
 ·rintro b (hb|hb|hb|hb|hb)
  ·exact .inl (.inl hb)
  ·exact .inl (.inr (.inl hb))
  ·exact .inl (.inr (.inr (.inl hb)))
  ·exact .inl (.inr (.inr (.inr (.inl hb))))
  ·rcases hU.own b hb with h|h
   ·exact .inl (.inr (.inr (.inr (.inr h))))
   ·exact .inr h
theorem StIn.puts{s':St M}{D':StD}(h:StIn lo s q D N O p gb ov tv)(hn:s.next≤s'.next)(hq:s'.at' q=some (.cells (stC D' p gb ov tv) 90 true))(hk:∀ b,b<s.next→b≠q→s'.at' b=s.at' b)(hH:D'.H=D.H)(hg:D'.g=D.g)(ho:D'.out=D.out)(ht:D'.tch=D.tch)(hN:StN D' N):StIn lo s' q D' N O p gb ov tv∧Upd s s' (ownS q gb ov tv O) (ownS q gb ov tv O):=by
 have hown:=h.own
 obtain⟨a1,a2,a3,a4,a5,a6,a7,a8,a9,a10⟩:=h
 refine⟨⟨by rw[hH];exact a1.same hn fun c hc=>hk c (a1.own c hc).2 fun e=>a4.2.2 (e▸hc),hq,hN,⟨a4.1,oM,a4.2.2⟩,⟨a5.1,oM,a5.2.2⟩,by rw[hg];exact (hk gb a5.2.1 a5.2.2.2).trans a6,by rw[ho];exact slc_to a7 fun b hb=>hk b (a9 b hb).2.1 (a9 b hb).2.2.2.1,by rw[ht];exact slc_to a8 fun b hb=>hk b (a10 b hb).2.1 (a10 b hb).2.2.2.1,fun b hb=>?_,fun b hb=>?_⟩,hn,fun b hb ho=>hk b hb fun e=>ho (.inl e),fun b hb => .inl hb⟩
 ·have:=a9 b hb;exact⟨this.1,oM,this.2.2⟩
 ·have:=a10 b hb;exact⟨this.1,oM,this.2.2⟩
theorem StIn.putG{s':St M}{g':List (Int×Int×ByteArray)}(h:StIn lo s q D N O p gb ov tv)(hn:s.next≤s'.next)(hl:g'.length=D.g.length)(hg:s'.at' gb=some (.cells (g'.flatMap val3) 31 true))(hk:∀ b,b<s.next→b≠gb→s'.at' b=s.at' b):StIn lo s' q { D with g:=g' } N O p gb ov tv∧Upd s s' (ownS q gb ov tv O) (ownS q gb ov tv O):=by
 obtain⟨a1,a2,a3,a4,a5,a6,a7,a8,a9,a10⟩:=h
 refine⟨⟨a1.same hn fun c hc=>hk c (a1.own c hc).2 fun e=>a5.2.2.1 (e▸hc),?_,⟨a3.fuel,a3.depth,a3.lim,a3.out,a3.tch,by rw[hl];exact a3.glob,a3.n⟩,⟨a4.1,oM,a4.2.2⟩,⟨a5.1,oM,a5.2.2⟩,hg,slc_to a7 fun b hb=>hk b (a9 b hb).2.1 (a9 b hb).2.2.2.2,slc_to a8 fun b hb=>hk b (a10 b hb).2.1 (a10 b hb).2.2.2.2.1,fun b hb=>?_,fun b hb=>?_⟩,hn,fun b hb ho=>hk b hb fun e=>ho (.inr (.inl e)),fun b hb => .inl hb⟩
 ·rw[hk q a4.2.1 (Ne.symm a5.2.2.2),a2]
  unfold stC
  simp only[hl]
 ·have:=a9 b hb;exact⟨this.1,oM,this.2.2⟩
 ·have:=a10 b hb;exact⟨this.1,oM,this.2.2⟩
theorem StIn.outs{s':St M}{x:ByteArray}{b:Nat}(h:StIn lo s q D N O p gb ov tv)(hn:s.next≤b∧b<s'.next)(hb:s'.at' b=some (.cells ((D.out ++ [x]).map .string) 9 true))(hq:s'.at' q=some (.cells (stC { D with out:=D.out ++ [x] } p gb (.slice (some ⟨b,0,none⟩) (D.out.length+1) UNK) tv) 90 true))(hk:∀ c,c<s.next→c≠q→blkOf ov≠some c→s'.at' c=s.at' c):StIn lo s' q { D with out:=D.out ++ [x] } (N+1) O p gb (.slice (some ⟨b,0,none⟩) (D.out.length+1) UNK) tv∧Upd s s' (ownS q gb ov tv O) (ownS q gb (.slice (some ⟨b,0,none⟩) (D.out.length+1) UNK) tv O):=by
 obtain⟨a1,a2,a3,a4,a5,a6,a7,a8,a9,a10⟩:=h
 have e0:blkOf (.slice (some ⟨b,0,none⟩) (D.out.length+1) UNK)=some b:=rfl
 refine⟨⟨(a1.same oM fun c hc=>hk c (a1.own c hc).2 (fun e=>a4.2.2 (e▸hc)) fun e=>(a9 c e).2.2.1 hc).mono oM,hq,⟨a3.fuel,a3.depth,a3.lim,by rw[List.length_append];have:=a3.out;simp;omega,by have:=a3.tch;show D.tch.length≤_;omega,a3.glob,by have:=a3.n;omega⟩,⟨a4.1,oM,a4.2.2⟩,⟨a5.1,oM,a5.2.2⟩,(hk gb a5.2.1 a5.2.2.2 fun e=>(a9 gb e).2.2.2.2 rfl).trans a6,?_,slc_to a8 fun c hc=>hk c (a10 c hc).2.1 (a10 c hc).2.2.2.1 (a10 c hc).2.2.2.2.2,fun c hc=>?_,fun c hc=>?_⟩,oM,fun c hc ho=>hk c hc (fun e=>ho (.inl e)) fun e=>ho (.inr (.inr (.inl e))),?_⟩
 ·refine .inr ⟨b,UNK,by simp,.inl rfl,hb,by simp⟩
 ·rw[e0]at hc
  cases hc
  refine⟨oM,hn.2,fun hc=>?_,oM,oM⟩
  have:=(a1.own b hc).2;omega
 ·have:=a10 c hc
  rw[e0]
  exact⟨this.1,oM,this.2.2.1,this.2.2.2.1,this.2.2.2.2.1,fun e=>by cases e;omega⟩
 ·rintro c (hc|hc|hc|hc|hc)
  ·exact .inl (.inl hc)
  ·exact .inl (.inr (.inl hc))
  ·rw[e0]at hc;cases hc;exact .inr hn.1
  ·exact .inl (.inr (.inr (.inr (.inl hc))))
  ·exact .inl (.inr (.inr (.inr (.inr hc))))
theorem StIn.tchs{s':St M}{x:Int}{b:Nat}(h:StIn lo s q D N O p gb ov tv)(hn:s.next≤b∧b<s'.next)(hb:s'.at' b=some (.cells ((D.tch ++ [x]).map (.int .i64)) 3 true))(hq:s'.at' q=some (.cells (stC { D with tch:=D.tch ++ [x] } p gb ov (.slice (some ⟨b,0,none⟩) (D.tch.length+1) UNK)) 90 true))(hk:∀ c,c<s.next→c≠q→blkOf tv≠some c→s'.at' c=s.at' c):StIn lo s' q { D with tch:=D.tch ++ [x] } (N+1) O p gb ov (.slice (some ⟨b,0,none⟩) (D.tch.length+1) UNK)∧Upd s s' (ownS q gb ov tv O) (ownS q gb ov (.slice (some ⟨b,0,none⟩) (D.tch.length+1) UNK) O):=by
 obtain⟨a1,a2,a3,a4,a5,a6,a7,a8,a9,a10⟩:=h
 have e0:blkOf (.slice (some ⟨b,0,none⟩) (D.tch.length+1) UNK)=some b:=rfl
 refine⟨⟨(a1.same oM fun c hc=>hk c (a1.own c hc).2 (fun e=>a4.2.2 (e▸hc)) fun e=>(a10 c e).2.2.1 hc).mono oM,hq,⟨a3.fuel,a3.depth,a3.lim,by have:=a3.out;show D.out.length≤_;omega,by rw[List.length_append];have:=a3.tch;simp;omega,a3.glob,by have:=a3.n;omega⟩,⟨a4.1,oM,a4.2.2⟩,⟨a5.1,oM,a5.2.2⟩,(hk gb a5.2.1 a5.2.2.2 fun e=>(a10 gb e).2.2.2.2.1 rfl).trans a6,slc_to a7 fun c hc=>hk c (a9 c hc).2.1 (a9 c hc).2.2.2.1 fun e=>(a10 c e).2.2.2.2.2 hc,?_,fun c hc=>?_,fun c hc=>?_⟩,oM,fun c hc ho=>hk c hc (fun e=>ho (.inl e)) fun e=>ho (.inr (.inr (.inr (.inl e)))),?_⟩
 ·refine .inr ⟨b,UNK,by simp,.inl rfl,hb,by simp⟩
 ·have:=a9 c hc;exact⟨this.1,oM,this.2.2⟩
 ·rw[e0]at hc
  cases hc
  refine⟨oM,hn.2,fun hc=>?_,oM,oM,fun e=>?_⟩
  ·have:=(a1.own b hc).2;omega
  ·have:=(a9 b e).2.1;omega
 ·rintro c (hc|hc|hc|hc|hc)
  ·exact .inl (.inl hc)
  ·exact .inl (.inr (.inl hc))
  ·exact .inl (.inr (.inr (.inl hc)))
  ·rw[e0]at hc;cases hc;exact .inr hn.1
  ·exact .inl (.inr (.inr (.inr (.inr hc))))
def zV:Int×Int×ByteArray:=(0,0,⟨#[]⟩)
def endS(D:StD)(kind e:Int)(v:Int×Int×ByteArray):StD:=if D.kind=0 then { D with kind:=kind,err:=e,vk:=v.1,vn:=v.2.1,vx:=v.2.2 } else D
def needS(D:StD)(e:Int):StD:=if e=0 then D else if e=40∨e=41∨e=42∨e=43 then endS D 5 e zV else endS D 3 e zV
def isS(D:StD)(so:Bool):StD:=if so then D else needS D 30
def goesB(D:StD):Bool:=decide (D.kind=0)
theorem StN.endS{D:StD}{N:Nat}{k e:Int}{v:Int×Int×ByteArray}(h:StN D N):StN (endS D k e v) N:=by
 unfold Go.Proofs.Tryz.endS
 split
 ·exact⟨h.fuel,h.depth,h.lim,h.out,h.tch,h.glob,h.n⟩
 ·exact h
end
section
variable {lo q N p gb:Nat}{D:StD}{O:Nat→Prop}{ov tv:Value}
theorem sover_spec(h:StIn lo s q D N O p gb ov tv)(hR:R (.bool (!goesB D)) s):QC prog w0 26 #[.pointer (some ⟨q,0,none⟩)] s R:=by
 refine wfun2 hmix ok26 func26 rfl ntmps26 results26 (by simp) ?_
 have hb:=h.bl
 unfold stC at hb
 unfold goesB at hR
 by_cases hk:D.kind=0
 ·simp only[hk,decide_true,Bool.not_true]at hR hb
  simp only[↓Zd,Zp,simprocAttr,cld2,HEx,TAx,hb]
  exact hR
 ·simp only[hk,decide_false,Bool.not_false]at hR
  simp only[↓Zd,Zp,simprocAttr,cld2,HEx,TAx,hb,hk]
  exact hR
theorem send_spec{k e vk vn:Int}{vx:ByteArray}(h:StIn lo s q D N O p gb ov tv)(hR:∀ s',StIn lo s' q (endS D k e (vk,vn,vx)) N O p gb ov tv→Upd s s' (ownS q gb ov tv O) (ownS q gb ov tv O)→R (.tuple #[]) s') :
  QC prog w0 52 #[.pointer (some ⟨q,0,none⟩),.int .i64 k,.int .i64 e,vA vk vn vx] s R:=by
 refine wfun2 hmix ok52 func52 rfl ntmps52 results52 (by simp) ?_
 have l1:s.le (s.new (.cells [.int .i64 vk,.int .i64 vn,.string vx] 31 true)):=lN (lR _)
 have h1:=h.le l1
 have hb:=h.bl
 have hqn:=h.q0.2.1
 have hne:¬ q=s.next:=oM
 have hne2:¬ s.next=q:=oM
 unfold stC at hb
 simp only[↓Zd,Zp,Zs,simprocAttr,HEx,vA,co26]
 refine sover_spec h1 ?_
 by_cases hk:D.kind=0
 ·simp only[goesB,hk,decide_true,Bool.not_true]
  simp only[↓Zd,Zp,Zs,simprocAttr,HEx,TAx,vA,hb,hk,hne,hne2,ord52]
  have e1:endS D k e (vk,vn,vx)={ D with kind:=k,err:=e,vk:=vk,vn:=vn,vx:=vx }:=by unfold endS;rw[if_pos hk]
  rw[e1]at hR
  refine (fun (H:_∧_)=>hR _ H.1 H.2) (h.puts (D':={ D with kind:=k,err:=e,vk:=vk,vn:=vn,vx:=vx }) ?_ ?_ ?_ rfl rfl rfl rfl ⟨h.num.fuel,h.num.depth,h.num.lim,h.num.out,h.num.tch,h.num.glob,h.num.n⟩)
  ·simp only[Sn];omega
  ·simp only[aP,if_true];rfl
  ·intro b hb2 hb3
   simp only[aP,hb3,if_false,aN,(show ¬ b=s.next by omega)]
 ·simp only[goesB,hk,decide_false,Bool.not_false]
  simp only[↓Zd,Zp,simprocAttr,HEx,vA]
  have e1:endS D k e (vk,vn,vx)=D:=by unfold endS;rw[if_neg hk]
  rw[e1]at hR
  exact hR _ h1 (.of_le l1)
theorem sneed_spec{e:Int}(h:StIn lo s q D N O p gb ov tv)(hR:∀ s',StIn lo s' q (needS D e) N O p gb ov tv→Upd s s' (ownS q gb ov tv O) (ownS q gb ov tv O)→R (.bool (goesB (needS D e))) s') :
  QC prog w0 80 #[.pointer (some ⟨q,0,none⟩),.int .i64 e] s R:=by
 refine wfun2 hmix ok80 func80 rfl ntmps80 results80 (by simp) ?_
 have hend:∀ {s':St M},StIn lo s' q (needS D e) N O p gb ov tv→Upd s s' (ownS q gb ov tv O) (ownS q gb ov tv O)→R (.bool (!!goesB (needS D e))) s':=fun h1 h2=>by rw[Bool.not_not];exact hR _ h1 h2
 by_cases h0:e=0
 ·rw[show needS D e=D by unfold needS;rw[if_pos h0]]at hend
  subst h0
  simp only[↓Zd,Zp,simprocAttr,co26]
  refine sover_spec h ?_
  simp only[↓Zd,Zp,simprocAttr,HEx]
  exact hend h .refl
 rcases (show e=40∨e=41∨e=42∨e=43∨(¬ e=40∧¬ e=41∧¬ e=42∧¬ e=43) by omega) with rfl|rfl|rfl|rfl|⟨h1,h2,h3,h4⟩
 case inr.inr.inr.inr =>
  rw[show needS D e=endS D 3 e zV by unfold needS;rw[if_neg h0,if_neg oM]]at hend
  simp only[↓Zd,Zp,simprocAttr,HEx,h0,h1,h2,h3,h4,co52]
  refine send_spec h fun s1 hs1 hu1=>?_
  simp only[↓Zd,Zp,simprocAttr,HEx,co26]
  refine sover_spec hs1 ?_
  simp only[↓Zd,Zp,simprocAttr,HEx]
  exact hend hs1 hu1
 all_goals
  rw[show needS D _=endS D 5 _ zV by unfold needS;rw[if_neg oM,if_pos oM]]at hend
  simp only[↓Zd,Zp,simprocAttr,HEx,co52]
  refine send_spec h fun s1 hs1 hu1=>?_
  simp only[↓Zd,Zp,simprocAttr,HEx,co26]
  refine sover_spec hs1 ?_
  simp only[↓Zd,Zp,simprocAttr,HEx]
  exact hend hs1 hu1
theorem sis_spec{so:Bool}(h:StIn lo s q D N O p gb ov tv)(hR:∀ s',StIn lo s' q (isS D so) N O p gb ov tv→Upd s s' (ownS q gb ov tv O) (ownS q gb ov tv O)→R (.bool (goesB (isS D so))) s') :
  QC prog w0 64 #[.pointer (some ⟨q,0,none⟩),.bool so] s R:=by
 refine wfun2 hmix ok64 func64 rfl ntmps64 results64 (by simp) ?_
 cases so with
 |true =>
  have e1:isS D true=D:=rfl
  rw[e1]at hR
  have hR:=hR s h .refl
  rw[← Bool.not_not (goesB D)]at hR
  simp only[↓Zd,Zp,simprocAttr,co26]
  refine sover_spec h ?_
  simp only[↓Zd,Zp,simprocAttr,HEx]
  exact hR
 |false =>
  have e1:isS D false=needS D 30:=rfl
  rw[e1]at hR
  simp only[↓Zd,Zp,simprocAttr,co80]
  refine sneed_spec h fun s1 hs1 hu1=>?_
  simp only[↓Zd,Zp,simprocAttr,HEx]
  exact hR _ hs1 hu1
def madeV(D:StD)(e:Int)(v:Int×Int×ByteArray):Value:=if goesB (needS D e)=true then .tuple #[vA v.1 v.2.1 v.2.2,.bool true] else .tuple #[vA 0 0 ⟨#[]⟩,.bool false]
theorem goes_need{D:StD}{e:Int}(h:goesB D=false):needS D e=D:=by
 unfold goesB at h
 have h:¬ D.kind=0:=by simpa using h
 unfold needS
 split
 ·rfl
 ·split<;>(unfold endS;rw[if_neg h])
theorem smade_spec{e vk vn:Int}{vx:ByteArray}(h:StIn lo s q D N O p gb ov tv)(hR:∀ s',StIn lo s' q (needS D e) N O p gb ov tv→Upd s s' (ownS q gb ov tv O) (ownS q gb ov tv O)→R (madeV D e (vk,vn,vx)) s') :
  QC prog w0 63 #[.pointer (some ⟨q,0,none⟩),vA vk vn vx,.int .i64 e] s R:=by
 refine wfun2 hmix ok63 func63 rfl ntmps63 results63 (by simp) ?_
 have l1:s.le ((s.new (.cells [.int .i64 vk,.int .i64 vn,.string vx] 31 true)).new (.cells [.int .i64 0,.int .i64 0,.string ⟨#[]⟩] 31 true)):=oL
 have h1:=h.le l1
 have u1:Upd s ((s.new (.cells [.int .i64 vk,.int .i64 vn,.string vx] 31 true)).new (.cells [.int .i64 0,.int .i64 0,.string ⟨#[]⟩] 31 true)) (ownS q gb ov tv O) (ownS q gb ov tv O) := .of_le l1
 have hno:∀ b,ownS q gb ov tv O b→b<s.next:=fun b hb=>(h.own b hb).2
 have k1:((s.new (.cells [.int .i64 vk,.int .i64 vn,.string vx] 31 true)).new (.cells [.int .i64 0,.int .i64 0,.string ⟨#[]⟩] 31 true)).at' s.next=some (.cells [.int .i64 vk,.int .i64 vn,.string vx] 31 true):=by rw[aN,if_neg (by simp only[nN];omega),aN,if_pos rfl]
 have k2:((s.new (.cells [.int .i64 vk,.int .i64 vn,.string vx] 31 true)).new (.cells [.int .i64 0,.int .i64 0,.string ⟨#[]⟩] 31 true)).at' (s.next+1)=some (.cells [.int .i64 0,.int .i64 0,.string ⟨#[]⟩] 31 true):=by rw[aN,if_pos (by simp only[nN])]
 simp only[↓Zd,Zp,Zs,simprocAttr,HEx,vA,co26]
 refine sover_spec h1 ?_
 have hput:∀ {s2:St M}{B:Blk},StIn lo s2 q (needS D e) N O p gb ov tv→Upd s s2 (ownS q gb ov tv O) (ownS q gb ov tv O)→s.next+2≤s2.next→StIn lo (s2.put (s.next+1) B) q (needS D e) N O p gb ov tv∧Upd s (s2.put (s.next+1) B) (ownS q gb ov tv O) (ownS q gb ov tv O):=fun {s2 B} g1 g2 g3=>by
  have hne:∀ b,b<s.next→¬ b=s.next+1:=fun b hb=>by omega
  refine⟨g1.same (Nat.le_refl _) fun b hb=>by rw[aP,if_neg (hne b (hno b hb))],g2.next,fun b hb ho=>by rw[aP,if_neg (hne b hb)];exact g2.keep b hb ho,g2.own⟩
 cases hg:goesB D with
 |false =>
  have hd:=goes_need (e:=e) hg
  rw[hd]at hput
  have e2:madeV D e (vk,vn,vx) = .tuple #[vA 0 0 ⟨#[]⟩,.bool false]:=by unfold madeV;rw[hd,hg];rfl
  rw[e2,hd]at hR
  unfold vA at hR
  simp only[↓Zd,Zp,Zs,simprocAttr,HEx,vA,k2]
  obtain⟨a,b⟩:=hput h1 u1 (Nat.le_refl _)
  exact hR _ a b
 |true =>
  simp only[↓Zd,Zp,simprocAttr,HEx,vA,co80]
  refine sneed_spec h1 fun s2 hs2 hu2=>?_
  have hu:=u1.trans hu2
  have n2:=hu2.next
  simp only[nN]at n2
  have hnO:∀ b,s.next≤b→¬ ownS q gb ov tv O b:=fun b hb ho=>by have:=hno b ho;omega
  have k12:=(hu2.keep s.next (by simp only[nN];omega) (hnO _ (Nat.le_refl _))).trans k1
  have k22:=(hu2.keep (s.next+1) (by simp only[nN];omega) (hnO _ oM)).trans k2
  unfold madeV at hR
  cases hg2:goesB (needS D e) with
  |false =>
   rw[hg2]at hR
   unfold vA at hR
   simp only[↓Zd,Zp,Zs,simprocAttr,HEx,vA,k22]
   obtain⟨a,b⟩:=hput hs2 hu n2
   exact hR _ a b
  |true =>
   rw[hg2]at hR
   unfold vA at hR
   simp only[↓Zd,Zp,Zs,simprocAttr,HEx,vA,k12,k22]
   obtain⟨a,b⟩:=hput hs2 hu n2
   exact hR _ a b
end
def tickS(D:StD)(n:Int):StD:=if goesB D=false then D else if D.fuel - D.taken<n then endS { D with taken:=D.fuel } 4 44 zV else if 0<n then { D with taken:=D.taken+n } else D
def setgS(D:StD)(i:Int)(v:Int×Int×ByteArray):StD:={ D with g:=D.g.set i.toNat v }
theorem StN.tick{D:StD}{N:Nat}{n:Int}(h:StN D N):StN (tickS D n) N:=by
 have hf:=h.fuel
 unfold tickS
 split
 ·exact h
 split
 ·exact StN.endS ⟨⟨by show 0≤D.fuel;omega,by show D.fuel≤D.fuel;omega,hf.2.2⟩,h.depth,h.lim,h.out,h.tch,h.glob,h.n⟩
 split
 ·exact⟨⟨by show 0≤D.taken+n;omega,by show D.taken+n≤D.fuel;omega,hf.2.2⟩,h.depth,h.lim,h.out,h.tch,h.glob,h.n⟩
 ·exact h
section
variable {lo q N p gb:Nat}{D:StD}{O:Nat→Prop}{ov tv:Value}
theorem atL(a:Addr)(s:St M):catom prog 178 #[.pointer (some a)] s=(cnumAt a s).map fun n=>(.int .i64 n,s):=oK
theorem atS(a:Addr)(n:Int)(s:St M):catom prog 154 #[.pointer (some a),.int .i64 n] s=(cstoreCells a [.int .i64 n] s).map fun s'=>(undef,s'):=oK
theorem atA(a:Addr)(n:Int)(s:St M):catom prog 155 #[.pointer (some a),.int .i64 n] s=match cnumAt a s with
 |some m=>(cstoreCells a [.int .i64 (IntKind.i64.wrap (m+n))] s).map fun s'=>(.int .i64 (IntKind.i64.wrap (m+n)),s')
 |none=>none:=oK
theorem exL(a:Addr):cextern prog 178 #[.pointer (some a)]=none:=oK
theorem exS(a:Addr)(n:Int):cextern prog 154 #[.pointer (some a),.int .i64 n]=none:=oK
theorem exA(a:Addr)(n:Int):cextern prog 155 #[.pointer (some a),.int .i64 n]=none:=oK
theorem aload_spec{a:Addr}{n:Int}(h:cnumAt a s=some n)(hR:R (.int .i64 n) s):QC prog w0 100 #[.pointer (some a)] s R:=by
 refine wfun2 hmix ok100 func100 rfl ntmps100 results100 (by simp) ?_
 simp only[↓Zd,Zp,simprocAttr,TAx,no178,exL,atL,h,addr_add_zero]
 exact hR
theorem astore_spec{a:Addr}{n:Int}{s':St M}(h:cstoreCells a [.int .i64 n] s=some s')(hR:R (.tuple #[]) s'):QC prog w0 71 #[.pointer (some a),.int .i64 n] s R:=by
 refine wfun2 hmix ok71 func71 rfl ntmps71 results71 (by simp) ?_
 rw[cstoreCells_eq]at h
 simp only[↓Zd,Zp,simprocAttr,TAx,no154,exS,atS,h,addr_add_zero]
 exact hR
theorem aadd_spec{a:Addr}{n m:Int}{s':St M}(h0:cnumAt a s=some m)(h:cstoreCells a [.int .i64 (IntKind.i64.wrap (m+n))] s=some s')(hR:R (.int .i64 (IntKind.i64.wrap (m+n))) s'):QC prog w0 72 #[.pointer (some a),.int .i64 n] s R:=by
 refine wfun2 hmix ok72 func72 rfl ntmps72 results72 (by simp) ?_
 rw[cstoreCells_eq]at h
 simp only[↓Zd,Zp,simprocAttr,TAx,no155,exA,atA,h0,h,addr_add_zero]
 exact hR
theorem taken_at(h:StIn lo s q D N O p gb ov tv):cnumAt ⟨q,8,none⟩ s=some D.taken:=by
 have hb:=h.bl
 unfold stC at hb
 unfold cnumAt
 simp only[hb]
 rfl
theorem taken_put{n:Int}(h:StIn lo s q D N O p gb ov tv):cstoreCells ⟨q,8,none⟩ [.int .i64 n] s=some (s.put q (.cells (stC { D with taken:=n } p gb ov tv) 90 true)):=by
 have hb:=h.bl
 unfold cstoreCells
 simp only[hb]
 rfl
theorem ssteps_spec(h:StIn lo s q D N O p gb ov tv)(hR:R (.int .i64 D.taken) s):QC prog w0 40 #[.pointer (some ⟨q,0,none⟩)] s R:=by
 refine wfun2 hmix ok40 func40 rfl ntmps40 results40 (by simp) ?_
 have hf:=h.num.fuel
 have w1:IntKind.i64.wrap D.taken=D.taken:=wrap_i64 oM
 simp only[↓Zd,Zp,simprocAttr,TAx,co100]
 refine aload_spec (taken_at h) ?_
 simp only[↓Zd,Zp,simprocAttr,TAx]
 exact hR
theorem stick_spec{n:Int}(h:StIn lo s q D N O p gb ov tv)(hn : -9223372036854775808≤n∧n≤9223372036854775807)(hR:∀ s',StIn lo s' q (tickS D n) N O p gb ov tv→Upd s s' (ownS q gb ov tv O) (ownS q gb ov tv O)→R (.bool (goesB (tickS D n))) s') :
  QC prog w0 18 #[.pointer (some ⟨q,0,none⟩),.int .i64 n] s R:=by
 refine wfun2 hmix ok18 func18 rfl ntmps18 results18 (by simp) ?_
 have hf:=h.num.fuel
 have hnum:=h.num.tick (n:=n)
 have hqn:=h.q0.2.1
 simp only[↓Zd,Zp,simprocAttr,co26]
 refine sover_spec h ?_
 cases hg:goesB D with
 |false =>
  have e1:tickS D n=D:=by unfold tickS;rw[if_pos hg]
  rw[e1]at hR
  rw[hg]at hR
  simp only[↓Zd,Zp,simprocAttr,HEx]
  exact hR _ h .refl
 |true =>
  have hb:=h.bl
  unfold stC at hb
  have w1:IntKind.i64.wrap (D.fuel - D.taken)=D.fuel - D.taken:=wrap_i64 oM
  simp only[↓Zd,Zp,simprocAttr,cld2,HEx,TAx,hb,co40,ord18]
  refine ssteps_spec h ?_
  by_cases h1:D.fuel - D.taken<n
  ·have e1:tickS D n=endS { D with taken:=D.fuel } 4 44 zV:=by unfold tickS;rw[if_neg (by rw[hg];decide),if_pos h1]
   rw[e1]at hR
   simp only[↓Zd,Zp,simprocAttr,cld2,HEx,TAx,hb,w1,h1,co71]
   refine astore_spec (taken_put h) ?_
   obtain⟨g1,g2⟩:=h.puts (s':=s.put q (.cells (stC { D with taken:=D.fuel } p gb ov tv) 90 true)) (D':={ D with taken:=D.fuel }) (Nat.le_refl _) (by rw[aP,if_pos rfl]) (fun b _ hb3=>by rw[aP,if_neg hb3]) rfl rfl rfl rfl ⟨⟨by show 0≤D.fuel;omega,by show D.fuel≤D.fuel;omega,hf.2.2⟩,h.num.depth,h.num.lim,h.num.out,h.num.tch,h.num.glob,h.num.n⟩
   simp only[↓Zd,Zp,simprocAttr,HEx,co52]
   refine send_spec g1 fun s2 hs2 hu2=>?_
   have e2:goesB (endS { D with taken:=D.fuel } 4 44 zV)=false:=by
    unfold goesB endS
    split
    ·rfl
    ·rename_i h0;simpa using h0
   rw[e2]at hR
   simp only[↓Zd,Zp,simprocAttr,HEx]
   exact hR _ hs2 (g2.trans hu2)
  ·by_cases h2:0<n
   ·have e1:tickS D n={ D with taken:=D.taken+n }:=by unfold tickS;rw[if_neg (by rw[hg];decide),if_neg h1,if_pos h2]
    rw[e1]at hR hnum
    have w2:IntKind.i64.wrap (D.taken+n)=D.taken+n:=wrap_i64 oM
    have ht:=taken_put (n:=D.taken+n) h
    rw[← w2]at ht
    simp only[↓Zd,Zp,simprocAttr,cld2,HEx,TAx,hb,w1,h1,h2,co72]
    refine aadd_spec (taken_at h) ht ?_
    rw[w2]
    obtain⟨g1,g2⟩:=h.puts (s':=s.put q (.cells (stC { D with taken:=D.taken+n } p gb ov tv) 90 true)) (D':={ D with taken:=D.taken+n }) (Nat.le_refl _) (by rw[aP,if_pos rfl]) (fun b _ hb3=>by rw[aP,if_neg hb3]) rfl rfl rfl rfl hnum
    have e2:goesB { D with taken:=D.taken+n }=true:=hg
    rw[e2]at hR
    simp only[↓Zd,Zp,simprocAttr,TAx]
    exact hR _ g1 g2
   ·have e1:tickS D n=D:=by unfold tickS;rw[if_neg (by rw[hg];decide),if_neg h1,if_neg h2]
    rw[e1,hg]at hR
    simp only[↓Zd,Zp,simprocAttr,cld2,HEx,hb,w1,h1,h2]
    exact hR _ h .refl
end
end Go.Proofs.Tryz
