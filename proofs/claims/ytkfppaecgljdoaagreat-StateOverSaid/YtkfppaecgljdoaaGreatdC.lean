/- Lemmas, laid one behind the other by squeeze2.py. -/
import Derived.Test.YtkfppaecgljdoaaGreatdB
import Derived.Test.YtkfppaecgljdoaaGreatChecked
set_option linter.unusedSimpArgs false
set_option linter.unusedVariables false
set_option linter.unusedSectionVars false
set_option linter.defProp false
section
namespace Go.Cs
section
variable {M:Type}[Mem M]{P:Program}{w0:World}{s:St M}{ev:Operand→Value}{d:Option Tmp}{ty t xt:TypeId}{pos:String}{af:Array Edge}{g:Option (Nat×Bool)}{x:Operand}{K:Value→St M→Prop}{F:Value→St M→Option Value→Prop}
theorem o_assert{ok:Bool}:wop P w0 ⟨d,.typeAssert x xt t ok,ty,pos,af,g⟩ ev s K=must (cassert P (ev x) t ok) fun v=>K v s:=rfl
theorem f_assert{ok:Bool}:wfop P ⟨d,.typeAssert x xt t ok,ty,pos,af,g⟩ ev s F=must (cassert P (ev x) t ok) fun v=>F v s none:=rfl
def cmkI(P:Program)(t:TypeId)(v:Value):Option Value:=match P.underlying t with
  |some (.interface _)=>none
  |some _=>some (.iface t v)
  |none=>none
theorem o_mkIface:wop P w0 ⟨d,.makeInterface t x,ty,pos,af,g⟩ ev s K=must (cmkI P t (ev x)) fun v=>K v s:=rfl
theorem f_mkIface:wfop P ⟨d,.makeInterface t x,ty,pos,af,g⟩ ev s F=must (cmkI P t (ev x)) fun v=>F v s none:=rfl
theorem mkI_p{t e:TypeId}{v:Value}(h:P.underlying t=some (.pointer e)):cmkI P t v=some (.iface t v):=by unfold cmkI;rw[h]
theorem mkI_s{t:TypeId}{fs:Array Field}{v:Value}(h:P.underlying t=some (.struct fs)):cmkI P t v=some (.iface t v):=by unfold cmkI;rw[h]
theorem o_min{args:Array Operand}{ats:Array TypeId}:wop P w0 ⟨d,.call ⟨.builtin .min,args,ats⟩,ty,pos,af,g⟩ ev s K=must (cbuiltin P .min ats ty (args.map ev)) fun v=>K v s:=rfl
theorem o_max{args:Array Operand}{ats:Array TypeId}:wop P w0 ⟨d,.call ⟨.builtin .max,args,ats⟩,ty,pos,af,g⟩ ev s K=must (cbuiltin P .max ats ty (args.map ev)) fun v=>K v s:=rfl
theorem bi_min{ats:Array TypeId}{ty:TypeId}{k k2:IntKind}{a b:Int}:cbuiltin P .min ats ty #[.int k a,.int k2 b]=some (.int k (if b<a then b else a)):=rfl
theorem bi_max{ats:Array TypeId}{ty:TypeId}{k k2:IntKind}{a b:Int}:cbuiltin P .max ats ty #[.int k a,.int k2 b]=some (.int k (if b>a then b else a)):=rfl
end
end Go.Cs
end
section
namespace Go.Cs
def decL(n:Nat):List UInt8:=if n<10 then [UInt8.ofNat (48+n)] else decL (n / 10) ++ [UInt8.ofNat (48+n % 10)]
termination_by n
decreasing_by omega
theorem decL_lt{n:Nat}(h:n<10):decL n=[UInt8.ofNat (48+n)]:=by rw[decL,if_pos h]
theorem decL_ge{n:Nat}(h:10≤n):decL n=decL (n / 10) ++ [UInt8.ofNat (48+n % 10)]:=by rw[decL,if_neg oM]
def digL(n:Int):List UInt8:=if n<0 then 45::decL n.natAbs else decL n.natAbs
def digS(n:Int):ByteArray:=⟨(digL n).toArray⟩
theorem ba_append(a b:List UInt8):(⟨a.toArray⟩:ByteArray)++⟨b.toArray⟩=⟨(a++b).toArray⟩:=by
 apply ByteArray.ext
 simp[ByteArray.data_append]
theorem ba_size(a:List UInt8):(⟨a.toArray⟩:ByteArray).size=a.length:=rfl
theorem decL_len_pow:∀ (k n:Nat),n<10 ^ (k+1)→(decL n).length≤k+1:=by
 intro k
 induction k with
 |zero=>intro n h;rw[decL_lt (by simpa using h)];simp
 |succ k ih =>
  intro n h
  by_cases h10:n<10
  ·rw[decL_lt h10];simp
  ·rw[decL_ge oM]
   have:=ih (n / 10) (by rw[Nat.div_lt_iff_lt_mul oM];rw[Nat.pow_succ]at h;omega)
   simp;omega
theorem drop_set_self{vs:List Value}{o:Nat}{v:Value}(h:o<vs.length):(vs.set o v).drop o=v::vs.drop (o+1):=by
 rw[List.drop_eq_getElem_cons (by simpa using h)]
 simp[List.drop_set]
end Go.Cs
end
namespace Go.Proofs.Tryz
open Go.Cs
open Go.RowKit (Below)
set_option maxRecDepth 100000
attribute [local irreducible] QC WLoop WScope CRound WRange
set_option maxHeartbeats 32000000
variable {M:Type}[Mem M]{w0:World}{s:St M}{R:Value→St M→Prop}
theorem hmix:prog.follows .mixedOrders=true:=oK
def ord3:Ord:=[(22,[⟨0,false,[]⟩,⟨1,false,[]⟩,⟨2,false,[]⟩,⟨3,false,[]⟩,⟨9,false,[]⟩,⟨4,true,[9,2,1,0]⟩,⟨5,true,[9]⟩,⟨6,false,[]⟩,⟨7,false,[]⟩,⟨8,false,[]⟩,⟨10,true,[8]⟩,⟨11,true,[]⟩])]
theorem ok3:qF prog 3 ord3=true:=oK
def ord5:Ord:=[(2,[⟨0,false,[]⟩,⟨1,false,[]⟩,⟨3,false,[]⟩,⟨4,false,[]⟩,⟨5,false,[]⟩,⟨8,false,[]⟩,⟨2,true,[8,5,4,3]⟩,⟨6,true,[8,4,3]⟩,⟨7,false,[]⟩,⟨9,true,[7,4,3]⟩,⟨10,false,[]⟩,⟨11,false,[]⟩,⟨12,true,[]⟩])]
theorem ok5:qF prog 5 ord5=true:=oK
def co5:=qO ok5
def ord6:Ord:=[(2,[⟨0,false,[]⟩,⟨1,false,[]⟩,⟨3,false,[]⟩,⟨4,false,[]⟩,⟨7,false,[]⟩,⟨2,true,[7,4,3]⟩,⟨5,true,[7,3]⟩,⟨6,false,[]⟩,⟨8,true,[6,3]⟩,⟨9,false,[]⟩,⟨10,false,[]⟩,⟨11,true,[]⟩])]
theorem ok6:qF prog 6 ord6=true:=oK
def co6:=qO ok6
def ord7:Ord:=[]
theorem ok7:qF prog 7 ord7=true:=oK
def co7:=qO ok7
def ord8:Ord:=[]
theorem ok8:qF prog 8 ord8=true:=oK
def co8:=qO ok8
def ord9:Ord:=[]
theorem ok9:qF prog 9 ord9=true:=oK
def co9:=qO ok9
def ord10:Ord:=[]
theorem ok10:qF prog 10 ord10=true:=oK
def co10:=qO ok10
def ord11:Ord:=[]
theorem ok11:qF prog 11 ord11=true:=oK
def co11:=qO ok11
def ord12:Ord:=[(3,[⟨0,false,[]⟩,⟨1,false,[]⟩,⟨2,false,[]⟩,⟨3,false,[]⟩,⟨4,false,[]⟩,⟨5,false,[]⟩,⟨6,false,[]⟩,⟨7,false,[]⟩,⟨8,false,[]⟩,⟨9,false,[]⟩,⟨10,false,[]⟩,⟨11,false,[]⟩,⟨14,false,[]⟩,⟨12,true,[14,7,6,5,4,3,2,1,0]⟩,⟨13,false,[]⟩,⟨15,true,[]⟩])]
theorem ok12:qF prog 12 ord12=true:=oK
def co12:=qO ok12
def ord13:Ord:=[]
theorem ok13:qF prog 13 ord13=true:=oK
def co13:=qO ok13
def ord14:Ord:=[(3,[⟨0,false,[]⟩,⟨1,false,[]⟩,⟨2,false,[]⟩,⟨3,false,[]⟩,⟨4,false,[]⟩,⟨5,false,[]⟩,⟨6,false,[]⟩,⟨7,false,[]⟩,⟨8,false,[]⟩,⟨9,false,[]⟩,⟨10,false,[]⟩,⟨11,false,[]⟩,⟨12,false,[]⟩,⟨13,true,[]⟩,⟨14,true,[]⟩,⟨15,true,[]⟩])]
theorem ok14:qF prog 14 ord14=true:=oK
def co14:=qO ok14
def ord15:Ord:=[(3,[⟨0,false,[]⟩,⟨1,false,[]⟩,⟨2,false,[]⟩,⟨3,false,[]⟩,⟨4,false,[]⟩,⟨5,false,[]⟩,⟨6,false,[]⟩,⟨7,false,[]⟩,⟨8,false,[]⟩,⟨9,true,[0]⟩,⟨10,false,[]⟩,⟨11,false,[]⟩,⟨12,true,[]⟩,⟨13,false,[]⟩,⟨14,false,[]⟩,⟨15,true,[]⟩,⟨16,true,[]⟩])]
theorem ok15:qF prog 15 ord15=true:=oK
def co15:=qO ok15
def ord16:Ord:=[(10,[⟨0,false,[]⟩,⟨1,false,[]⟩,⟨2,false,[]⟩,⟨3,false,[]⟩,⟨4,false,[]⟩,⟨5,false,[]⟩,⟨6,false,[]⟩,⟨7,false,[]⟩,⟨8,false,[]⟩,⟨9,true,[0]⟩,⟨10,false,[]⟩,⟨11,false,[]⟩,⟨12,true,[]⟩,⟨13,false,[]⟩,⟨14,false,[]⟩,⟨15,true,[]⟩,⟨16,true,[]⟩])]
theorem ok16:qF prog 16 ord16=true:=oK
def co16:=qO ok16
def ord17:Ord:=[]
theorem ok17:qF prog 17 ord17=true:=oK
def co17:=qO ok17
def ord18:Ord:=[(3,[⟨0,false,[]⟩,⟨1,false,[]⟩,⟨2,false,[]⟩,⟨3,false,[]⟩,⟨4,false,[]⟩,⟨5,true,[3,2,1,0]⟩,⟨6,false,[]⟩,⟨7,true,[]⟩]),(5,[⟨0,false,[]⟩,⟨1,false,[]⟩,⟨2,false,[]⟩,⟨3,false,[]⟩,⟨4,false,[]⟩,⟨5,false,[]⟩,⟨6,false,[]⟩,⟨7,true,[]⟩])]
theorem ok18:qF prog 18 ord18=true:=oK
def co18:=qO ok18
def ord19:Ord:=[]
theorem ok19:qF prog 19 ord19=true:=oK
def co19:=qO ok19
def ord20:Ord:=[]
theorem ok20:qF prog 20 ord20=true:=oK
def co20:=qO ok20
def ord21:Ord:=[]
theorem ok21:qF prog 21 ord21=true:=oK
def co21:=qO ok21
def ord22:Ord:=[(3,[⟨0,false,[]⟩,⟨1,false,[]⟩,⟨2,false,[]⟩,⟨3,false,[]⟩,⟨4,false,[]⟩,⟨5,false,[]⟩,⟨6,true,[4,3,2,1,0]⟩,⟨7,false,[]⟩,⟨8,true,[0]⟩,⟨9,false,[]⟩,⟨10,false,[]⟩,⟨11,true,[]⟩])]
theorem ok22:qF prog 22 ord22=true:=oK
def co22:=qO ok22
def ord23:Ord:=[(3,[⟨0,false,[]⟩,⟨1,false,[]⟩,⟨2,false,[]⟩,⟨3,false,[]⟩,⟨4,false,[]⟩,⟨5,false,[]⟩,⟨6,false,[]⟩,⟨7,true,[]⟩])]
theorem ok23:qF prog 23 ord23=true:=oK
def co23:=qO ok23
def ord24:Ord:=[(3,[⟨0,false,[]⟩,⟨1,false,[]⟩,⟨2,false,[]⟩,⟨3,false,[]⟩,⟨4,false,[]⟩,⟨5,false,[]⟩,⟨6,false,[]⟩,⟨7,false,[]⟩,⟨8,false,[]⟩,⟨9,false,[]⟩])]
theorem ok24:qF prog 24 ord24=true:=oK
def co24:=qO ok24
def ord25:Ord:=[]
theorem ok25:qF prog 25 ord25=true:=oK
def co25:=qO ok25
def ord26:Ord:=[]
theorem ok26:qF prog 26 ord26=true:=oK
def co26:=qO ok26
def ord33:Ord:=[(1,[⟨0,false,[]⟩,⟨1,false,[]⟩,⟨3,false,[]⟩,⟨4,false,[]⟩,⟨6,false,[]⟩,⟨7,false,[]⟩,⟨9,false,[]⟩,⟨10,false,[]⟩,⟨2,true,[10,9,7,6,4,3]⟩,⟨5,true,[10,9,7,6]⟩,⟨8,true,[10,9]⟩,⟨11,true,[]⟩,⟨12,false,[]⟩,⟨13,true,[]⟩])]
theorem ok33:qF prog 33 ord33=true:=oK
def co33:=qO ok33
def ord34:Ord:=[(1,[⟨0,false,[]⟩,⟨3,false,[]⟩,⟨4,false,[]⟩,⟨6,false,[]⟩,⟨7,false,[]⟩,⟨1,true,[7,6,4,3]⟩,⟨2,true,[7,6,4,3]⟩,⟨5,true,[7,6]⟩,⟨8,true,[]⟩,⟨9,false,[]⟩,⟨10,false,[]⟩,⟨11,true,[]⟩])]
theorem ok34:qF prog 34 ord34=true:=oK
def co34:=qO ok34
def ord35:Ord:=[]
theorem ok35:qF prog 35 ord35=true:=oK
def co35:=qO ok35
def ord36:Ord:=[(1,[⟨0,false,[]⟩,⟨1,false,[]⟩,⟨3,false,[]⟩,⟨4,false,[]⟩,⟨6,false,[]⟩,⟨7,false,[]⟩,⟨9,false,[]⟩,⟨10,false,[]⟩,⟨2,true,[10,9,7,6,4,3]⟩,⟨5,true,[10,9,7,6]⟩,⟨8,true,[10,9]⟩,⟨11,true,[]⟩,⟨12,false,[]⟩,⟨13,true,[]⟩])]
theorem ok36:qF prog 36 ord36=true:=oK
def co36:=qO ok36
def ord37:Ord:=[(1,[⟨0,false,[]⟩,⟨1,false,[]⟩,⟨3,false,[]⟩,⟨4,false,[]⟩,⟨6,false,[]⟩,⟨2,true,[6,4,3]⟩,⟨5,true,[6]⟩,⟨7,true,[]⟩,⟨8,false,[]⟩,⟨9,false,[]⟩,⟨10,true,[]⟩])]
theorem ok37:qF prog 37 ord37=true:=oK
def co37:=qO ok37
def ord38:Ord:=[]
theorem ok38:qF prog 38 ord38=true:=oK
def co38:=qO ok38
def ord39:Ord:=[]
theorem ok39:qF prog 39 ord39=true:=oK
def co39:=qO ok39
def ord40:Ord:=[]
theorem ok40:qF prog 40 ord40=true:=oK
def co40:=qO ok40
def ord41:Ord:=[(3,[⟨0,false,[]⟩,⟨1,false,[]⟩,⟨2,false,[]⟩,⟨3,false,[]⟩,⟨4,false,[]⟩,⟨5,false,[]⟩,⟨6,false,[]⟩,⟨7,false,[]⟩,⟨8,false,[]⟩,⟨9,false,[]⟩,⟨10,false,[]⟩])]
theorem ok41:qF prog 41 ord41=true:=oK
def co41:=qO ok41
def ord42:Ord:=[]
theorem ok42:qF prog 42 ord42=true:=oK
def co42:=qO ok42
def ord43:Ord:=[(3,[⟨0,false,[]⟩,⟨1,false,[]⟩,⟨2,false,[]⟩,⟨3,false,[]⟩,⟨4,false,[]⟩,⟨5,false,[]⟩,⟨6,false,[]⟩,⟨7,true,[]⟩,⟨8,true,[]⟩,⟨9,true,[]⟩])]
theorem ok43:qF prog 43 ord43=true:=oK
def co43:=qO ok43
def ord44:Ord:=[(4,[⟨0,false,[]⟩,⟨1,false,[]⟩,⟨2,false,[]⟩,⟨3,false,[]⟩,⟨4,false,[]⟩,⟨5,false,[]⟩,⟨6,false,[]⟩,⟨7,false,[]⟩,⟨8,true,[]⟩,⟨9,true,[]⟩]),(6,[⟨0,false,[]⟩,⟨1,false,[]⟩,⟨2,false,[]⟩,⟨3,false,[]⟩,⟨4,false,[]⟩,⟨5,false,[]⟩,⟨6,false,[]⟩,⟨7,false,[]⟩,⟨8,true,[0]⟩,⟨9,false,[]⟩,⟨10,false,[]⟩,⟨11,true,[]⟩])]
theorem ok44:qF prog 44 ord44=true:=oK
def co44:=qO ok44
def ord45:Ord:=[(3,[⟨0,false,[]⟩,⟨1,false,[]⟩,⟨2,false,[]⟩,⟨3,false,[]⟩,⟨4,false,[]⟩,⟨5,false,[]⟩,⟨6,false,[]⟩,⟨7,false,[]⟩,⟨8,true,[]⟩,⟨9,true,[]⟩,⟨10,true,[]⟩])]
theorem ok45:qF prog 45 ord45=true:=oK
def co45:=qO ok45
def ord46:Ord:=[]
theorem ok46:qF prog 46 ord46=true:=oK
def co46:=qO ok46
def ord47:Ord:=[]
theorem ok47:qF prog 47 ord47=true:=oK
def co47:=qO ok47
def ord48:Ord:=[(3,[⟨0,false,[]⟩,⟨1,false,[]⟩,⟨2,false,[]⟩,⟨3,false,[]⟩,⟨4,false,[]⟩,⟨5,false,[]⟩,⟨6,false,[]⟩,⟨7,true,[]⟩]),(4,[⟨0,false,[]⟩,⟨1,false,[]⟩,⟨2,false,[]⟩,⟨3,false,[]⟩,⟨4,false,[]⟩,⟨5,false,[]⟩,⟨6,false,[]⟩,⟨7,false,[]⟩,⟨8,true,[0]⟩,⟨9,false,[]⟩,⟨10,false,[]⟩,⟨11,true,[]⟩])]
theorem ok48:qF prog 48 ord48=true:=oK
def co48:=qO ok48
def ord49:Ord:=[]
theorem ok49:qF prog 49 ord49=true:=oK
def co49:=qO ok49
def ord50:Ord:=[]
theorem ok50:qF prog 50 ord50=true:=oK
def co50:=qO ok50
def ord51:Ord:=[(11,[⟨0,false,[]⟩,⟨1,false,[]⟩,⟨2,false,[]⟩,⟨3,false,[]⟩,⟨4,true,[2,1,0]⟩,⟨5,true,[]⟩,⟨6,false,[]⟩,⟨7,false,[]⟩,⟨8,false,[]⟩,⟨9,true,[8]⟩,⟨10,true,[]⟩]),(12,[⟨0,false,[]⟩,⟨1,false,[]⟩,⟨2,false,[]⟩,⟨3,false,[]⟩,⟨4,true,[2,1,0]⟩,⟨5,true,[]⟩,⟨6,false,[]⟩,⟨7,false,[]⟩,⟨8,false,[]⟩,⟨9,true,[8]⟩,⟨10,true,[]⟩])]
theorem ok51:qF prog 51 ord51=true:=oK
def co51:=qO ok51
def ord52:Ord:=[(2,[⟨0,false,[]⟩,⟨1,false,[]⟩,⟨2,false,[]⟩,⟨3,false,[]⟩,⟨4,false,[]⟩,⟨5,false,[]⟩,⟨6,false,[]⟩,⟨7,false,[]⟩,⟨8,true,[5,4,2,1]⟩,⟨9,false,[]⟩,⟨10,false,[]⟩,⟨11,true,[5,2]⟩,⟨12,false,[]⟩,⟨13,false,[]⟩,⟨14,true,[]⟩])]
theorem ok52:qF prog 52 ord52=true:=oK
def co52:=qO ok52
def ord53:Ord:=[]
theorem ok53:qF prog 53 ord53=true:=oK
def co53:=qO ok53
def ord54:Ord:=[]
theorem ok54:qF prog 54 ord54=true:=oK
def co54:=qO ok54
def ord55:Ord:=[]
theorem ok55:qF prog 55 ord55=true:=oK
def co55:=qO ok55
def ord56:Ord:=[]
theorem ok56:qF prog 56 ord56=true:=oK
def co56:=qO ok56
def ord57:Ord:=[]
theorem ok57:qF prog 57 ord57=true:=oK
def co57:=qO ok57
def ord58:Ord:=[]
theorem ok58:qF prog 58 ord58=true:=oK
def co58:=qO ok58
def ord59:Ord:=[(1,[⟨0,false,[]⟩,⟨1,false,[]⟩,⟨2,false,[]⟩,⟨3,false,[]⟩,⟨4,false,[]⟩,⟨5,false,[]⟩,⟨6,false,[]⟩,⟨7,false,[]⟩,⟨8,false,[]⟩,⟨9,false,[]⟩,⟨10,true,[]⟩,⟨11,true,[]⟩])]
theorem ok59:qF prog 59 ord59=true:=oK
def co59:=qO ok59
def ord60:Ord:=[]
theorem ok60:qF prog 60 ord60=true:=oK
def co60:=qO ok60
def ord61:Ord:=[]
theorem ok61:qF prog 61 ord61=true:=oK
def co61:=qO ok61
def ord62:Ord:=[(3,[⟨0,false,[]⟩,⟨1,false,[]⟩,⟨2,false,[]⟩,⟨3,false,[]⟩,⟨4,false,[]⟩,⟨5,false,[]⟩,⟨6,false,[]⟩,⟨7,false,[]⟩,⟨8,false,[]⟩,⟨9,false,[]⟩,⟨10,true,[]⟩])]
theorem ok62:qF prog 62 ord62=true:=oK
def co62:=qO ok62
def ord63:Ord:=[]
theorem ok63:qF prog 63 ord63=true:=oK
def co63:=qO ok63
def ord64:Ord:=[]
theorem ok64:qF prog 64 ord64=true:=oK
def co64:=qO ok64
def ord65:Ord:=[]
theorem ok65:qF prog 65 ord65=true:=oK
def co65:=qO ok65
def ord66:Ord:=[(1,[⟨0,false,[]⟩,⟨1,false,[]⟩,⟨2,false,[]⟩,⟨3,false,[]⟩,⟨4,false,[]⟩,⟨5,false,[]⟩,⟨6,false,[]⟩,⟨7,false,[]⟩,⟨8,false,[]⟩,⟨9,false,[]⟩,⟨10,false,[]⟩,⟨11,false,[]⟩,⟨12,false,[]⟩,⟨13,false,[]⟩,⟨14,false,[]⟩,⟨15,false,[]⟩,⟨16,true,[15,14,13,12]⟩,⟨17,true,[]⟩])]
theorem ok66:qF prog 66 ord66=true:=oK
def co66:=qO ok66
def ord67:Ord:=[]
theorem ok67:qF prog 67 ord67=true:=oK
def co67:=qO ok67
def ord68:Ord:=[]
theorem ok68:qF prog 68 ord68=true:=oK
def co68:=qO ok68
def ord69:Ord:=[]
theorem ok69:qF prog 69 ord69=true:=oK
def co69:=qO ok69
def ord70:Ord:=[(4,[⟨0,false,[]⟩,⟨1,false,[]⟩,⟨2,false,[]⟩,⟨3,false,[]⟩,⟨4,false,[]⟩,⟨5,true,[]⟩,⟨6,false,[]⟩,⟨7,true,[]⟩]),(6,[⟨0,false,[]⟩,⟨1,false,[]⟩,⟨2,false,[]⟩,⟨3,false,[]⟩,⟨4,false,[]⟩,⟨5,false,[]⟩,⟨6,true,[]⟩,⟨7,false,[]⟩]),(8,[⟨0,false,[]⟩,⟨1,false,[]⟩,⟨2,false,[]⟩,⟨3,false,[]⟩,⟨4,false,[]⟩,⟨5,false,[]⟩,⟨6,false,[]⟩,⟨7,false,[]⟩,⟨8,false,[]⟩,⟨9,true,[]⟩,⟨10,false,[]⟩,⟨11,false,[]⟩,⟨12,false,[]⟩,⟨13,true,[12]⟩,⟨14,true,[]⟩]),(12,[⟨0,false,[]⟩,⟨1,false,[]⟩,⟨2,false,[]⟩,⟨3,false,[]⟩,⟨4,true,[0]⟩,⟨5,true,[]⟩,⟨6,false,[]⟩]),(15,[⟨0,false,[]⟩,⟨1,false,[]⟩,⟨2,false,[]⟩,⟨3,false,[]⟩,⟨4,false,[]⟩,⟨5,false,[]⟩,⟨6,false,[]⟩,⟨7,false,[]⟩,⟨8,false,[]⟩,⟨13,false,[]⟩,⟨9,true,[13]⟩,⟨10,false,[]⟩,⟨11,false,[]⟩,⟨12,false,[]⟩,⟨14,true,[12]⟩,⟨15,true,[]⟩]),(19,[⟨0,false,[]⟩,⟨1,false,[]⟩,⟨2,false,[]⟩,⟨3,false,[]⟩,⟨4,false,[]⟩,⟨5,true,[]⟩,⟨6,true,[]⟩]),(23,[⟨0,false,[]⟩,⟨1,false,[]⟩,⟨2,false,[]⟩,⟨3,false,[]⟩,⟨4,false,[]⟩,⟨5,false,[]⟩,⟨6,false,[]⟩,⟨7,false,[]⟩,⟨8,false,[]⟩,⟨9,false,[]⟩,⟨10,false,[]⟩,⟨11,false,[]⟩,⟨12,false,[]⟩,⟨13,true,[]⟩,⟨14,false,[]⟩,⟨15,false,[]⟩,⟨16,false,[]⟩,⟨17,false,[]⟩,⟨18,false,[]⟩,⟨19,true,[]⟩,⟨20,false,[]⟩,⟨21,false,[]⟩])]
theorem ok70:qF prog 70 ord70=true:=oK
def co70:=qO ok70
def ord71:Ord:=[]
theorem ok71:qF prog 71 ord71=true:=oK
def co71:=qO ok71
def ord72:Ord:=[]
theorem ok72:qF prog 72 ord72=true:=oK
def co72:=qO ok72
def ord73:Ord:=[]
theorem ok73:qF prog 73 ord73=true:=oK
def co73:=qO ok73
def ord74:Ord:=[(1,[⟨0,false,[]⟩,⟨1,false,[]⟩,⟨2,false,[]⟩,⟨3,false,[]⟩,⟨4,false,[]⟩,⟨5,false,[]⟩,⟨6,false,[]⟩,⟨7,false,[]⟩,⟨8,false,[]⟩,⟨9,false,[]⟩,⟨10,false,[]⟩,⟨11,false,[]⟩,⟨12,false,[]⟩,⟨13,false,[]⟩,⟨14,true,[]⟩,⟨15,true,[]⟩])]
theorem ok74:qF prog 74 ord74=true:=oK
def co74:=qO ok74
def ord75:Ord:=[(11,[⟨0,false,[]⟩,⟨1,false,[]⟩,⟨2,false,[]⟩,⟨3,false,[]⟩,⟨4,false,[]⟩,⟨5,false,[]⟩,⟨6,false,[]⟩,⟨7,true,[]⟩,⟨8,true,[]⟩]),(12,[⟨0,false,[]⟩,⟨1,false,[]⟩,⟨2,false,[]⟩,⟨3,false,[]⟩,⟨4,false,[]⟩,⟨5,false,[]⟩,⟨6,false,[]⟩,⟨7,true,[]⟩])]
theorem ok75:qF prog 75 ord75=true:=oK
def co75:=qO ok75
def ord76:Ord:=[]
theorem ok76:qF prog 76 ord76=true:=oK
def co76:=qO ok76
def ord77:Ord:=[(1,[⟨0,false,[]⟩,⟨1,false,[]⟩,⟨2,false,[]⟩,⟨3,false,[]⟩,⟨4,false,[]⟩,⟨5,false,[]⟩,⟨6,false,[]⟩,⟨7,false,[]⟩,⟨8,false,[]⟩,⟨9,true,[]⟩,⟨10,true,[]⟩])]
theorem ok77:qF prog 77 ord77=true:=oK
def co77:=qO ok77
def ord78:Ord:=[(10,[⟨0,false,[]⟩,⟨2,false,[]⟩,⟨3,false,[]⟩,⟨4,false,[]⟩,⟨5,false,[]⟩,⟨1,true,[5,4,3,2]⟩,⟨6,false,[]⟩]),(17,[⟨0,false,[]⟩,⟨1,false,[]⟩,⟨2,false,[]⟩,⟨3,false,[]⟩,⟨4,false,[]⟩,⟨5,false,[]⟩,⟨6,false,[]⟩,⟨7,false,[]⟩,⟨8,false,[]⟩,⟨9,true,[2,1,0]⟩,⟨10,false,[]⟩,⟨11,false,[]⟩,⟨12,true,[1]⟩,⟨13,false,[]⟩,⟨14,false,[]⟩,⟨15,true,[]⟩]),(19,[⟨0,false,[]⟩,⟨1,false,[]⟩,⟨3,false,[]⟩,⟨4,false,[]⟩,⟨2,true,[4,3]⟩,⟨5,true,[]⟩])]
theorem ok78:qF prog 78 ord78=true:=oK
def co78:=qO ok78
def ord79:Ord:=[]
theorem ok79:qF prog 79 ord79=true:=oK
def co79:=qO ok79
def ord80:Ord:=[]
theorem ok80:qF prog 80 ord80=true:=oK
def co80:=qO ok80
def ord91:Ord:=[]
theorem ok91:qF prog 91 ord91=true:=oK
def co91:=qO ok91
def ord92:Ord:=[]
theorem ok92:qF prog 92 ord92=true:=oK
def co92:=qO ok92
def ord93:Ord:=[]
theorem ok93:qF prog 93 ord93=true:=oK
def co93:=qO ok93
def ord94:Ord:=[]
theorem ok94:qF prog 94 ord94=true:=oK
def co94:=qO ok94
def ord95:Ord:=[]
theorem ok95:qF prog 95 ord95=true:=oK
def co95:=qO ok95
def ord96:Ord:=[]
theorem ok96:qF prog 96 ord96=true:=oK
def co96:=qO ok96
def ord97:Ord:=[]
theorem ok97:qF prog 97 ord97=true:=oK
def co97:=qO ok97
def ord98:Ord:=[]
theorem ok98:qF prog 98 ord98=true:=oK
def co98:=qO ok98
def ord99:Ord:=[]
theorem ok99:qF prog 99 ord99=true:=oK
def co99:=qO ok99
def ord100:Ord:=[]
theorem ok100:qF prog 100 ord100=true:=oK
def co100:=qO ok100
def ord101:Ord:=[]
theorem ok101:qF prog 101 ord101=true:=oK
def co101:=qO ok101
def ord102:Ord:=[(1,[⟨0,false,[]⟩,⟨1,false,[]⟩,⟨2,false,[]⟩,⟨3,false,[]⟩,⟨4,false,[]⟩,⟨5,false,[]⟩,⟨6,false,[]⟩,⟨7,false,[]⟩,⟨8,false,[]⟩,⟨9,false,[]⟩]),(3,[⟨0,false,[]⟩,⟨1,false,[]⟩,⟨2,false,[]⟩,⟨3,false,[]⟩,⟨4,false,[]⟩,⟨5,false,[]⟩,⟨6,false,[]⟩,⟨7,false,[]⟩,⟨8,false,[]⟩,⟨9,true,[4,3,2,1,0]⟩,⟨10,false,[]⟩,⟨11,false,[]⟩,⟨12,false,[]⟩,⟨13,true,[0]⟩,⟨14,false,[]⟩,⟨15,false,[]⟩,⟨16,true,[]⟩])]
theorem ok102:qF prog 102 ord102=true:=oK
def co102:=qO ok102
def ord103:Ord:=[]
theorem ok103:qF prog 103 ord103=true:=oK
def co103:=qO ok103
def ord104:Ord:=[]
theorem ok104:qF prog 104 ord104=true:=oK
def co104:=qO ok104
def ord105:Ord:=[]
theorem ok105:qF prog 105 ord105=true:=oK
def co105:=qO ok105
def ord106:Ord:=[]
theorem ok106:qF prog 106 ord106=true:=oK
def co106:=qO ok106
def ord107:Ord:=[(5,[⟨0,false,[]⟩,⟨1,false,[]⟩,⟨2,false,[]⟩,⟨3,false,[]⟩,⟨4,false,[]⟩,⟨5,false,[]⟩,⟨6,false,[]⟩,⟨7,false,[]⟩,⟨8,false,[]⟩,⟨9,false,[]⟩,⟨10,false,[]⟩,⟨11,false,[]⟩,⟨12,false,[]⟩,⟨13,false,[]⟩,⟨14,false,[]⟩]),(10,[⟨0,false,[]⟩,⟨1,false,[]⟩,⟨2,false,[]⟩,⟨3,false,[]⟩,⟨4,false,[]⟩,⟨5,true,[]⟩])]
theorem ok107:qF prog 107 ord107=true:=oK
def co107:=qO ok107
def ord108:Ord:=[]
theorem ok108:qF prog 108 ord108=true:=oK
def co108:=qO ok108
def ord109:Ord:=[]
theorem ok109:qF prog 109 ord109=true:=oK
def co109:=qO ok109
def ord110:Ord:=[]
theorem ok110:qF prog 110 ord110=true:=oK
def co110:=qO ok110
def ord111:Ord:=[]
theorem ok111:qF prog 111 ord111=true:=oK
def co111:=qO ok111
def ord112:Ord:=[]
theorem ok112:qF prog 112 ord112=true:=oK
def co112:=qO ok112
def ord113:Ord:=[(1,[⟨0,false,[]⟩,⟨1,false,[]⟩,⟨2,false,[]⟩,⟨3,false,[]⟩,⟨4,false,[]⟩,⟨5,false,[]⟩,⟨6,false,[]⟩,⟨7,false,[]⟩,⟨8,false,[]⟩,⟨9,true,[0]⟩,⟨10,false,[]⟩,⟨11,false,[]⟩,⟨12,true,[]⟩,⟨13,false,[]⟩,⟨14,false,[]⟩,⟨15,true,[]⟩,⟨16,true,[]⟩])]
theorem ok113:qF prog 113 ord113=true:=oK
def co113:=qO ok113
def ord114:Ord:=[(9,[⟨0,false,[]⟩,⟨1,false,[]⟩,⟨2,false,[]⟩,⟨3,false,[]⟩,⟨4,false,[]⟩,⟨5,false,[]⟩,⟨6,false,[]⟩,⟨7,false,[]⟩,⟨8,false,[]⟩,⟨9,true,[0]⟩,⟨10,false,[]⟩,⟨11,false,[]⟩,⟨12,true,[]⟩,⟨13,false,[]⟩,⟨14,false,[]⟩,⟨15,true,[]⟩,⟨16,true,[]⟩]),(17,[⟨0,false,[]⟩,⟨1,false,[]⟩,⟨2,false,[]⟩,⟨3,false,[]⟩,⟨4,false,[]⟩,⟨5,false,[]⟩,⟨6,false,[]⟩,⟨7,false,[]⟩,⟨8,false,[]⟩,⟨9,true,[]⟩,⟨10,false,[]⟩,⟨11,false,[]⟩,⟨12,false,[]⟩,⟨13,true,[12]⟩,⟨14,true,[]⟩]),(21,[⟨0,false,[]⟩,⟨1,false,[]⟩,⟨2,false,[]⟩,⟨3,false,[]⟩,⟨4,false,[]⟩,⟨5,false,[]⟩,⟨6,false,[]⟩,⟨7,false,[]⟩,⟨8,false,[]⟩,⟨13,false,[]⟩,⟨9,true,[13]⟩,⟨10,false,[]⟩,⟨11,false,[]⟩,⟨12,false,[]⟩,⟨14,true,[12]⟩,⟨15,true,[]⟩]),(30,[⟨0,false,[]⟩,⟨1,false,[]⟩,⟨2,false,[]⟩,⟨3,false,[]⟩,⟨4,false,[]⟩,⟨5,false,[]⟩,⟨6,false,[]⟩,⟨7,false,[]⟩,⟨8,false,[]⟩,⟨9,true,[]⟩,⟨10,true,[]⟩])]
theorem ok114:qF prog 114 ord114=true:=oK
def co114:=qO ok114
def ord115:Ord:=[(2,[⟨0,false,[]⟩,⟨1,false,[]⟩,⟨2,false,[]⟩,⟨3,false,[]⟩,⟨4,false,[]⟩,⟨5,false,[]⟩,⟨6,true,[4,3,2,1,0]⟩,⟨7,false,[]⟩,⟨8,true,[0]⟩,⟨9,false,[]⟩,⟨10,false,[]⟩,⟨11,true,[]⟩])]
theorem ok115:qF prog 115 ord115=true:=oK
def co115:=qO ok115
def ord116:Ord:=[]
theorem ok116:qF prog 116 ord116=true:=oK
def co116:=qO ok116
def ord117:Ord:=[(3,[⟨0,false,[]⟩,⟨1,false,[]⟩,⟨2,false,[]⟩,⟨3,false,[]⟩,⟨4,false,[]⟩,⟨5,false,[]⟩,⟨6,false,[]⟩,⟨7,true,[]⟩])]
theorem ok117:qF prog 117 ord117=true:=oK
def co117:=qO ok117
def ord118:Ord:=[(3,[⟨0,false,[]⟩,⟨1,false,[]⟩,⟨2,false,[]⟩,⟨3,false,[]⟩,⟨4,false,[]⟩,⟨5,false,[]⟩,⟨6,false,[]⟩,⟨7,false,[]⟩,⟨8,false,[]⟩,⟨9,false,[]⟩])]
theorem ok118:qF prog 118 ord118=true:=oK
def co118:=qO ok118
def ord119:Ord:=[]
theorem ok119:qF prog 119 ord119=true:=oK
def co119:=qO ok119
def ord120:Ord:=[]
theorem ok120:qF prog 120 ord120=true:=oK
def co120:=qO ok120
def ord121:Ord:=[]
theorem ok121:qF prog 121 ord121=true:=oK
def co121:=qO ok121
def ord122:Ord:=[(6,[⟨0,false,[]⟩,⟨1,false,[]⟩,⟨2,false,[]⟩,⟨3,false,[]⟩,⟨4,false,[]⟩,⟨5,false,[]⟩,⟨6,false,[]⟩,⟨7,false,[]⟩,⟨8,false,[]⟩])]
theorem ok122:qF prog 122 ord122=true:=oK
def co122:=qO ok122
def ord123:Ord:=[]
theorem ok123:qF prog 123 ord123=true:=oK
def co123:=qO ok123
def ord124:Ord:=[(4,[⟨0,false,[]⟩,⟨1,false,[]⟩,⟨2,false,[]⟩,⟨3,false,[]⟩,⟨4,false,[]⟩,⟨5,false,[]⟩,⟨6,false,[]⟩,⟨7,false,[]⟩,⟨8,true,[]⟩,⟨9,true,[]⟩]),(6,[⟨0,false,[]⟩,⟨1,false,[]⟩,⟨2,false,[]⟩,⟨3,false,[]⟩,⟨4,false,[]⟩,⟨5,false,[]⟩,⟨6,false,[]⟩,⟨7,false,[]⟩,⟨8,true,[0]⟩,⟨9,false,[]⟩,⟨10,false,[]⟩,⟨11,true,[]⟩])]
theorem ok124:qF prog 124 ord124=true:=oK
def co124:=qO ok124
def ord125:Ord:=[]
theorem ok125:qF prog 125 ord125=true:=oK
def co125:=qO ok125
def ord126:Ord:=[]
theorem ok126:qF prog 126 ord126=true:=oK
def co126:=qO ok126
def ord127:Ord:=[]
theorem ok127:qF prog 127 ord127=true:=oK
def co127:=qO ok127
def ord128:Ord:=[]
theorem ok128:qF prog 128 ord128=true:=oK
def co128:=qO ok128
def ord129:Ord:=[]
theorem ok129:qF prog 129 ord129=true:=oK
def co129:=qO ok129
def ord130:Ord:=[]
theorem ok130:qF prog 130 ord130=true:=oK
def co130:=qO ok130
def ord131:Ord:=[]
theorem ok131:qF prog 131 ord131=true:=oK
def co131:=qO ok131
def ord132:Ord:=[]
theorem ok132:qF prog 132 ord132=true:=oK
def co132:=qO ok132
def ord133:Ord:=[]
theorem ok133:qF prog 133 ord133=true:=oK
def co133:=qO ok133
def ord134:Ord:=[]
theorem ok134:qF prog 134 ord134=true:=oK
def co134:=qO ok134
def ord135:Ord:=[]
theorem ok135:qF prog 135 ord135=true:=oK
def co135:=qO ok135
def ord136:Ord:=[]
theorem ok136:qF prog 136 ord136=true:=oK
def co136:=qO ok136
def ord145:Ord:=[]
theorem ok145:qF prog 145 ord145=true:=oK
def co145:=qO ok145
def ord146:Ord:=[]
theorem ok146:qF prog 146 ord146=true:=oK
def co146:=qO ok146
def ord147:Ord:=[]
theorem ok147:qF prog 147 ord147=true:=oK
def co147:=qO ok147
def ord148:Ord:=[]
theorem ok148:qF prog 148 ord148=true:=oK
def co148:=qO ok148
def ord149:Ord:=[]
theorem ok149:qF prog 149 ord149=true:=oK
def co149:=qO ok149
def ord150:Ord:=[]
theorem ok150:qF prog 150 ord150=true:=oK
def co150:=qO ok150
def ord151:Ord:=[]
theorem ok151:qF prog 151 ord151=true:=oK
def co151:=qO ok151
def ord152:Ord:=[(1,[⟨0,false,[]⟩,⟨1,false,[]⟩,⟨2,false,[]⟩,⟨3,false,[]⟩,⟨4,false,[]⟩,⟨5,false,[]⟩,⟨6,false,[]⟩,⟨7,false,[]⟩,⟨8,false,[]⟩,⟨9,true,[]⟩,⟨10,true,[]⟩])]
theorem ok152:qF prog 152 ord152=true:=oK
def co152:=qO ok152
def ord153:Ord:=[(12,[⟨0,false,[]⟩,⟨1,false,[]⟩,⟨2,false,[]⟩,⟨3,false,[]⟩,⟨4,false,[]⟩,⟨5,false,[]⟩,⟨6,false,[]⟩,⟨7,false,[]⟩,⟨8,false,[]⟩,⟨9,true,[]⟩,⟨10,true,[]⟩])]
theorem ok153:qF prog 153 ord153=true:=oK
def co153:=qO ok153
theorem no154:qK prog 154=false:=oK
theorem no155:qK prog 155=false:=oK
def ord156:Ord:=[]
theorem ok156:qF prog 156 ord156=true:=oK
def co156:=qO ok156
def ord157:Ord:=[(7,[⟨0,false,[]⟩,⟨1,false,[]⟩,⟨2,false,[]⟩,⟨3,false,[]⟩,⟨4,false,[]⟩,⟨5,false,[]⟩,⟨6,false,[]⟩,⟨7,false,[]⟩,⟨9,false,[]⟩,⟨10,false,[]⟩,⟨11,false,[]⟩,⟨12,false,[]⟩,⟨8,true,[12,11,10,9]⟩,⟨13,false,[]⟩,⟨14,false,[]⟩]),(9,[⟨0,false,[]⟩,⟨1,false,[]⟩,⟨2,false,[]⟩,⟨3,false,[]⟩,⟨4,false,[]⟩,⟨5,false,[]⟩,⟨6,false,[]⟩,⟨7,false,[]⟩,⟨8,false,[]⟩,⟨9,false,[]⟩]),(11,[⟨0,false,[]⟩,⟨1,false,[]⟩,⟨2,false,[]⟩,⟨3,false,[]⟩,⟨4,false,[]⟩,⟨5,false,[]⟩,⟨6,false,[]⟩,⟨7,false,[]⟩,⟨8,false,[]⟩,⟨9,true,[2,1,0]⟩,⟨10,false,[]⟩,⟨11,false,[]⟩,⟨12,true,[1]⟩,⟨13,false,[]⟩,⟨14,false,[]⟩,⟨15,true,[]⟩])]
theorem ok157:qF prog 157 ord157=true:=oK
def co157:=qO ok157
def ord159:Ord:=[]
theorem ok159:qF prog 159 ord159=true:=oK
def co159:=qO ok159
def ord160:Ord:=[]
theorem ok160:qF prog 160 ord160=true:=oK
def co160:=qO ok160
def ord161:Ord:=[]
theorem ok161:qF prog 161 ord161=true:=oK
def co161:=qO ok161
def ord162:Ord:=[(3,[⟨0,false,[]⟩,⟨1,false,[]⟩,⟨2,false,[]⟩,⟨3,false,[]⟩,⟨4,false,[]⟩,⟨5,false,[]⟩,⟨6,false,[]⟩,⟨7,false,[]⟩,⟨8,false,[]⟩,⟨9,false,[]⟩,⟨11,false,[]⟩,⟨10,true,[11,3,2,1,0]⟩,⟨12,false,[]⟩,⟨13,true,[]⟩]),(4,[⟨0,false,[]⟩,⟨1,false,[]⟩,⟨3,false,[]⟩,⟨4,false,[]⟩,⟨2,true,[4,3]⟩,⟨5,true,[]⟩])]
theorem ok162:qF prog 162 ord162=true:=oK
def co162:=qO ok162
def ord163:Ord:=[]
theorem ok163:qF prog 163 ord163=true:=oK
def co163:=qO ok163
def ord164:Ord:=[(6,[⟨0,false,[]⟩,⟨1,false,[]⟩,⟨2,false,[]⟩,⟨3,false,[]⟩,⟨4,false,[]⟩,⟨5,false,[]⟩,⟨6,false,[]⟩,⟨7,false,[]⟩,⟨8,false,[]⟩,⟨9,false,[]⟩,⟨10,true,[4,3,2,1,0]⟩,⟨11,true,[]⟩,⟨12,true,[]⟩])]
theorem ok164:qF prog 164 ord164=true:=oK
def co164:=qO ok164
def ord165:Ord:=[]
theorem ok165:qF prog 165 ord165=true:=oK
def co165:=qO ok165
def ord166:Ord:=[(5,[⟨0,false,[]⟩,⟨1,false,[]⟩,⟨2,false,[]⟩,⟨3,false,[]⟩,⟨4,false,[]⟩,⟨5,false,[]⟩,⟨6,false,[]⟩,⟨7,false,[]⟩,⟨8,true,[]⟩]),(7,[⟨0,false,[]⟩,⟨1,false,[]⟩,⟨2,false,[]⟩,⟨3,false,[]⟩,⟨4,false,[]⟩,⟨5,false,[]⟩,⟨6,false,[]⟩,⟨7,false,[]⟩,⟨8,false,[]⟩,⟨9,false,[]⟩,⟨10,true,[]⟩]),(8,[⟨0,false,[]⟩,⟨1,false,[]⟩,⟨2,false,[]⟩,⟨3,false,[]⟩,⟨4,false,[]⟩,⟨5,false,[]⟩,⟨6,false,[]⟩,⟨7,false,[]⟩,⟨8,false,[]⟩,⟨9,true,[0]⟩,⟨10,false,[]⟩,⟨11,false,[]⟩,⟨12,true,[]⟩])]
theorem ok166:qF prog 166 ord166=true:=oK
def co166:=qO ok166
def ord167:Ord:=[(1,[⟨0,false,[]⟩,⟨1,false,[]⟩,⟨2,false,[]⟩,⟨3,false,[]⟩,⟨4,false,[]⟩,⟨5,false,[]⟩,⟨6,true,[]⟩])]
theorem ok167:qF prog 167 ord167=true:=oK
def co167:=qO ok167
def ord168:Ord:=[]
theorem ok168:qF prog 168 ord168=true:=oK
def co168:=qO ok168
def ord176:Ord:=[]
theorem ok176:qF prog 176 ord176=true:=oK
def co176:=qO ok176
theorem no178:qK prog 178=false:=oK
def ord179:Ord:=[]
theorem ok179:qF prog 179 ord179=true:=oK
def co179:=qO ok179
def ord180:Ord:=[]
theorem ok180:qF prog 180 ord180=true:=oK
def co180:=qO ok180
def ord181:Ord:=[]
theorem ok181:qF prog 181 ord181=true:=oK
def co181:=qO ok181
def ord182:Ord:=[]
theorem ok182:qF prog 182 ord182=true:=oK
def co182:=qO ok182
def ord183:Ord:=[(3,[⟨0,false,[]⟩,⟨1,false,[]⟩,⟨2,false,[]⟩,⟨3,false,[]⟩,⟨4,false,[]⟩,⟨5,false,[]⟩,⟨6,false,[]⟩,⟨7,false,[]⟩,⟨8,false,[]⟩,⟨9,true,[4,3,2,1,0]⟩,⟨10,true,[]⟩,⟨11,true,[]⟩])]
theorem ok183:qF prog 183 ord183=true:=oK
def co183:=qO ok183
def ord184:Ord:=[(3,[⟨0,false,[]⟩,⟨1,false,[]⟩,⟨2,false,[]⟩,⟨3,false,[]⟩,⟨4,false,[]⟩,⟨5,false,[]⟩,⟨6,false,[]⟩,⟨7,true,[]⟩]),(6,[⟨0,false,[]⟩,⟨1,false,[]⟩,⟨2,false,[]⟩,⟨3,false,[]⟩,⟨4,false,[]⟩,⟨5,false,[]⟩,⟨6,false,[]⟩,⟨7,true,[0]⟩,⟨8,false,[]⟩,⟨9,false,[]⟩,⟨10,true,[]⟩])]
theorem ok184:qF prog 184 ord184=true:=oK
def co184:=qO ok184
def ord185:Ord:=[]
theorem ok185:qF prog 185 ord185=true:=oK
def co185:=qO ok185
def ord186:Ord:=[]
theorem ok186:qF prog 186 ord186=true:=oK
def co186:=qO ok186
def ord187:Ord:=[]
theorem ok187:qF prog 187 ord187=true:=oK
def co187:=qO ok187
def ord188:Ord:=[]
theorem ok188:qF prog 188 ord188=true:=oK
def co188:=qO ok188
def ord189:Ord:=[]
theorem ok189:qF prog 189 ord189=true:=oK
def co189:=qO ok189
def ord190:Ord:=[]
theorem ok190:qF prog 190 ord190=true:=oK
def co190:=qO ok190
def ord191:Ord:=[]
theorem ok191:qF prog 191 ord191=true:=oK
def co191:=qO ok191
def ord192:Ord:=[]
theorem ok192:qF prog 192 ord192=true:=oK
def co192:=qO ok192
def ord193:Ord:=[]
theorem ok193:qF prog 193 ord193=true:=oK
def co193:=qO ok193
def ord194:Ord:=[(14,[⟨0,false,[]⟩,⟨1,false,[]⟩,⟨2,false,[]⟩,⟨3,false,[]⟩,⟨4,false,[]⟩,⟨5,false,[]⟩,⟨6,false,[]⟩,⟨7,false,[]⟩,⟨8,false,[]⟩,⟨9,false,[]⟩,⟨10,true,[0]⟩,⟨11,false,[]⟩,⟨12,false,[]⟩,⟨13,true,[]⟩])]
theorem ok194:qF prog 194 ord194=true:=oK
def co194:=qO ok194
def ord195:Ord:=[]
theorem ok195:qF prog 195 ord195=true:=oK
def co195:=qO ok195
def ord196:Ord:=[(1,[⟨0,false,[]⟩,⟨1,false,[]⟩,⟨2,false,[]⟩,⟨3,false,[]⟩,⟨4,false,[]⟩,⟨5,false,[]⟩,⟨6,false,[]⟩,⟨7,false,[]⟩,⟨8,true,[]⟩,⟨9,true,[]⟩])]
theorem ok196:qF prog 196 ord196=true:=oK
def co196:=qO ok196
def ord197:Ord:=[(4,[⟨0,false,[]⟩,⟨1,false,[]⟩,⟨2,false,[]⟩,⟨3,false,[]⟩,⟨4,false,[]⟩,⟨5,false,[]⟩,⟨6,false,[]⟩,⟨7,false,[]⟩,⟨8,false,[]⟩,⟨9,false,[]⟩,⟨10,false,[]⟩,⟨12,false,[]⟩,⟨13,false,[]⟩,⟨14,false,[]⟩,⟨15,false,[]⟩,⟨11,true,[15,14,13,12]⟩,⟨16,false,[]⟩,⟨17,false,[]⟩]),(6,[⟨0,false,[]⟩,⟨1,false,[]⟩,⟨2,false,[]⟩,⟨3,false,[]⟩,⟨4,false,[]⟩,⟨5,false,[]⟩,⟨6,false,[]⟩,⟨7,false,[]⟩,⟨8,false,[]⟩,⟨9,false,[]⟩,⟨10,false,[]⟩]),(9,[⟨0,false,[]⟩,⟨1,false,[]⟩,⟨2,false,[]⟩,⟨3,false,[]⟩,⟨4,false,[]⟩,⟨5,false,[]⟩,⟨6,false,[]⟩,⟨7,false,[]⟩,⟨8,false,[]⟩,⟨9,true,[]⟩,⟨10,false,[]⟩,⟨11,false,[]⟩,⟨12,false,[]⟩,⟨13,true,[12]⟩,⟨14,true,[]⟩]),(10,[⟨0,false,[]⟩,⟨1,false,[]⟩,⟨2,false,[]⟩,⟨3,false,[]⟩,⟨4,false,[]⟩,⟨5,true,[]⟩])]
theorem ok197:qF prog 197 ord197=true:=oK
def co197:=qO ok197
theorem no198:qK prog 198=false:=oK
def ord199:Ord:=[(1,[⟨0,false,[]⟩,⟨1,false,[]⟩,⟨2,false,[]⟩,⟨3,false,[]⟩,⟨4,false,[]⟩,⟨5,false,[]⟩,⟨6,false,[]⟩,⟨7,false,[]⟩,⟨8,true,[]⟩,⟨9,true,[]⟩]),(4,[⟨0,false,[]⟩,⟨1,false,[]⟩,⟨2,false,[]⟩,⟨3,false,[]⟩,⟨4,false,[]⟩,⟨5,false,[]⟩,⟨6,false,[]⟩,⟨7,false,[]⟩,⟨8,true,[]⟩,⟨9,false,[]⟩,⟨10,false,[]⟩,⟨11,true,[]⟩,⟨12,true,[]⟩])]
theorem ok199:qF prog 199 ord199=true:=oK
def co199:=qO ok199
def ord200:Ord:=[]
theorem ok200:qF prog 200 ord200=true:=oK
def co200:=qO ok200
def ord201:Ord:=[(1,[⟨0,false,[]⟩,⟨1,false,[]⟩,⟨2,false,[]⟩,⟨3,false,[]⟩,⟨4,false,[]⟩,⟨5,false,[]⟩,⟨6,false,[]⟩,⟨7,false,[]⟩,⟨8,false,[]⟩,⟨9,false,[]⟩]),(3,[⟨0,false,[]⟩,⟨1,false,[]⟩,⟨2,false,[]⟩,⟨3,false,[]⟩,⟨4,false,[]⟩,⟨5,false,[]⟩,⟨6,false,[]⟩,⟨7,true,[0]⟩,⟨8,false,[]⟩,⟨9,false,[]⟩,⟨10,true,[]⟩])]
theorem ok201:qF prog 201 ord201=true:=oK
def co201:=qO ok201
def ord210:Ord:=[]
theorem ok210:qF prog 210 ord210=true:=oK
def co210:=qO ok210
def ord211:Ord:=[]
theorem ok211:qF prog 211 ord211=true:=oK
def co211:=qO ok211
def ord212:Ord:=[]
theorem ok212:qF prog 212 ord212=true:=oK
def co212:=qO ok212
def ord213:Ord:=[]
theorem ok213:qF prog 213 ord213=true:=oK
def co213:=qO ok213
def ord214:Ord:=[]
theorem ok214:qF prog 214 ord214=true:=oK
def co214:=qO ok214
def ord215:Ord:=[]
theorem ok215:qF prog 215 ord215=true:=oK
def co215:=qO ok215
def ord216:Ord:=[]
theorem ok216:qF prog 216 ord216=true:=oK
def co216:=qO ok216
def ord217:Ord:=[]
theorem ok217:qF prog 217 ord217=true:=oK
def co217:=qO ok217
def ord218:Ord:=[]
theorem ok218:qF prog 218 ord218=true:=oK
def co218:=qO ok218
def ord219:Ord:=[]
theorem ok219:qF prog 219 ord219=true:=oK
def co219:=qO ok219
def ord220:Ord:=[]
theorem ok220:qF prog 220 ord220=true:=oK
def co220:=qO ok220
def ord221:Ord:=[]
theorem ok221:qF prog 221 ord221=true:=oK
def co221:=qO ok221
def ord222:Ord:=[]
theorem ok222:qF prog 222 ord222=true:=oK
def co222:=qO ok222
def ord223:Ord:=[]
theorem ok223:qF prog 223 ord223=true:=oK
def co223:=qO ok223
def ord224:Ord:=[]
theorem ok224:qF prog 224 ord224=true:=oK
def co224:=qO ok224
def ord225:Ord:=[]
theorem ok225:qF prog 225 ord225=true:=oK
def co225:=qO ok225
def ord226:Ord:=[(7,[⟨0,false,[]⟩,⟨1,false,[]⟩,⟨2,false,[]⟩,⟨3,false,[]⟩,⟨4,false,[]⟩,⟨5,false,[]⟩,⟨6,false,[]⟩,⟨7,false,[]⟩,⟨8,false,[]⟩,⟨9,false,[]⟩,⟨10,false,[]⟩,⟨11,false,[]⟩,⟨12,false,[]⟩,⟨13,true,[]⟩,⟨14,true,[]⟩])]
theorem ok226:qF prog 226 ord226=true:=oK
def co226:=qO ok226
def ord227:Ord:=[]
theorem ok227:qF prog 227 ord227=true:=oK
def co227:=qO ok227
def ord228:Ord:=[]
theorem ok228:qF prog 228 ord228=true:=oK
def co228:=qO ok228
def ord229:Ord:=[]
theorem ok229:qF prog 229 ord229=true:=oK
def co229:=qO ok229
def ord237:Ord:=[(4,[⟨0,false,[]⟩,⟨1,false,[]⟩,⟨2,false,[]⟩,⟨3,false,[]⟩,⟨4,false,[]⟩,⟨5,false,[]⟩,⟨6,false,[]⟩,⟨7,false,[]⟩,⟨8,false,[]⟩,⟨9,false,[]⟩,⟨10,false,[]⟩,⟨11,false,[]⟩,⟨12,false,[]⟩,⟨13,false,[]⟩,⟨14,false,[]⟩,⟨15,false,[]⟩,⟨16,false,[]⟩,⟨17,false,[]⟩,⟨18,false,[]⟩,⟨19,false,[]⟩,⟨20,false,[]⟩,⟨21,false,[]⟩,⟨22,true,[]⟩,⟨23,false,[]⟩]),(6,[⟨0,false,[]⟩,⟨1,false,[]⟩,⟨2,false,[]⟩,⟨3,false,[]⟩,⟨4,false,[]⟩,⟨5,false,[]⟩,⟨6,false,[]⟩,⟨7,false,[]⟩,⟨8,false,[]⟩,⟨9,false,[]⟩]),(8,[⟨0,false,[]⟩,⟨1,false,[]⟩,⟨2,false,[]⟩,⟨3,false,[]⟩,⟨4,false,[]⟩,⟨5,false,[]⟩,⟨6,false,[]⟩,⟨7,true,[0]⟩,⟨8,false,[]⟩,⟨9,false,[]⟩,⟨10,true,[]⟩])]
theorem ok237:qF prog 237 ord237=true:=oK
def co237:=qO ok237
def ord238:Ord:=[]
theorem ok238:qF prog 238 ord238=true:=oK
def co238:=qO ok238
def ord239:Ord:=[]
theorem ok239:qF prog 239 ord239=true:=oK
def co239:=qO ok239
def ord240:Ord:=[(4,[⟨0,false,[]⟩,⟨1,false,[]⟩,⟨2,false,[]⟩,⟨3,false,[]⟩,⟨4,false,[]⟩,⟨5,false,[]⟩,⟨6,false,[]⟩,⟨7,false,[]⟩,⟨8,false,[]⟩,⟨9,false,[]⟩,⟨10,false,[]⟩,⟨11,false,[]⟩,⟨12,false,[]⟩,⟨13,true,[9,8,7,6,5,4,3,2,1,0]⟩,⟨14,false,[]⟩,⟨15,true,[]⟩,⟨16,true,[]⟩])]
theorem ok240:qF prog 240 ord240=true:=oK
def co240:=qO ok240
def ord241:Ord:=[]
theorem ok241:qF prog 241 ord241=true:=oK
def co241:=qO ok241
def ord242:Ord:=[]
theorem ok242:qF prog 242 ord242=true:=oK
def co242:=qO ok242
def ord243:Ord:=[]
theorem ok243:qF prog 243 ord243=true:=oK
def co243:=qO ok243
def ord244:Ord:=[]
theorem ok244:qF prog 244 ord244=true:=oK
def co244:=qO ok244
def ord245:Ord:=[]
theorem ok245:qF prog 245 ord245=true:=oK
def co245:=qO ok245
def ord246:Ord:=[]
theorem ok246:qF prog 246 ord246=true:=oK
def co246:=qO ok246
def ord247:Ord:=[]
theorem ok247:qF prog 247 ord247=true:=oK
def co247:=qO ok247
def ord248:Ord:=[]
theorem ok248:qF prog 248 ord248=true:=oK
def co248:=qO ok248
def ord249:Ord:=[]
theorem ok249:qF prog 249 ord249=true:=oK
def co249:=qO ok249
def ord250:Ord:=[]
theorem ok250:qF prog 250 ord250=true:=oK
def co250:=qO ok250
def ord251:Ord:=[]
theorem ok251:qF prog 251 ord251=true:=oK
def co251:=qO ok251
def ord252:Ord:=[(6,[⟨0,false,[]⟩,⟨1,false,[]⟩,⟨2,false,[]⟩,⟨3,false,[]⟩,⟨4,false,[]⟩,⟨5,false,[]⟩,⟨6,false,[]⟩,⟨7,false,[]⟩,⟨8,false,[]⟩]),(7,[⟨0,false,[]⟩,⟨1,false,[]⟩,⟨2,false,[]⟩,⟨3,false,[]⟩,⟨4,false,[]⟩,⟨5,false,[]⟩,⟨6,false,[]⟩,⟨7,false,[]⟩,⟨8,false,[]⟩,⟨9,true,[]⟩])]
theorem ok252:qF prog 252 ord252=true:=oK
def co252:=qO ok252
def ord253:Ord:=[]
theorem ok253:qF prog 253 ord253=true:=oK
def co253:=qO ok253
def ord254:Ord:=[]
theorem ok254:qF prog 254 ord254=true:=oK
def co254:=qO ok254
def ord255:Ord:=[]
theorem ok255:qF prog 255 ord255=true:=oK
def co255:=qO ok255
def ord256:Ord:=[(7,[⟨0,false,[]⟩,⟨1,false,[]⟩,⟨2,false,[]⟩,⟨3,false,[]⟩,⟨4,false,[]⟩,⟨5,false,[]⟩,⟨6,false,[]⟩,⟨7,false,[]⟩,⟨8,false,[]⟩,⟨9,false,[]⟩,⟨10,false,[]⟩,⟨11,false,[]⟩,⟨12,false,[]⟩,⟨13,false,[]⟩,⟨14,false,[]⟩,⟨15,false,[]⟩,⟨16,false,[]⟩,⟨17,false,[]⟩,⟨18,false,[]⟩,⟨19,false,[]⟩,⟨20,false,[]⟩,⟨21,false,[]⟩,⟨22,false,[]⟩,⟨23,false,[]⟩,⟨24,false,[]⟩,⟨25,false,[]⟩,⟨26,false,[]⟩,⟨27,false,[]⟩,⟨28,false,[]⟩,⟨29,false,[]⟩,⟨30,false,[]⟩,⟨31,false,[]⟩,⟨32,true,[]⟩,⟨33,false,[]⟩])]
theorem ok256:qF prog 256 ord256=true:=oK
def co256:=qO ok256
def ord257:Ord:=[]
theorem ok257:qF prog 257 ord257=true:=oK
def co257:=qO ok257
def ord258:Ord:=[]
theorem ok258:qF prog 258 ord258=true:=oK
def co258:=qO ok258
def ord259:Ord:=[]
theorem ok259:qF prog 259 ord259=true:=oK
def co259:=qO ok259
def ord260:Ord:=[]
theorem ok260:qF prog 260 ord260=true:=oK
def co260:=qO ok260
def ord261:Ord:=[]
theorem ok261:qF prog 261 ord261=true:=oK
def co261:=qO ok261
def ord264:Ord:=[]
theorem ok264:qF prog 264 ord264=true:=oK
def co264:=qO ok264
def ord265:Ord:=[]
theorem ok265:qF prog 265 ord265=true:=oK
def co265:=qO ok265
def ord266:Ord:=[]
theorem ok266:qF prog 266 ord266=true:=oK
def co266:=qO ok266
def ord267:Ord:=[]
theorem ok267:qF prog 267 ord267=true:=oK
def co267:=qO ok267
def ord268:Ord:=[]
theorem ok268:qF prog 268 ord268=true:=oK
def co268:=qO ok268
def ord269:Ord:=[]
theorem ok269:qF prog 269 ord269=true:=oK
def co269:=qO ok269
def ord270:Ord:=[]
theorem ok270:qF prog 270 ord270=true:=oK
def co270:=qO ok270
def ord271:Ord:=[(0,[⟨0,false,[]⟩,⟨1,false,[]⟩,⟨2,false,[]⟩,⟨3,false,[]⟩,⟨4,false,[]⟩,⟨5,false,[]⟩,⟨6,false,[]⟩,⟨7,false,[]⟩,⟨8,false,[]⟩,⟨9,false,[]⟩,⟨10,false,[]⟩,⟨11,false,[]⟩,⟨12,false,[]⟩,⟨13,false,[]⟩,⟨14,false,[]⟩,⟨15,false,[]⟩,⟨16,false,[]⟩,⟨17,false,[]⟩,⟨18,false,[]⟩,⟨19,false,[]⟩]),(5,[⟨0,false,[]⟩,⟨1,false,[]⟩,⟨2,false,[]⟩,⟨3,false,[]⟩,⟨4,false,[]⟩,⟨5,false,[]⟩,⟨6,false,[]⟩,⟨7,true,[]⟩])]
theorem ok271:qF prog 271 ord271=true:=oK
def co271:=qO ok271
def ord275:Ord:=[(6,[⟨0,false,[]⟩,⟨1,false,[]⟩,⟨2,false,[]⟩,⟨3,false,[]⟩,⟨4,false,[]⟩,⟨5,false,[]⟩,⟨6,false,[]⟩,⟨7,false,[]⟩,⟨8,false,[]⟩])]
theorem ok275:qF prog 275 ord275=true:=oK
def co275:=qO ok275
def ord276:Ord:=[]
theorem ok276:qF prog 276 ord276=true:=oK
def co276:=qO ok276
def ord277:Ord:=[]
theorem ok277:qF prog 277 ord277=true:=oK
def co277:=qO ok277
def ord278:Ord:=[]
theorem ok278:qF prog 278 ord278=true:=oK
def co278:=qO ok278
def ord279:Ord:=[]
theorem ok279:qF prog 279 ord279=true:=oK
def co279:=qO ok279
def ord280:Ord:=[(3,[⟨0,false,[]⟩,⟨1,false,[]⟩,⟨2,false,[]⟩,⟨3,false,[]⟩,⟨4,false,[]⟩,⟨5,false,[]⟩,⟨6,false,[]⟩,⟨7,false,[]⟩,⟨8,false,[]⟩,⟨9,false,[]⟩,⟨10,false,[]⟩,⟨11,false,[]⟩,⟨12,false,[]⟩,⟨13,true,[3,2]⟩,⟨14,false,[]⟩,⟨15,true,[]⟩])]
theorem ok280:qF prog 280 ord280=true:=oK
def co280:=qO ok280
theorem no281:qK prog 281=false:=oK
def ord282:Ord:=[(2,[⟨0,false,[]⟩,⟨1,false,[]⟩,⟨2,false,[]⟩,⟨3,false,[]⟩,⟨4,false,[]⟩,⟨5,true,[]⟩,⟨6,true,[]⟩])]
theorem ok282:qF prog 282 ord282=true:=oK
def co282:=qO ok282
def ord283:Ord:=[]
theorem ok283:qF prog 283 ord283=true:=oK
def co283:=qO ok283
def ord284:Ord:=[]
theorem ok284:qF prog 284 ord284=true:=oK
def co284:=qO ok284
def ord291:Ord:=[]
theorem ok291:qF prog 291 ord291=true:=oK
def co291:=qO ok291
theorem sz2:szOf prog 2=some 1:=oK
theorem is2:(prog.info? 2).isSome=true:=oK
theorem ce2:prog.cellsOf 2=1:=oK
theorem ag2:aggT prog 2=some false:=oK
theorem ze2:czero prog 2=some (.int .i64 0):=oK
theorem sz3:szOf prog 3=some 1:=oK
theorem is3:(prog.info? 3).isSome=true:=oK
theorem ce3:prog.cellsOf 3=1:=oK
theorem ag3:aggT prog 3=some false:=oK
theorem ze3:czero prog 3=some (.int .i64 0):=oK
theorem sz4:szOf prog 4=some 1:=oK
theorem is4:(prog.info? 4).isSome=true:=oK
theorem ce4:prog.cellsOf 4=1:=oK
theorem ag4:aggT prog 4=some false:=oK
theorem ze4:czero prog 4=some (.bool false):=oK
theorem be4{x y:Operand}{a b:Bool}:cbin prog .eql 4 x y (.bool a) (.bool b)=some (.bool (a == b)):=oK
theorem bn4{x y:Operand}{a b:Bool}:cbin prog .neq 4 x y (.bool a) (.bool b)=some (.bool (!(a == b))):=oK
theorem sz5:szOf prog 5=some 1:=oK
theorem is5:(prog.info? 5).isSome=true:=oK
theorem ce5:prog.cellsOf 5=1:=oK
theorem ag5:aggT prog 5=some false:=oK
theorem ze5:czero prog 5=some (.int .u8 0):=oK
theorem sz9:szOf prog 9=some 1:=oK
theorem is9:(prog.info? 9).isSome=true:=oK
theorem ce9:prog.cellsOf 9=1:=oK
theorem ag9:aggT prog 9=some false:=oK
theorem ze9:czero prog 9=some (.string ByteArray.empty):=oK
theorem sz22:szOf prog 22=some 1:=oK
theorem is22:(prog.info? 22).isSome=true:=oK
theorem ce22:prog.cellsOf 22=1:=oK
theorem ag22:aggT prog 22=some false:=oK
theorem ze22:czero prog 22=some (.slice none 0 0):=oK
theorem sz24:szOf prog 24=some 4:=oK
theorem is24:(prog.info? 24).isSome=true:=oK
theorem ce24:prog.cellsOf 24=4:=oK
theorem ag24:aggT prog 24=some true:=oK
theorem ze24:czero prog 24=some (.agg #[.int .i64 0,.int .i64 0,.int .i64 0,.int .i64 0]):=oK
theorem fa24x0:faOk prog 24 0=some 0:=oK
theorem fa24x1:faOk prog 24 1=some 1:=oK
theorem fa24x2:faOk prog 24 2=some 2:=oK
theorem fa24x3:faOk prog 24 3=some 3:=oK
theorem sz25:szOf prog 25=some 1:=oK
theorem is25:(prog.info? 25).isSome=true:=oK
theorem ce25:prog.cellsOf 25=1:=oK
theorem ag25:aggT prog 25=some false:=oK
theorem ze25:czero prog 25=some (.pointer none):=oK
theorem nt25{x y:Operand}:cbin prog .eql 25 x y (.pointer none) (.pointer none)=some (.bool true):=oK
theorem nn25{x y:Operand}:cbin prog .neq 25 x y (.pointer none) (.pointer none)=some (.bool false):=oK
theorem nf25{x y:Operand}{a:Addr}:cbin prog .eql 25 x y (.pointer (some a)) (.pointer none)=some (.bool false):=oK
theorem ng25{x y:Operand}{a:Addr}:cbin prog .neq 25 x y (.pointer (some a)) (.pointer none)=some (.bool true):=oK
theorem sz27:szOf prog 27=some 1:=oK
theorem is27:(prog.info? 27).isSome=true:=oK
theorem ce27:prog.cellsOf 27=1:=oK
theorem ag27:aggT prog 27=some false:=oK
theorem ze27:czero prog 27=some (.pointer none):=oK
theorem nt27{x y:Operand}:cbin prog .eql 27 x y (.pointer none) (.pointer none)=some (.bool true):=oK
theorem nn27{x y:Operand}:cbin prog .neq 27 x y (.pointer none) (.pointer none)=some (.bool false):=oK
theorem nf27{x y:Operand}{a:Addr}:cbin prog .eql 27 x y (.pointer (some a)) (.pointer none)=some (.bool false):=oK
theorem ng27{x y:Operand}{a:Addr}:cbin prog .neq 27 x y (.pointer (some a)) (.pointer none)=some (.bool true):=oK
theorem sz31:szOf prog 31=some 3:=oK
theorem is31:(prog.info? 31).isSome=true:=oK
theorem ce31:prog.cellsOf 31=3:=oK
theorem ag31:aggT prog 31=some true:=oK
theorem ze31:czero prog 31=some (.agg #[.int .i64 0,.int .i64 0,.string ByteArray.empty]):=oK
theorem fa31x0:faOk prog 31 0=some 0:=oK
theorem fa31x1:faOk prog 31 1=some 1:=oK
theorem fa31x2:faOk prog 31 2=some 2:=oK
theorem sz33:szOf prog 33=some 13:=oK
theorem is33:(prog.info? 33).isSome=true:=oK
theorem ce33:prog.cellsOf 33=13:=oK
theorem ag33:aggT prog 33=some true:=oK
theorem ze33:czero prog 33=some (.agg #[.int .i64 0,.int .i64 0,.int .i64 0,.string ByteArray.empty,.int .i64 0,.int .i64 0,.string ByteArray.empty,.int .i64 0,.int .i64 0,.string ByteArray.empty,.int .i64 0,.int .i64 0,.string ByteArray.empty]):=oK
theorem fa33x0:faOk prog 33 0=some 0:=oK
theorem fa33x1:faOk prog 33 1=some 1:=oK
theorem fa33x2:faOk prog 33 2=some 2:=oK
theorem fa33x3:faOk prog 33 3=some 3:=oK
theorem fa33x4:faOk prog 33 4=some 4:=oK
theorem fa33x5:faOk prog 33 5=some 7:=oK
theorem fa33x6:faOk prog 33 6=some 10:=oK
theorem sz38:szOf prog 38=some 1:=oK
theorem is38:(prog.info? 38).isSome=true:=oK
theorem ce38:prog.cellsOf 38=1:=oK
theorem ag38:aggT prog 38=some false:=oK
theorem ze38:czero prog 38=some (.int .i64 0):=oK
theorem sz39:szOf prog 39=some 1:=oK
theorem is39:(prog.info? 39).isSome=true:=oK
theorem ce39:prog.cellsOf 39=1:=oK
theorem ag39:aggT prog 39=some false:=oK
theorem ze39:czero prog 39=some (.slice none 0 0):=oK
theorem sz41:szOf prog 41=some 5:=oK
theorem is41:(prog.info? 41).isSome=true:=oK
theorem ce41:prog.cellsOf 41=5:=oK
theorem ag41:aggT prog 41=some true:=oK
theorem ze41:czero prog 41=some (.agg #[.int .i64 0,.int .i64 0,.int .i64 0,.slice none 0 0,.string ByteArray.empty]):=oK
theorem fa41x0:faOk prog 41 0=some 0:=oK
theorem fa41x1:faOk prog 41 1=some 1:=oK
theorem fa41x2:faOk prog 41 2=some 2:=oK
theorem fa41x3:faOk prog 41 3=some 3:=oK
theorem fa41x4:faOk prog 41 4=some 4:=oK
theorem sz43:szOf prog 43=some 1:=oK
theorem is43:(prog.info? 43).isSome=true:=oK
theorem ce43:prog.cellsOf 43=1:=oK
theorem ag43:aggT prog 43=some false:=oK
theorem sz48:szOf prog 48=some 1:=oK
theorem is48:(prog.info? 48).isSome=true:=oK
theorem ce48:prog.cellsOf 48=1:=oK
theorem ag48:aggT prog 48=some false:=oK
theorem ze48:czero prog 48=some (.slice none 0 0):=oK
theorem sz58:szOf prog 58=some 1:=oK
theorem is58:(prog.info? 58).isSome=true:=oK
theorem ce58:prog.cellsOf 58=1:=oK
theorem ag58:aggT prog 58=some false:=oK
theorem ze58:czero prog 58=some (.slice none 0 0):=oK
theorem sz60:szOf prog 60=some 3:=oK
theorem is60:(prog.info? 60).isSome=true:=oK
theorem ce60:prog.cellsOf 60=3:=oK
theorem ag60:aggT prog 60=some true:=oK
theorem ze60:czero prog 60=some (.agg #[.int .i64 0,.slice none 0 0,.slice none 0 0]):=oK
theorem fa60x0:faOk prog 60 0=some 0:=oK
theorem fa60x1:faOk prog 60 1=some 1:=oK
theorem fa60x2:faOk prog 60 2=some 2:=oK
theorem sz62:szOf prog 62=some 7:=oK
theorem is62:(prog.info? 62).isSome=true:=oK
theorem ce62:prog.cellsOf 62=7:=oK
theorem ag62:aggT prog 62=some true:=oK
theorem ze62:czero prog 62=some (.agg #[.int .i64 0,.int .i64 0,.slice none 0 0,.slice none 0 0,.int .i64 0,.int .i64 0,.string ByteArray.empty]):=oK
theorem fa62x0:faOk prog 62 0=some 0:=oK
theorem fa62x1:faOk prog 62 1=some 1:=oK
theorem fa62x2:faOk prog 62 2=some 2:=oK
theorem fa62x3:faOk prog 62 3=some 3:=oK
theorem fa62x4:faOk prog 62 4=some 4:=oK
theorem sz70:szOf prog 70=some 1:=oK
theorem is70:(prog.info? 70).isSome=true:=oK
theorem ce70:prog.cellsOf 70=1:=oK
theorem ag70:aggT prog 70=some false:=oK
theorem ze70:czero prog 70=some (.slice none 0 0):=oK
theorem sz72:szOf prog 72=some 5:=oK
theorem is72:(prog.info? 72).isSome=true:=oK
theorem ce72:prog.cellsOf 72=5:=oK
theorem ag72:aggT prog 72=some true:=oK
theorem ze72:czero prog 72=some (.agg #[.int .i64 0,.int .i64 0,.int .i64 0,.int .i64 0,.slice none 0 0]):=oK
theorem fa72x0:faOk prog 72 0=some 0:=oK
theorem fa72x1:faOk prog 72 1=some 1:=oK
theorem fa72x2:faOk prog 72 2=some 2:=oK
theorem fa72x3:faOk prog 72 3=some 3:=oK
theorem fa72x4:faOk prog 72 4=some 4:=oK
theorem sz74:szOf prog 74=some 3:=oK
theorem is74:(prog.info? 74).isSome=true:=oK
theorem ce74:prog.cellsOf 74=3:=oK
theorem ag74:aggT prog 74=some true:=oK
theorem ze74:czero prog 74=some (.agg #[.int .i64 0,.int .i64 0,.int .i64 0]):=oK
theorem fa74x0:faOk prog 74 0=some 0:=oK
theorem fa74x1:faOk prog 74 1=some 1:=oK
theorem fa74x2:faOk prog 74 2=some 2:=oK
theorem sz75:szOf prog 75=some 1:=oK
theorem is75:(prog.info? 75).isSome=true:=oK
theorem ce75:prog.cellsOf 75=1:=oK
theorem ag75:aggT prog 75=some false:=oK
theorem sz78:szOf prog 78=some 1:=oK
theorem is78:(prog.info? 78).isSome=true:=oK
theorem ce78:prog.cellsOf 78=1:=oK
theorem ag78:aggT prog 78=some false:=oK
theorem ze78:czero prog 78=some (.pointer none):=oK
theorem nt78{x y:Operand}:cbin prog .eql 78 x y (.pointer none) (.pointer none)=some (.bool true):=oK
theorem nn78{x y:Operand}:cbin prog .neq 78 x y (.pointer none) (.pointer none)=some (.bool false):=oK
theorem nf78{x y:Operand}{a:Addr}:cbin prog .eql 78 x y (.pointer (some a)) (.pointer none)=some (.bool false):=oK
theorem ng78{x y:Operand}{a:Addr}:cbin prog .neq 78 x y (.pointer (some a)) (.pointer none)=some (.bool true):=oK
theorem sz80:szOf prog 80=some 1:=oK
theorem is80:(prog.info? 80).isSome=true:=oK
theorem ce80:prog.cellsOf 80=1:=oK
theorem ag80:aggT prog 80=some false:=oK
theorem ze80:czero prog 80=some (.pointer none):=oK
theorem nt80{x y:Operand}:cbin prog .eql 80 x y (.pointer none) (.pointer none)=some (.bool true):=oK
theorem nn80{x y:Operand}:cbin prog .neq 80 x y (.pointer none) (.pointer none)=some (.bool false):=oK
theorem nf80{x y:Operand}{a:Addr}:cbin prog .eql 80 x y (.pointer (some a)) (.pointer none)=some (.bool false):=oK
theorem ng80{x y:Operand}{a:Addr}:cbin prog .neq 80 x y (.pointer (some a)) (.pointer none)=some (.bool true):=oK
theorem sz87:szOf prog 87=some 1:=oK
theorem is87:(prog.info? 87).isSome=true:=oK
theorem ce87:prog.cellsOf 87=1:=oK
theorem ag87:aggT prog 87=some true:=oK
theorem ze87:czero prog 87=some (.agg #[.int .i64 0]):=oK
theorem fa87x2:faOk prog 87 2=some 0:=oK
theorem sz88:szOf prog 88=some 1:=oK
theorem is88:(prog.info? 88).isSome=true:=oK
theorem ce88:prog.cellsOf 88=1:=oK
theorem ag88:aggT prog 88=some false:=oK
theorem ze88:czero prog 88=some (.slice none 0 0):=oK
theorem sz90:szOf prog 90=some 17:=oK
theorem is90:(prog.info? 90).isSome=true:=oK
theorem ce90:prog.cellsOf 90=17:=oK
theorem ag90:aggT prog 90=some true:=oK
theorem ze90:czero prog 90=some (.agg #[.pointer none,.pointer none,.int .i64 0,.int .i64 0,.int .i64 0,.int .i64 0,.slice none 0 0,.int .i64 0,.int .i64 0,.int .i64 0,.slice none 0 0,.slice none 0 0,.int .i64 0,.int .i64 0,.int .i64 0,.int .i64 0,.string ByteArray.empty]):=oK
theorem fa90x0:faOk prog 90 0=some 0:=oK
theorem fa90x1:faOk prog 90 1=some 1:=oK
theorem fa90x2:faOk prog 90 2=some 2:=oK
theorem fa90x3:faOk prog 90 3=some 6:=oK
theorem fa90x4:faOk prog 90 4=some 7:=oK
theorem fa90x5:faOk prog 90 5=some 8:=oK
theorem fa90x6:faOk prog 90 6=some 9:=oK
theorem fa90x7:faOk prog 90 7=some 10:=oK
theorem fa90x8:faOk prog 90 8=some 11:=oK
theorem fa90x9:faOk prog 90 9=some 12:=oK
theorem fa90x10:faOk prog 90 10=some 13:=oK
theorem fa90x11:faOk prog 90 11=some 14:=oK
theorem sz91:szOf prog 91=some 1:=oK
theorem is91:(prog.info? 91).isSome=true:=oK
theorem ce91:prog.cellsOf 91=1:=oK
theorem ag91:aggT prog 91=some false:=oK
theorem ze91:czero prog 91=some (.pointer none):=oK
theorem nt91{x y:Operand}:cbin prog .eql 91 x y (.pointer none) (.pointer none)=some (.bool true):=oK
theorem nn91{x y:Operand}:cbin prog .neq 91 x y (.pointer none) (.pointer none)=some (.bool false):=oK
theorem nf91{x y:Operand}{a:Addr}:cbin prog .eql 91 x y (.pointer (some a)) (.pointer none)=some (.bool false):=oK
theorem ng91{x y:Operand}{a:Addr}:cbin prog .neq 91 x y (.pointer (some a)) (.pointer none)=some (.bool true):=oK
theorem sz94:szOf prog 94=some 16:=oK
theorem is94:(prog.info? 94).isSome=true:=oK
theorem ce94:prog.cellsOf 94=16:=oK
theorem ag94:aggT prog 94=some true:=oK
theorem ze94:czero prog 94=some (.agg #[.pointer none,.int .i64 0,.int .i64 0,.int .i64 0,.int .i64 0,.slice none 0 0,.int .i64 0,.int .i64 0,.int .i64 0,.slice none 0 0,.slice none 0 0,.int .i64 0,.int .i64 0,.int .i64 0,.int .i64 0,.string ByteArray.empty]):=oK
theorem fa94x0:faOk prog 94 0=some 0:=oK
theorem fa94x1:faOk prog 94 1=some 1:=oK
theorem fa94x2:faOk prog 94 2=some 5:=oK
theorem fa94x3:faOk prog 94 3=some 6:=oK
theorem fa94x4:faOk prog 94 4=some 7:=oK
theorem fa94x5:faOk prog 94 5=some 8:=oK
theorem fa94x6:faOk prog 94 6=some 9:=oK
theorem fa94x7:faOk prog 94 7=some 10:=oK
theorem fa94x8:faOk prog 94 8=some 11:=oK
theorem fa94x9:faOk prog 94 9=some 12:=oK
theorem fa94x10:faOk prog 94 10=some 13:=oK
theorem sz102:szOf prog 102=some 1:=oK
theorem is102:(prog.info? 102).isSome=true:=oK
theorem ce102:prog.cellsOf 102=1:=oK
theorem ag102:aggT prog 102=some false:=oK
theorem ze102:czero prog 102=some (.pointer none):=oK
theorem nt102{x y:Operand}:cbin prog .eql 102 x y (.pointer none) (.pointer none)=some (.bool true):=oK
theorem nn102{x y:Operand}:cbin prog .neq 102 x y (.pointer none) (.pointer none)=some (.bool false):=oK
theorem nf102{x y:Operand}{a:Addr}:cbin prog .eql 102 x y (.pointer (some a)) (.pointer none)=some (.bool false):=oK
theorem ng102{x y:Operand}{a:Addr}:cbin prog .neq 102 x y (.pointer (some a)) (.pointer none)=some (.bool true):=oK
theorem sz103:szOf prog 103=some 1:=oK
theorem ag103:aggT prog 103=some false:=oK
theorem sz105:szOf prog 105=some 2:=oK
theorem is105:(prog.info? 105).isSome=true:=oK
theorem ce105:prog.cellsOf 105=2:=oK
theorem ag105:aggT prog 105=some true:=oK
theorem ze105:czero prog 105=some (.agg #[.pointer none,.slice none 0 0]):=oK
theorem fa105x0:faOk prog 105 0=some 0:=oK
theorem fa105x1:faOk prog 105 1=some 1:=oK
theorem sz107:szOf prog 107=some 1:=oK
theorem is107:(prog.info? 107).isSome=true:=oK
theorem ce107:prog.cellsOf 107=1:=oK
theorem ag107:aggT prog 107=some false:=oK
theorem ze107:czero prog 107=some (.nilIface):=oK
theorem sz108:szOf prog 108=some 1:=oK
theorem is108:(prog.info? 108).isSome=true:=oK
theorem ce108:prog.cellsOf 108=1:=oK
theorem ag108:aggT prog 108=some false:=oK
theorem sz115:szOf prog 115=some 1:=oK
theorem is115:(prog.info? 115).isSome=true:=oK
theorem ce115:prog.cellsOf 115=1:=oK
theorem ag115:aggT prog 115=some false:=oK
theorem sz120:szOf prog 120=some 1:=oK
theorem is120:(prog.info? 120).isSome=true:=oK
theorem ce120:prog.cellsOf 120=1:=oK
theorem ag120:aggT prog 120=some false:=oK
theorem sz122:szOf prog 122=some 1:=oK
theorem is122:(prog.info? 122).isSome=true:=oK
theorem ce122:prog.cellsOf 122=1:=oK
theorem ag122:aggT prog 122=some false:=oK
theorem sz130:szOf prog 130=some 1:=oK
theorem is130:(prog.info? 130).isSome=true:=oK
theorem ce130:prog.cellsOf 130=1:=oK
theorem ag130:aggT prog 130=some false:=oK
theorem ze130:czero prog 130=some (.nilFunc):=oK
theorem sz143:szOf prog 143=some 1:=oK
theorem is143:(prog.info? 143).isSome=true:=oK
theorem ce143:prog.cellsOf 143=1:=oK
theorem ag143:aggT prog 143=some false:=oK
theorem ze143:czero prog 143=some (.pointer none):=oK
theorem nt143{x y:Operand}:cbin prog .eql 143 x y (.pointer none) (.pointer none)=some (.bool true):=oK
theorem nn143{x y:Operand}:cbin prog .neq 143 x y (.pointer none) (.pointer none)=some (.bool false):=oK
theorem nf143{x y:Operand}{a:Addr}:cbin prog .eql 143 x y (.pointer (some a)) (.pointer none)=some (.bool false):=oK
theorem ng143{x y:Operand}{a:Addr}:cbin prog .neq 143 x y (.pointer (some a)) (.pointer none)=some (.bool true):=oK
theorem sz145:szOf prog 145=some 1:=oK
theorem is145:(prog.info? 145).isSome=true:=oK
theorem ce145:prog.cellsOf 145=1:=oK
theorem ag145:aggT prog 145=some false:=oK
theorem ze145:czero prog 145=some (.pointer none):=oK
theorem nt145{x y:Operand}:cbin prog .eql 145 x y (.pointer none) (.pointer none)=some (.bool true):=oK
theorem nn145{x y:Operand}:cbin prog .neq 145 x y (.pointer none) (.pointer none)=some (.bool false):=oK
theorem nf145{x y:Operand}{a:Addr}:cbin prog .eql 145 x y (.pointer (some a)) (.pointer none)=some (.bool false):=oK
theorem ng145{x y:Operand}{a:Addr}:cbin prog .neq 145 x y (.pointer (some a)) (.pointer none)=some (.bool true):=oK
theorem sz147:szOf prog 147=some 1:=oK
theorem is147:(prog.info? 147).isSome=true:=oK
theorem ce147:prog.cellsOf 147=1:=oK
theorem ag147:aggT prog 147=some false:=oK
theorem ze147:czero prog 147=some (.slice none 0 0):=oK
theorem sz149:szOf prog 149=some 5:=oK
theorem is149:(prog.info? 149).isSome=true:=oK
theorem ce149:prog.cellsOf 149=5:=oK
theorem ag149:aggT prog 149=some true:=oK
theorem ze149:czero prog 149=some (.agg #[.slice none 0 0,.pointer none,.pointer none,.int .i64 0,.int .i64 0]):=oK
theorem fa149x0:faOk prog 149 0=some 0:=oK
theorem fa149x1:faOk prog 149 1=some 1:=oK
theorem fa149x2:faOk prog 149 2=some 2:=oK
theorem fa149x3:faOk prog 149 3=some 3:=oK
theorem fa149x4:faOk prog 149 4=some 4:=oK
theorem sz150:szOf prog 150=some 1:=oK
theorem is150:(prog.info? 150).isSome=true:=oK
theorem ce150:prog.cellsOf 150=1:=oK
theorem ag150:aggT prog 150=some false:=oK
theorem ze150:czero prog 150=some (.pointer none):=oK
theorem nt150{x y:Operand}:cbin prog .eql 150 x y (.pointer none) (.pointer none)=some (.bool true):=oK
theorem nn150{x y:Operand}:cbin prog .neq 150 x y (.pointer none) (.pointer none)=some (.bool false):=oK
theorem nf150{x y:Operand}{a:Addr}:cbin prog .eql 150 x y (.pointer (some a)) (.pointer none)=some (.bool false):=oK
theorem ng150{x y:Operand}{a:Addr}:cbin prog .neq 150 x y (.pointer (some a)) (.pointer none)=some (.bool true):=oK
theorem sz152:szOf prog 152=some 1:=oK
theorem is152:(prog.info? 152).isSome=true:=oK
theorem ce152:prog.cellsOf 152=1:=oK
theorem ag152:aggT prog 152=some false:=oK
theorem ze152:czero prog 152=some (.slice none 0 0):=oK
theorem sz154:szOf prog 154=some 1:=oK
theorem is154:(prog.info? 154).isSome=true:=oK
theorem ce154:prog.cellsOf 154=1:=oK
theorem ag154:aggT prog 154=some true:=oK
theorem ze154:czero prog 154=some (.agg #[.slice none 0 0]):=oK
theorem fa154x0:faOk prog 154 0=some 0:=oK
theorem sz156:szOf prog 156=some 5:=oK
theorem is156:(prog.info? 156).isSome=true:=oK
theorem ce156:prog.cellsOf 156=5:=oK
theorem ag156:aggT prog 156=some true:=oK
theorem ze156:czero prog 156=some (.agg #[.slice none 0 0,.int .i64 0,.int .i64 0,.pointer none,.slice none 0 0]):=oK
theorem fa156x0:faOk prog 156 0=some 0:=oK
theorem fa156x1:faOk prog 156 1=some 1:=oK
theorem fa156x2:faOk prog 156 2=some 2:=oK
theorem fa156x3:faOk prog 156 3=some 3:=oK
theorem fa156x4:faOk prog 156 4=some 4:=oK
theorem sz167:szOf prog 167=some 1:=oK
theorem is167:(prog.info? 167).isSome=true:=oK
theorem ce167:prog.cellsOf 167=1:=oK
theorem ag167:aggT prog 167=some false:=oK
theorem ze173:czero prog 173=some (.agg #[.int .u8 0,.int .u8 0,.int .u8 0,.int .u8 0,.int .u8 0,.int .u8 0,.int .u8 0,.int .u8 0,.int .u8 0,.int .u8 0,.int .u8 0,.int .u8 0,.int .u8 0,.int .u8 0,.int .u8 0,.int .u8 0,.int .u8 0,.int .u8 0,.int .u8 0,.int .u8 0]):=oK
theorem sz176:szOf prog 176=some 1:=oK
theorem is176:(prog.info? 176).isSome=true:=oK
theorem ce176:prog.cellsOf 176=1:=oK
theorem ag176:aggT prog 176=some false:=oK
theorem ze176:czero prog 176=some (.pointer none):=oK
theorem nt176{x y:Operand}:cbin prog .eql 176 x y (.pointer none) (.pointer none)=some (.bool true):=oK
theorem nn176{x y:Operand}:cbin prog .neq 176 x y (.pointer none) (.pointer none)=some (.bool false):=oK
theorem nf176{x y:Operand}{a:Addr}:cbin prog .eql 176 x y (.pointer (some a)) (.pointer none)=some (.bool false):=oK
theorem ng176{x y:Operand}{a:Addr}:cbin prog .neq 176 x y (.pointer (some a)) (.pointer none)=some (.bool true):=oK
theorem sz177:szOf prog 177=some 1:=oK
theorem is177:(prog.info? 177).isSome=true:=oK
theorem ce177:prog.cellsOf 177=1:=oK
theorem ag177:aggT prog 177=some false:=oK
theorem ze177:czero prog 177=some (.pointer none):=oK
theorem nt177{x y:Operand}:cbin prog .eql 177 x y (.pointer none) (.pointer none)=some (.bool true):=oK
theorem nn177{x y:Operand}:cbin prog .neq 177 x y (.pointer none) (.pointer none)=some (.bool false):=oK
theorem nf177{x y:Operand}{a:Addr}:cbin prog .eql 177 x y (.pointer (some a)) (.pointer none)=some (.bool false):=oK
theorem ng177{x y:Operand}{a:Addr}:cbin prog .neq 177 x y (.pointer (some a)) (.pointer none)=some (.bool true):=oK
theorem sz180:szOf prog 180=some 1:=oK
theorem is180:(prog.info? 180).isSome=true:=oK
theorem ce180:prog.cellsOf 180=1:=oK
theorem ag180:aggT prog 180=some true:=oK
theorem ze180:czero prog 180=some (.agg #[.pointer none]):=oK
theorem fa180x0:faOk prog 180 0=some 0:=oK
theorem sz182:szOf prog 182=some 1:=oK
theorem is182:(prog.info? 182).isSome=true:=oK
theorem ce182:prog.cellsOf 182=1:=oK
theorem ag182:aggT prog 182=some false:=oK
theorem ze182:czero prog 182=some (.nilIface):=oK
theorem sz184:szOf prog 184=some 3:=oK
theorem is184:(prog.info? 184).isSome=true:=oK
theorem ce184:prog.cellsOf 184=3:=oK
theorem ag184:aggT prog 184=some true:=oK
theorem ze184:czero prog 184=some (.agg #[.nilIface,.int .i64 0,.int .i64 0]):=oK
theorem fa184x0:faOk prog 184 0=some 0:=oK
theorem fa184x1:faOk prog 184 1=some 1:=oK
theorem fa184x2:faOk prog 184 2=some 2:=oK
theorem sz185:szOf prog 185=some 1:=oK
theorem is185:(prog.info? 185).isSome=true:=oK
theorem ce185:prog.cellsOf 185=1:=oK
theorem ag185:aggT prog 185=some false:=oK
theorem ze185:czero prog 185=some (.pointer none):=oK
theorem nt185{x y:Operand}:cbin prog .eql 185 x y (.pointer none) (.pointer none)=some (.bool true):=oK
theorem nn185{x y:Operand}:cbin prog .neq 185 x y (.pointer none) (.pointer none)=some (.bool false):=oK
theorem nf185{x y:Operand}{a:Addr}:cbin prog .eql 185 x y (.pointer (some a)) (.pointer none)=some (.bool false):=oK
theorem ng185{x y:Operand}{a:Addr}:cbin prog .neq 185 x y (.pointer (some a)) (.pointer none)=some (.bool true):=oK
theorem sz187:szOf prog 187=some 2:=oK
theorem is187:(prog.info? 187).isSome=true:=oK
theorem ce187:prog.cellsOf 187=2:=oK
theorem ag187:aggT prog 187=some true:=oK
theorem ze187:czero prog 187=some (.agg #[.int .i64 0,.slice none 0 0]):=oK
theorem fa187x0:faOk prog 187 0=some 0:=oK
theorem fa187x1:faOk prog 187 1=some 1:=oK
theorem sz193:szOf prog 193=some 3:=oK
theorem is193:(prog.info? 193).isSome=true:=oK
theorem ce193:prog.cellsOf 193=3:=oK
theorem ag193:aggT prog 193=some true:=oK
theorem ze193:czero prog 193=some (.agg #[.slice none 0 0,.int .i64 0,.int .i64 0]):=oK
theorem fa193x0:faOk prog 193 0=some 0:=oK
theorem fa193x1:faOk prog 193 1=some 1:=oK
theorem fa193x2:faOk prog 193 2=some 2:=oK
theorem sz209:szOf prog 209=some 1:=oK
theorem is209:(prog.info? 209).isSome=true:=oK
theorem ce209:prog.cellsOf 209=1:=oK
theorem ag209:aggT prog 209=some false:=oK
theorem ze209:czero prog 209=some (.pointer none):=oK
theorem nt209{x y:Operand}:cbin prog .eql 209 x y (.pointer none) (.pointer none)=some (.bool true):=oK
theorem nn209{x y:Operand}:cbin prog .neq 209 x y (.pointer none) (.pointer none)=some (.bool false):=oK
theorem nf209{x y:Operand}{a:Addr}:cbin prog .eql 209 x y (.pointer (some a)) (.pointer none)=some (.bool false):=oK
theorem ng209{x y:Operand}{a:Addr}:cbin prog .neq 209 x y (.pointer (some a)) (.pointer none)=some (.bool true):=oK
theorem sz211:szOf prog 211=some 1:=oK
theorem is211:(prog.info? 211).isSome=true:=oK
theorem ce211:prog.cellsOf 211=1:=oK
theorem ag211:aggT prog 211=some false:=oK
theorem ze211:czero prog 211=some (.pointer none):=oK
theorem nt211{x y:Operand}:cbin prog .eql 211 x y (.pointer none) (.pointer none)=some (.bool true):=oK
theorem nn211{x y:Operand}:cbin prog .neq 211 x y (.pointer none) (.pointer none)=some (.bool false):=oK
theorem nf211{x y:Operand}{a:Addr}:cbin prog .eql 211 x y (.pointer (some a)) (.pointer none)=some (.bool false):=oK
theorem ng211{x y:Operand}{a:Addr}:cbin prog .neq 211 x y (.pointer (some a)) (.pointer none)=some (.bool true):=oK
theorem sz220:szOf prog 220=some 1:=oK
theorem is220:(prog.info? 220).isSome=true:=oK
theorem ce220:prog.cellsOf 220=1:=oK
theorem ag220:aggT prog 220=some false:=oK
theorem sz224:szOf prog 224=some 1:=oK
theorem is224:(prog.info? 224).isSome=true:=oK
theorem ce224:prog.cellsOf 224=1:=oK
theorem ag224:aggT prog 224=some false:=oK
theorem sz227:szOf prog 227=some 1:=oK
theorem is227:(prog.info? 227).isSome=true:=oK
theorem ce227:prog.cellsOf 227=1:=oK
theorem ag227:aggT prog 227=some false:=oK
theorem sz234:szOf prog 234=some 1:=oK
theorem is234:(prog.info? 234).isSome=true:=oK
theorem ce234:prog.cellsOf 234=1:=oK
theorem ag234:aggT prog 234=some false:=oK
theorem ze234:czero prog 234=some (.map none):=oK
theorem nt234{x y:Operand}:cbin prog .eql 234 x y (.map none) (.map none)=some (.bool true):=oK
theorem nn234{x y:Operand}:cbin prog .neq 234 x y (.map none) (.map none)=some (.bool false):=oK
theorem nf234{x y:Operand}{a:Nat}:cbin prog .eql 234 x y (.map (some a)) (.map none)=some (.bool false):=oK
theorem ng234{x y:Operand}{a:Nat}:cbin prog .neq 234 x y (.map (some a)) (.map none)=some (.bool true):=oK
theorem sz235:szOf prog 235=some 1:=oK
theorem ag235:aggT prog 235=some false:=oK
theorem sz237:szOf prog 237=some 3:=oK
theorem is237:(prog.info? 237).isSome=true:=oK
theorem ce237:prog.cellsOf 237=3:=oK
theorem ag237:aggT prog 237=some true:=oK
theorem ze237:czero prog 237=some (.agg #[.slice none 0 0,.map none,.int .i64 0]):=oK
theorem fa237x0:faOk prog 237 0=some 0:=oK
theorem fa237x1:faOk prog 237 1=some 1:=oK
theorem fa237x2:faOk prog 237 2=some 2:=oK
theorem sz238:szOf prog 238=some 1:=oK
theorem is238:(prog.info? 238).isSome=true:=oK
theorem ce238:prog.cellsOf 238=1:=oK
theorem ag238:aggT prog 238=some false:=oK
theorem ze238:czero prog 238=some (.map none):=oK
theorem nt238{x y:Operand}:cbin prog .eql 238 x y (.map none) (.map none)=some (.bool true):=oK
theorem nn238{x y:Operand}:cbin prog .neq 238 x y (.map none) (.map none)=some (.bool false):=oK
theorem nf238{x y:Operand}{a:Nat}:cbin prog .eql 238 x y (.map (some a)) (.map none)=some (.bool false):=oK
theorem ng238{x y:Operand}{a:Nat}:cbin prog .neq 238 x y (.map (some a)) (.map none)=some (.bool true):=oK
theorem sz240:szOf prog 240=some 2:=oK
theorem is240:(prog.info? 240).isSome=true:=oK
theorem ce240:prog.cellsOf 240=2:=oK
theorem ag240:aggT prog 240=some true:=oK
theorem ze240:czero prog 240=some (.agg #[.map none,.slice none 0 0]):=oK
theorem fa240x0:faOk prog 240 0=some 0:=oK
theorem fa240x1:faOk prog 240 1=some 1:=oK
theorem sz241:szOf prog 241=some 1:=oK
theorem is241:(prog.info? 241).isSome=true:=oK
theorem ce241:prog.cellsOf 241=1:=oK
theorem ag241:aggT prog 241=some false:=oK
theorem ze241:czero prog 241=some (.slice none 0 0):=oK
theorem sz243:szOf prog 243=some 2:=oK
theorem is243:(prog.info? 243).isSome=true:=oK
theorem ce243:prog.cellsOf 243=2:=oK
theorem ag243:aggT prog 243=some true:=oK
theorem ze243:czero prog 243=some (.agg #[.slice none 0 0,.int .i64 0]):=oK
theorem fa243x0:faOk prog 243 0=some 0:=oK
theorem fa243x1:faOk prog 243 1=some 1:=oK
theorem sz245:szOf prog 245=some 1:=oK
theorem is245:(prog.info? 245).isSome=true:=oK
theorem ce245:prog.cellsOf 245=1:=oK
theorem ag245:aggT prog 245=some false:=oK
theorem ze245:czero prog 245=some (.pointer none):=oK
theorem nt245{x y:Operand}:cbin prog .eql 245 x y (.pointer none) (.pointer none)=some (.bool true):=oK
theorem nn245{x y:Operand}:cbin prog .neq 245 x y (.pointer none) (.pointer none)=some (.bool false):=oK
theorem nf245{x y:Operand}{a:Addr}:cbin prog .eql 245 x y (.pointer (some a)) (.pointer none)=some (.bool false):=oK
theorem ng245{x y:Operand}{a:Addr}:cbin prog .neq 245 x y (.pointer (some a)) (.pointer none)=some (.bool true):=oK
theorem sz247:szOf prog 247=some 2:=oK
theorem is247:(prog.info? 247).isSome=true:=oK
theorem ce247:prog.cellsOf 247=2:=oK
theorem ag247:aggT prog 247=some true:=oK
theorem ze247:czero prog 247=some (.agg #[.slice none 0 0,.slice none 0 0]):=oK
theorem fa247x0:faOk prog 247 0=some 0:=oK
theorem fa247x1:faOk prog 247 1=some 1:=oK
theorem sz249:szOf prog 249=some 5:=oK
theorem is249:(prog.info? 249).isSome=true:=oK
theorem ce249:prog.cellsOf 249=5:=oK
theorem ag249:aggT prog 249=some true:=oK
theorem ze249:czero prog 249=some (.agg #[.int .i64 0,.slice none 0 0,.slice none 0 0,.int .i64 0,.int .i64 0]):=oK
theorem fa249x0:faOk prog 249 0=some 0:=oK
theorem fa249x1:faOk prog 249 1=some 1:=oK
theorem fa249x2:faOk prog 249 2=some 3:=oK
theorem fa249x3:faOk prog 249 3=some 4:=oK
theorem sz253:szOf prog 253=some 1:=oK
theorem is253:(prog.info? 253).isSome=true:=oK
theorem ce253:prog.cellsOf 253=1:=oK
theorem ag253:aggT prog 253=some false:=oK
theorem sz262:szOf prog 262=some 1:=oK
theorem ag262:aggT prog 262=some false:=oK
theorem is264:(prog.info? 264).isSome=true:=oK
theorem fa264x0:faOk prog 264 0=some 0:=oK
theorem fa264x1:faOk prog 264 1=some 1:=oK
theorem sz265:szOf prog 265=some 1:=oK
theorem is265:(prog.info? 265).isSome=true:=oK
theorem ce265:prog.cellsOf 265=1:=oK
theorem ag265:aggT prog 265=some false:=oK
theorem sz268:szOf prog 268=some 5:=oK
theorem is268:(prog.info? 268).isSome=true:=oK
theorem ce268:prog.cellsOf 268=5:=oK
theorem ag268:aggT prog 268=some true:=oK
theorem ze268:czero prog 268=some (.agg #[.int .i64 0,.int .i64 0,.int .i64 0,.int .i64 0,.map none]):=oK
theorem fa268x0:faOk prog 268 0=some 0:=oK
theorem fa268x1:faOk prog 268 1=some 1:=oK
theorem fa268x2:faOk prog 268 2=some 2:=oK
theorem fa268x3:faOk prog 268 3=some 3:=oK
theorem fa268x4:faOk prog 268 4=some 4:=oK
theorem sz290:szOf prog 290=some 1:=oK
theorem is290:(prog.info? 290).isSome=true:=oK
theorem ce290:prog.cellsOf 290=1:=oK
theorem ag290:aggT prog 290=some false:=oK
theorem sz292:szOf prog 292=some 5:=oK
theorem is292:(prog.info? 292).isSome=true:=oK
theorem ce292:prog.cellsOf 292=5:=oK
theorem ag292:aggT prog 292=some true:=oK
theorem ze292:czero prog 292=some (.agg #[.string ByteArray.empty,.int .i64 0,.int .i64 0,.string ByteArray.empty,.bool false]):=oK
theorem fa292x0:faOk prog 292 0=some 0:=oK
theorem fa292x1:faOk prog 292 1=some 1:=oK
theorem fa292x2:faOk prog 292 2=some 4:=oK
theorem sz298:szOf prog 298=some 2:=oK
theorem is298:(prog.info? 298).isSome=true:=oK
theorem ce298:prog.cellsOf 298=2:=oK
theorem ag298:aggT prog 298=some true:=oK
theorem ze298:czero prog 298=some (.agg #[.int .i64 0,.slice none 0 0]):=oK
theorem fa298x0:faOk prog 298 0=some 0:=oK
theorem fa298x1:faOk prog 298 1=some 1:=oK
theorem sz299:szOf prog 299=some 1:=oK
theorem is299:(prog.info? 299).isSome=true:=oK
theorem ce299:prog.cellsOf 299=1:=oK
theorem ag299:aggT prog 299=some false:=oK
theorem ze299:czero prog 299=some (.pointer none):=oK
theorem nt299{x y:Operand}:cbin prog .eql 299 x y (.pointer none) (.pointer none)=some (.bool true):=oK
theorem nn299{x y:Operand}:cbin prog .neq 299 x y (.pointer none) (.pointer none)=some (.bool false):=oK
theorem nf299{x y:Operand}{a:Addr}:cbin prog .eql 299 x y (.pointer (some a)) (.pointer none)=some (.bool false):=oK
theorem ng299{x y:Operand}{a:Addr}:cbin prog .neq 299 x y (.pointer (some a)) (.pointer none)=some (.bool true):=oK
theorem nt306{x y:Operand}:cbin prog .eql 306 x y (.pointer none) (.pointer none)=some (.bool true):=oK
theorem nn306{x y:Operand}:cbin prog .neq 306 x y (.pointer none) (.pointer none)=some (.bool false):=oK
theorem nf306{x y:Operand}{a:Addr}:cbin prog .eql 306 x y (.pointer (some a)) (.pointer none)=some (.bool false):=oK
theorem ng306{x y:Operand}{a:Addr}:cbin prog .neq 306 x y (.pointer (some a)) (.pointer none)=some (.bool true):=oK
section
def vA(k n:Int)(x:ByteArray):Value := .agg #[.int .i64 k,.int .i64 n,.string x]
def vB(k n:Int)(x:ByteArray):Blk := .cells [.int .i64 k,.int .i64 n,.string x] 31 true
theorem isKey_spec{k n:Int}{x:ByteArray}(h:R (.bool (decide (k=3))) (s.new (vB k n x))):QC prog w0 151 #[vA k n x] s R:=by
 refine wfun2 hmix ok151 func151 rfl ntmps151 results151 (by simp) ?_
 simp only[↓Zd,Zp,Zs,simprocAttr,underlying3,vA,is31,fa31x0,ag3]
 exact h
def truthV(k n:Int):Bool := !decide (k=0) && (!decide (k=1) || !decide (n=0))
theorem truth_spec{k n:Int}{x:ByteArray}(h:R (.bool (truthV k n)) (s.new (vB k n x))):QC prog w0 176 #[vA k n x] s R:=by
 refine wfun2 hmix ok176 func176 rfl ntmps176 results176 (by simp) ?_
 unfold truthV at h
 by_cases h0:k=0
 ·simp only[h0,decide_true,Bool.not_true,Bool.false_and]at h
  subst h0
  simp only[↓Zd,Zp,Zs,simprocAttr,underlying3,vA,is31,fa31x0,ag3]
  exact h
 ·by_cases h1:k=1
  ·subst h1
   by_cases h2:n=0
   ·subst h2
    simp only[↓Zd,Zp,Zs,simprocAttr,underlying3,vA,is31,fa31x0,fa31x1,ag3]
    exact h
   ·simp only[h2,decide_false,Bool.not_false,Bool.or_true,Bool.and_true]at h
    simp only[↓Zd,Zp,Zs,simprocAttr,underlying3,vA,is31,fa31x0,fa31x1,ag3,h2]
    exact h
  ·simp only[h0,h1,decide_false,Bool.not_false,Bool.true_or,Bool.and_true]at h
   simp only[↓Zd,Zp,Zs,simprocAttr,underlying3,vA,is31,fa31x0,ag3,h0,h1]
   exact h
end
def CNamesA0:=(aI (aI (aI @underlying3 @underlying4) (aI @underlying9 @underlying5)) (aI (aI @underlying38 @underlying0) (aI @be4 @bn4)))
def idxOf:List ByteArray→ByteArray→Option Nat
 | [],_=>none
 |y::T,x=>if y=x then some 0 else (idxOf T x).map (·+1)
def entsFrom:List ByteArray→Nat→List MapEntry
 | [],_=>[]
 |y::T,i=>{ key := .string y,val := .int .i64 ((i+1:Nat):Int),born:=i }::entsFrom T (i+1)
theorem ents_app:∀ (T:List ByteArray) (x:ByteArray) (i:Nat),entsFrom (T ++ [x]) i=entsFrom T i ++ [{ key := .string x,val := .int .i64 ((i+T.length+1:Nat):Int),born:=i+T.length }]:=by
 intro T;induction T with
 |nil=>intro x i;rfl
 |cons y T ih=>intro x i;simp only[List.cons_append,entsFrom,ih,List.length_cons];rw[show i+1+T.length=i+(T.length+1) from oM]
theorem find_ents:∀ (T:List ByteArray) (x:ByteArray) (i:Nat),Instr.findNow .string (.string x) (entsFrom T i) i=some ((idxOf T x).map fun j=>(i+j,.int .i64 ((i+j+1:Nat):Int))):=by
 intro T;induction T with
 |nil=>intro x i;rfl
 |cons y T ih =>
  intro x i
  simp only[entsFrom,Instr.findNow,Instr.sameNow,idxOf]
  by_cases e:y=x
  ·subst e
   have:(y == y)=true:=ba_beq_iff.2 rfl
   rw[this]
   simp
  ·have:(x == y)=false:=by rw[Bool.eq_false_iff];intro h;exact e (ba_beq_iff.1 h).symm
   rw[this]
   simp only[if_neg e,ih]
   cases idxOf T x with
   |none=>rfl
   |some j=>simp;omega
theorem cfind_ents(T:List ByteArray)(x:ByteArray):cfind prog 9 (.string x) (entsFrom T 0)=some ((idxOf T x).map fun j=>(j,.int .i64 ((j+1:Nat):Int))):=by
 unfold cfind
 rw[if_pos (show plain 6 (Value.string x)=true from rfl),underlying9]
 simp only[find_ents,Nat.zero_add]
theorem idx_lt:∀ {T:List ByteArray}{x:ByteArray}{j:Nat},idxOf T x=some j→j<T.length∧T[j]?=some x:=by
 intro T;induction T with
 |nil=>intro x j h;cases h
 |cons y T ih =>
  intro x j h
  unfold idxOf at h
  split at h
  ·rename_i e;cases h;simp[e]
  ·obtain⟨i,hi,rfl⟩:=Option.map_eq_some_iff.1 h
   have:=ih hi
   simpa using this
def ofT(T:List ByteArray)(x:ByteArray):List ByteArray:=match idxOf T x with
 |some _=>T
 |none=>T ++ [x]
def ofN(T:List ByteArray)(x:ByteArray):Int:=match idxOf T x with
 |some j=>((j+1:Nat):Int)
 |none=>((T.length+1:Nat):Int)
theorem infoStr:∃ ie,prog.info? 9=some ie∧ie.size=1∧ie.bytes=16:=by
 obtain⟨ie,h⟩:=Option.isSome_iff_exists.1 is9
 have h1:=ce9
 have h2:prog.bytesOf 9=16:=oK
 rw[cellsOf_info h]at h1
 simp only[Program.bytesOf,h]at h2
 exact⟨ie,h,h1,h2⟩
theorem rowStr(x:ByteArray):crow prog 39 1 #[(0,.string x)]=some (.cells [.string x] 9 true):=oK
section
theorem app_str{s:St M}{sl:Value}{T:List ByteArray}{x:ByteArray}(hlen:T.length≤1099511627776)(hsl:SlC 9 1 s sl (T.map .string) T.length)(hfr:∀ q m c,sl = .slice (some q) m c→q.block<s.next) :
  ∃ s',capp prog #[39,39] #[sl,.slice (some ⟨s.next,0,none⟩) 1 1] (s.new (.cells [.string x] 9 true))=some (.slice (some ⟨s.next+1,0,none⟩) (T.length+1) UNK,s')∧s'.next=s.next+2 ∧
   s'.at' (s.next+1)=some (.cells ((T ++ [x]).map .string) 9 true)∧(∀ b,b<s.next→(∀ q m c,sl = .slice (some q) m c→b≠q.block)→s'.at' b=s.at' b):=by
 obtain⟨ie,hie,h1,h2⟩:=infoStr
 have hcapp:capp prog #[39,39] #[sl,.slice (some ⟨s.next,0,none⟩) 1 1] (s.new (.cells [.string x] 9 true))=capp3 prog 9 ie sl (s.new (.cells [.string x] 9 true)) (cmore ie.size (.slice (some ⟨s.next,0,none⟩) 1 1) (s.new (.cells [.string x] 9 true))):=
  app_eq underlying39 underlying39 hie
 have hv:cmore ie.size (.slice (some ⟨s.next,0,none⟩) 1 1) (s.new (.cells [.string x] 9 true))=some (1,[.string x]):=by
  simp only[more_at,aN,if_true,more2,h1];rfl
 obtain⟨s',h3,h4,h5,h6⟩:=app_row (n:=T.length) (k:=1) hie ze9 (by rw[h1];rfl) oM hcapp oM (by rw[h2];omega) rfl hv (by rw[h1];exact hsl.same fun q m c e=>by rw[aN,if_neg (by have:=hfr q m c e;omega)])
 refine⟨s',by simpa using h3,by simp at h4;omega,by simpa using h5,fun b hb hq=>?_⟩
 rw[h6 b (by simp;omega) hq,aN,if_neg oM]
structure TabAt(lo:Nat)(s:St M)(p:Nat)(T:List ByteArray)(O:Nat→Prop):Prop where
 own:∀ b,O b→lo≤b∧b<s.next
 pin:O p
 bl:∃ m sl,s.at' p=some (.cells [.map (some m),sl] 240 true)∧s.at' m=some (.map (entsFrom T 0) T.length)∧O m∧m≠p∧SlC 9 1 s sl (T.map .string) T.length∧(∀ q n c,sl = .slice (some q) n c→O q.block∧q.block≠p∧q.block≠m)
theorem TabAt.same{lo:Nat}{s s':St M}{p:Nat}{T:List ByteArray}{O:Nat→Prop}(h:TabAt lo s p T O)(hn:s.next≤s'.next)(hs:∀ b,O b→s'.at' b=s.at' b):TabAt lo s' p T O:=by
 obtain⟨h1,h2,m,sl,h3,h4,h5,h6,h7,h8⟩:=h
 exact⟨fun b hb=>⟨(h1 b hb).1,by have:=(h1 b hb).2;omega⟩,h2,m,sl,by rw[hs _ h2];exact h3,by rw[hs _ h5];exact h4,h5,h6,h7.same fun q n c e=>hs _ (h8 q n c e).1,h8⟩
theorem dead_spec{p:Nat}{m:Nat}{sl:Value}(h0:s.at' p=some (.cells [.map (some m),sl] 240 true))(h:R (.bool false) s):QC prog w0 267 #[.pointer (some ⟨p,0,none⟩)] s R:=by
 refine wfun2 hmix ok267 func267 rfl ntmps267 results267 (by simp) ?_
 simp only[↓Zd,Zp,simprocAttr,cld2,underlying238,h0,nf145,nf238,fa240x0,ag238]
 exact h
theorem find_spec{lo p:Nat}{T:List ByteArray}{x:ByteArray}{O:Nat→Prop}(hT:TabAt lo s p T O)(h:R (match idxOf T x with|some j => .tuple #[.int .i64 ((j+1:Nat):Int),.bool true]|none => .tuple #[.int .i64 0,.bool false]) s) :
  QC prog w0 219 #[.pointer (some ⟨p,0,none⟩),.string x] s R:=by
 refine wfun2 hmix ok219 func219 rfl ntmps219 results219 (by simp) ?_
 obtain⟨h1,h2,m,sl,h3,h4,h5,h6,h7,h8⟩:=hT
 simp only[↓Zd,Zp,simprocAttr,co267]
 refine dead_spec h3 ?_
 cases hi:idxOf T x with
 |none =>
  rw[hi]at h
  simp only[↓Zd,Zp,simprocAttr,cld2,CNamesA0,underlying238,underlying265,h3,h4,cfind_ents,hi,ze3,fa240x0,ag238]
  exact h
 |some j =>
  rw[hi]at h
  simp only[↓Zd,Zp,simprocAttr,cld2,CNamesA0,underlying238,underlying265,h3,h4,cfind_ents,hi,ze3,fa240x0,ag238]
  exact h
theorem of_spec{lo p:Nat}{T:List ByteArray}{x:ByteArray}{O:Nat→Prop}(hT:TabAt lo s p T O)(hlo:lo≤s.next)(hlen:T.length≤1099511627776)
  (h:∀ s' O',TabAt lo s' p (ofT T x) O'→s.next≤s'.next→(∀ b,b<s.next→¬ O b→s'.at' b=s.at' b)→(∀ b,O' b→O b∨s.next≤b)→R (.int .i64 (ofN T x)) s') :
  QC prog w0 227 #[.pointer (some ⟨p,0,none⟩),.string x] s R:=by
 refine wfun2 hmix ok227 func227 rfl ntmps227 results227 (by simp) ?_
 have hT0:=hT
 obtain⟨h1,h2,m,sl,h3,h4,h5,h6,h7,h8⟩:=hT
 simp only[↓Zd,Zp,simprocAttr,co267]
 refine dead_spec h3 ?_
 cases hi:idxOf T x with
 |some j =>
  unfold ofT ofN at h
  simp only[hi]at h
  simp only[↓Zd,Zp,simprocAttr,cld2,CNamesA0,underlying238,underlying265,h3,h4,cfind_ents,hi,ze3,fa240x0,ag238]
  exact h s O hT0 (Nat.le_refl _) (fun _ _ _=>rfl) (fun b hb => .inl hb)
 |none =>
  unfold ofT ofN at h
  simp only[hi]at h
  obtain⟨s3,happ,hn3,hat3,hk3⟩:=app_str (x:=x) hlen h7 (fun q n c e=>(h1 _ (h8 q n c e).1).2)
  have hp3:s3.at' p=some (.cells [.map (some m),sl] 240 true):=by rw[hk3 p (h1 p h2).2 (fun q n c e=>(h8 q n c e).2.1.symm)];exact h3
  have hm3:s3.at' m=some (.map (entsFrom T 0) T.length):=by rw[hk3 m (h1 m h5).2 (fun q n c e=>(h8 q n c e).2.2.symm)];exact h4
  have hmp:¬ m=p:=h6
  have hpm:¬ p=m:=fun e=>h6 e.symm
  have hpn:p<s.next:=(h1 p h2).2
  have hmn:m<s.next:=(h1 m h5).2
  simp only[↓Zd,Zp,Zs,simprocAttr,CNamesA0,underlying238,underlying39,underlying265,h3,h4,cfind_ents,hi,ze3,fa240x0,fa240x1,ag238,ag39,sz39,rowStr,happ,hp3,hm3,hmp]
  refine h _ (fun b=>b=p∨b=m∨b=s.next+1) ⟨?_,.inl rfl,m,.slice (some ⟨s.next+1,0,none⟩) (T.length+1) UNK,?_,?_,.inr (.inl rfl),h6,?_,?_⟩ ?_ ?_ ?_
  ·rintro b (rfl|rfl|rfl)
   ·exact⟨(h1 _ h2).1,by simp only[nU];omega⟩
   ·exact⟨(h1 _ h5).1,by simp only[nU];omega⟩
   ·exact⟨oM,by simp only[nU];omega⟩
  ·rw[aP,if_neg hpm,aP,if_pos rfl]
  ·rw[aP,if_pos rfl,ents_app]
   simp
  ·refine .inr ⟨s.next+1,UNK,by simp,.inl rfl,?_,by simp⟩
   rw[aP,if_neg oM,aP,if_neg oM]
   exact hat3
  ·intro q n c e
   cases e
   exact⟨.inr (.inr rfl),by show s.next+1≠p;omega,by show s.next+1≠m;omega⟩
  ·simp only[nU];omega
  ·intro b hb ho
   rw[aP,if_neg (fun e:b=m=>ho (e▸h5)),aP,if_neg (fun e:b=p=>ho (e▸h2))]
   exact hk3 b hb (fun q n c e e2=>ho (e2▸(h8 q n c e).1))
  ·rintro b (rfl|rfl|rfl)
   ·exact .inl h2
   ·exact .inl h5
   ·exact .inr oM
def txtV(T:List ByteArray)(i:Int):Value:=if 1≤i∧i≤T.length then .tuple #[.string (T.getD (i.toNat - 1) ⟨#[]⟩),.bool true] else .tuple #[.string ⟨#[]⟩,.bool false]
theorem text_spec{lo p:Nat}{T:List ByteArray}{O:Nat→Prop}{i:Int}(hi : -9223372036854775808≤i∧i≤9223372036854775807)(hT:TabAt lo s p T O)(h:R (txtV T i) s):QC prog w0 260 #[.pointer (some ⟨p,0,none⟩),.int .i64 i] s R:=by
 refine wfun2 hmix ok260 func260 rfl ntmps260 results260 (by simp) ?_
 obtain⟨h1,h2,m,sl,h3,h4,h5,h6,h7,h8⟩:=hT
 unfold txtV at h
 simp only[↓Zd,Zp,simprocAttr,co267]
 refine dead_spec h3 ?_
 by_cases i1:i<1
 ·rw[if_neg oM]at h
  simp only[↓Zd,Zp,simprocAttr,CNamesA0,i1]
  exact h
 ·rcases h7 with ⟨e1,_,rfl⟩|⟨b,c,rfl,_,h9,_⟩
  ·have i2:0<i:=oM
   rw[if_neg oM]at h
   simp only[↓Zd,Zp,simprocAttr,cld2,CNamesA0,underlying39,h3,fa240x1,ag39,i1,i2]
   exact h
  ·by_cases i2:(T.length:Int)<i
   ·rw[if_neg oM]at h
    simp only[↓Zd,Zp,simprocAttr,cld2,CNamesA0,underlying39,h3,fa240x1,ag39,i1,i2]
    exact h
   ·rw[if_pos oM]at h
    obtain⟨j,rfl⟩:∃ j:Nat,i=((j+1:Nat):Int):=⟨(i - 1).toNat,oM⟩
    have w1:IntKind.i64.wrap (((j+1:Nat):Int) - 1)=(j:Int):=by rw[wrap_i64 oM];omega
    have hj:(0:Int)≤(j:Int)∧(j:Int)<(T.length:Int):=oM
    have hx:(T.map Value.string)[j]?=some (.string (T.getD j ⟨#[]⟩)):=by
     have:j<T.length:=oM
     simp[this]
    simp only[↓Zd,Zp,simprocAttr,cld2,CNamesA0,underlying39,h3,h9,fa240x1,ag39,ag9,sz9,i1,i2,w1,hj,hx]
    simpa using h
end
section
theorem infoU8:∃ ie,prog.info? 5=some ie∧ie.size=1∧ie.bytes=1:=by
 obtain⟨ie,h⟩:=Option.isSome_iff_exists.1 is5
 have h1:=ce5
 have h2:prog.bytesOf 5=1:=oK
 rw[cellsOf_info h]at h1
 simp only[Program.bytesOf,h]at h2
 exact⟨ie,h,h1,h2⟩
theorem zeroU8:czero prog 5=some (.int .u8 0):=oK
theorem app_bytes{s:St M}{sl v:Value}{l new:List UInt8}{t2 e2:TypeId}(ht2:prog.underlying t2=some (.slice e2)∨prog.underlying t2=some .string)(hne:new ≠ [])(hlen:l.length+new.length≤140737488355328)
  (hsl:SlC 5 1 s sl (l.map toV) l.length)(hv:cmore 1 v s=some (new.length,new.map toV)) :
  ∃ s',capp prog #[103,t2] #[sl,v] s=some (.slice (some ⟨s.next,0,none⟩) (l++new).length UNK,s')∧s'.next=s.next+1∧s'.at' s.next=some (.cells ((l++new).map toV) 5 true) ∧
   (∀ b,b≠s.next→(∀ q n c,sl = .slice (some q) n c→b≠q.block)→s'.at' b=s.at' b):=by
 obtain⟨ie,hie,h1,h2⟩:=infoU8
 have hok:(new.map toV).all qC=true:=by simp[toV,Zs]
 have hn0:new.length≠0:=by simpa using hne
 have hcapp:capp prog #[103,t2] #[sl,v] s=capp3 prog 5 ie sl s (cmore ie.size v s):=by
  rcases ht2 with ht2|ht2
  ·exact app_eq underlying103 ht2 hie
  ·exact app_eq_str underlying103 ht2 hie
 have:=app_row (n:=l.length) (k:=new.length) hie zeroU8 (by rw[h1];rfl) oM hcapp hn0 (by rw[h2];omega) hok (by rw[h1];exact hv) (by rw[h1];exact hsl)
 simpa only[List.length_append,List.map_append] using this
theorem rowB(v:Int):crow prog 103 1 #[(0,.int .u8 v)]=some (.cells [.int .u8 v] 5 true):=oK
end
theorem upB:upOk prog 105 105=true:=oK
theorem upU8:upOk prog 5 5=true:=oK
theorem anyB:((prog.info? 105).any fun i=>i.size != 0)=true:=oK
theorem extNoEscape(v:Value):cextern prog 198 #[v]=some v:=oK
section
theorem copyCheck_spec{p:Nat}{ad sl:Value}(hp:s.at' p=some (.cells [ad,sl] 105 true))(had:ad = .pointer none∨ad = .pointer (some ⟨p,0,none⟩))
  (h:∀ s',s'.next=s.next→(∀ b,s'.at' b=if b=p then some (.cells [.pointer (some ⟨p,0,none⟩),sl] 105 true) else s.at' b)→R (.tuple #[]) s'):QC prog w0 125 #[.pointer (some ⟨p,0,none⟩)] s R:=by
 refine wfun2 hmix ok125 func125 rfl ntmps125 results125 (by simp) ?_
 rcases had with rfl|rfl
 ·simp only[↓Zd,Zp,Zs,simprocAttr,underlying102,underlying259,fa105x0,hp,ag102,sz102,nt102,↓o_cp,cup_to anyB,cup_of upB,ce105,no198,extNoEscape,Nat.zero_mod,Nat.zero_lt_succ,Nat.le_refl]
  refine h _ rfl fun b=>?_
  rw[aP]
  try rfl
 ·simp only[↓Zd,Zp,Zr,simprocAttr,cld2,underlying102,underlying4,fa105x0,hp,ag102,nf102,cpp_ne sz105]
  refine h _ rfl fun b=>?_
  split
  ·rename_i e;rw[e];exact hp
  ·rfl
structure BAt(s0 s:St M)(p:Nat)(l:List UInt8):Prop where
 le:s0.le s
 lo:s0.next≤p
 hi:p<s.next
 bl:∃ ad sl,s.at' p=some (.cells [ad,sl] 105 true)∧(ad = .pointer none∨ad = .pointer (some ⟨p,0,none⟩)) ∧
  ((l=[]∧sl = .slice none 0 0)∨(l ≠ []∧∃ b,sl = .slice (some ⟨b,0,none⟩) l.length UNK∧s.at' b=some (.cells (l.map toV) 5 true)∧b≠p∧s0.next≤b∧b<s.next))
theorem BAt.more{s0 s s1 s3:St M}{p q:Nat}{l new:List UInt8}{sl:Value}(hlo:s0.next≤p)(hle:s0.le s3)(hp3:s3.at' p=some (.cells [.pointer (some ⟨p,0,none⟩),sl] 105 true))(hne:new ≠ [])(hq:s3.at' q=some (.cells ((l++new).map toV) 5 true))(hqp:q≠p)(hq0:s0.next≤q)(hq1:q<s3.next)(hp1:p<s3.next) :
  BAt s0 (s3.put p (.cells [.pointer (some ⟨p,0,none⟩),.slice (some ⟨q,0,none⟩) (l++new).length UNK] 105 true)) p (l++new) where
 le:=lP hle hlo
 lo:=hlo
 hi:=hp1
 bl:=⟨_,_,by rw[aP,if_pos rfl],.inr rfl,.inr ⟨by simp[hne],q,rfl,by rw[aP,if_neg hqp];exact hq,hqp,hq0,hq1⟩⟩
theorem writeByte_spec{s0:St M}{p:Nat}{l:List UInt8}{c:UInt8}(hB:BAt s0 s p l)(hlen:l.length≤1099511627776)(h:∀ s',BAt s0 s' p (l ++ [c])→R .nilIface s'):QC prog w0 131 #[.pointer (some ⟨p,0,none⟩),.int .u8 c.toNat] s R:=by
 refine wfun2 hmix ok131 func131 rfl ntmps131 results131 (by simp) ?_
 obtain⟨hle,hlo,hhi,ad,sl,hp,had,hsl⟩:=hB
 simp only[↓Zd,Zp,simprocAttr,co125]
 refine copyCheck_spec hp had fun s1 hn1 hat1=>?_
 have hp1:s1.at' p=some (.cells [.pointer (some ⟨p,0,none⟩),sl] 105 true):=by rw[hat1,if_pos rfl]
 have hsl1:SlC 5 1 (s1.new (.cells [.int .u8 c.toNat] 5 true)) sl (l.map toV) l.length:=by
  rcases hsl with ⟨h1,h2⟩|⟨h1,b,h2,h3,h4,h5,h6⟩
  ·exact .inl ⟨by simp[h1],by simp[h1],h2⟩
  ·exact .inr ⟨b,_,h2,.inl rfl,by rw[aN,if_neg oM,hat1,if_neg h4];exact h3,by simp⟩
 obtain⟨s3,hcapp,hn3,hq3,hat3⟩:=app_bytes (s:=s1.new (.cells [.int .u8 c.toNat] 5 true)) (sl:=sl) (v := .slice (some ⟨s1.next,0,none⟩) 1 1) (l:=l) (new:=[c]) (t2:=103) (.inl underlying103) (by simp) (by simp;omega) hsl1
  (by simp only[more_at,aN,if_true,more2];rw[cut_all (by simp)];rfl)
 simp only[nN]at hn3 hq3 hat3 hcapp
 have hp3:s3.at' p=some (.cells [.pointer (some ⟨p,0,none⟩),sl] 105 true):=by
  rw[hat3 p oM (fun q n c' e=>by
   rcases hsl with ⟨_,h1⟩|⟨_,b,h2,_,h4,_⟩
   ·rw[h1]at e;cases e
   ·rw[h2]at e;cases e;exact fun e=>h4 e.symm),aN,if_neg oM]
  exact hp1
 have hle3:s0.le s3:=by
  refine⟨by have:=hle.1;omega,fun b hb=>?_⟩
  rw[hat3 b (by have:=hle.1;omega) (fun q n c' e=>by
   rcases hsl with ⟨_,h1⟩|⟨_,b',h2,_,_,h5,_⟩
   ·rw[h1]at e;cases e
   ·rw[h2]at e;cases e;show b≠b';omega),aN,if_neg (by have:=hle.1;omega),hat1,if_neg oM]
  exact hle.2 b hb
 simp only[↓Zd,Zp,Zs,simprocAttr,underlying0,underlying103,fa105x1,hp1,ag103,sz103,rowB,hcapp,hp3]
 have:=BAt.more (s:=s) (s1:=s1) hlo hle3 hp3 (new:=[c]) (by simp) hq3 (by have:=hhi;omega) (by have:=hle.1;omega) oM oM
 exact h _ this
theorem writeString_spec{s0:St M}{p:Nat}{l:List UInt8}{x:ByteArray}(hB:BAt s0 s p l)(hlen:l.length≤1099511627776)(hx:x.data.toList ≠ [])(hlen2:x.size≤1099511627776)(h:∀ s',BAt s0 s' p (l++x.data.toList)→R (.tuple #[.int .i64 x.size,.nilIface]) s'):QC prog w0 53 #[.pointer (some ⟨p,0,none⟩),.string x] s R:=by
 refine wfun2 hmix ok53 func53 rfl ntmps53 results53 (by simp) ?_
 obtain⟨hle,hlo,hhi,ad,sl,hp,had,hsl⟩:=hB
 simp only[↓Zd,Zp,simprocAttr,co125]
 refine copyCheck_spec hp had fun s1 hn1 hat1=>?_
 have hp1:s1.at' p=some (.cells [.pointer (some ⟨p,0,none⟩),sl] 105 true):=by rw[hat1,if_pos rfl]
 have hsl1:SlC 5 1 s1 sl (l.map toV) l.length:=by
  rcases hsl with ⟨h1,h2⟩|⟨h1,b,h2,h3,h4,h5,h6⟩
  ·exact .inl ⟨by simp[h1],by simp[h1],h2⟩
  ·exact .inr ⟨b,_,h2,.inl rfl,by rw[hat1,if_neg h4];exact h3,by simp⟩
 obtain⟨s3,hcapp,hn3,hq3,hat3⟩:=app_bytes (s:=s1) (sl:=sl) (v := .string x) (l:=l) (new:=x.data.toList) (t2:=9) (e2:=0) (.inr underlying9) hx (by simp;omega) hsl1 (by simp[cmore];intro a _;rfl)
 have hp3:s3.at' p=some (.cells [.pointer (some ⟨p,0,none⟩),sl] 105 true):=by
  rw[hat3 p oM (fun q n c' e=>by
   rcases hsl with ⟨_,h1⟩|⟨_,b,h2,_,h4,_⟩
   ·rw[h1]at e;cases e
   ·rw[h2]at e;cases e;exact fun e=>h4 e.symm)]
  exact hp1
 have hle3:s0.le s3:=by
  refine⟨by have:=hle.1;omega,fun b hb=>?_⟩
  rw[hat3 b (by have:=hle.1;omega) (fun q n c' e=>by
   rcases hsl with ⟨_,h1⟩|⟨_,b',h2,_,_,h5,_⟩
   ·rw[h1]at e;cases e
   ·rw[h2]at e;cases e;show b≠b';omega),hat1,if_neg oM]
  exact hle.2 b hb
 simp only[↓Zd,Zp,Zs,simprocAttr,underlying9,underlying0,underlying103,fa105x1,hp1,ag103,sz103,hcapp,hp3]
 have:=BAt.more (s:=s) (s1:=s1) hlo hle3 hp3 (new:=x.data.toList) hx hq3 (by have:=hhi;omega) (by have:=hle.1;omega) oM oM
 exact h _ this
theorem string_spec{s0:St M}{p:Nat}{l:List UInt8}(hB:BAt s0 s p l)(hlen:l.length≤1099511627776)(h:∀ s',s0.le s'→R (.string ⟨l.toArray⟩) s'):QC prog w0 59 #[.pointer (some ⟨p,0,none⟩)] s R:=by
 refine wfun2 hmix ok59 func59 rfl ntmps59 results59 (by simp) ?_
 obtain⟨hle,hlo,hhi,ad,sl,hp,had,hsl⟩:=hB
 rcases hsl with ⟨rfl,rfl⟩|⟨hl,b,rfl,hb,hbp,hb0,hb1⟩
 ·simp only[↓Zd,Zp,simprocAttr,cld2,underlying103,underlying175,fa105x1,hp,ag103,ord59]
  exact h _ hle
 ·have hn:l.length≠0:=by simpa using hl
  have hus:=cus_hit (P:=prog) (s:=s) (u:=5) (e:=5) (a:=⟨b,0,none⟩) (k := .i64) (n:=l.length) (vs:=l.map toV) (l:=l) hn oM upU8 ce5 (cut_all (by simp))
  have hbp':¬ p=b:=fun e=>hbp e.symm
  simp only[↓Zd,Zp,Zr,simprocAttr,cld2,underlying103,underlying175,fa105x1,hp,hb,hn,hus,ag103,ord59,UNK]
  exact h _ (lP hle hb0)
end
def plainB(c:UInt8):Bool:=decide (32≤(c.toNat:Int)) && (decide ((c.toNat:Int)≤126) && (!decide ((c.toNat:Int)=34) && !decide ((c.toNat:Int)=92)))
def hexS:ByteArray:=⟨#[48,49,50,51,52,53,54,55,56,57,97,98,99,100,101,102]⟩
def hexB(n:Nat):UInt8:=hexS.data.getD n 0
def escB(c:UInt8):List UInt8:=if plainB c=true then [c] else if (c.toNat:Int)=34∨(c.toNat:Int)=92 then [92,c] else [92,120,hexB (c.toNat / 16),hexB (c.toNat % 16)]
def quoteL(l:List UInt8):List UInt8:=34::(l.flatMap escB ++ [34])
def quoteS(x:ByteArray):ByteArray:=⟨(quoteL x.data.toList).toArray⟩
theorem byte_at'{x:ByteArray}{i:Nat}(h:i<x.size):∃ b,x[i]?=some b∧x.data.toList.take (i+1)=x.data.toList.take i ++ [b]:=by
 have h':i<x.data.toList.length:=by simpa using h
 refine⟨x.data.toList[i],?_,List.take_succ_eq_append_getElem h'⟩
 simp only[Array.getElem_toList]
 rw[getElem?_pos x i h]
 rfl
theorem byte_drop{x:ByteArray}{i:Nat}(h:i<x.size):∃ b,x[i]?=some b∧x.data.toList.drop i=b::x.data.toList.drop (i+1):=by
 have h':i<x.data.toList.length:=by simpa using h
 refine⟨x.data.toList[i],?_,List.drop_eq_getElem_cons h'⟩
 simp only[Array.getElem_toList]
 rw[getElem?_pos x i h]
 rfl
theorem hex_at{n:Nat}(h:n<16):hexS[n]?=some (hexB n):=by
 have:∀ n:Fin 16,hexS[n.val]?=some (hexB n.val):=by decide
 exact this ⟨n,h⟩
theorem escB_len(c:UInt8):(escB c).length≤4:=by
 unfold escB;split<;>try split
 all_goals simp
theorem flat_len:∀ l:List UInt8,(l.flatMap escB).length≤4*l.length:=by
 intro l
 induction l with
 |nil=>simp
 |cons c l ih=>have:=escB_len c;simp only[List.flatMap_cons,List.length_append,List.length_cons];omega
theorem and15(c:UInt8){x y:Operand}:cbin prog .and 5 x y (.int .u8 c.toNat) (.int .u8 15)=some (.int .u8 ((c.toNat % 16:Nat):Int)):=by
 have:∀ n:Fin 256,(match pure6 prog (Go.binOp .and 5 (.int .u8 (n.val:Int)) (.int .u8 15)) with|some (.int .u8 m)=>m == ((n.val % 16:Nat):Int)|_=>false)=true:=by decide +kernel
 have h:=this ⟨c.toNat,c.toNat_lt⟩
 simp only[cbin,if_true]
 split at h
 ·rename_i m hm
  rw[show ((⟨c.toNat,c.toNat_lt⟩:Fin 256).val)=c.toNat from rfl]at hm h
  rw[hm,eq_of_beq h]
 ·cases h
def CQuote0:=(aI (aI (aI @underlying3 @underlying4) (aI @underlying9 @underlying5)) (aI (aI @underlying38 @underlying0) (aI @be4 (aI @bn4 @underlying107))))
section
theorem plain_spec{c:UInt8}(h:R (.bool (plainB c)) s):QC prog w0 132 #[.int .u8 c.toNat] s R:=by
 refine wfun2 hmix ok132 func132 rfl ntmps132 results132 (by simp) ?_
 unfold plainB at h
 by_cases h1:32≤(c.toNat:Int)<;>by_cases h2:(c.toNat:Int)≤126<;>by_cases h3:(c.toNat:Int)=34<;>by_cases h4:(c.toNat:Int)=92
 all_goals
  simp only[h1,h2,h3,h4,decide_true,decide_false,Bool.false_and,Bool.not_true,Bool.not_false,Bool.and_true,Bool.and_false]at h
  simp only[↓Zd,Zp,simprocAttr,h1,h2,h3,h4]
  exact h
def quoteI(x:ByteArray)(s:St M)(p:Nat)(k:Nat)(env:Env)(s':St M):Prop:=∃ i:Nat,k=x.size - i∧i≤x.size∧env 9 = .int .i64 i∧BAt s s' p (34::(x.data.toList.take i).flatMap escB)
theorem quote_spec{x:ByteArray}(hx:x.size≤1000000)(h:∀ s',s.le s'→R (.string (quoteS x)) s'):QC prog w0 57 #[.string x] s R:=by
 refine wfun2 hmix ok57 func57 rfl ntmps57 results57 (by simp) ?_
 simp only[↓Zd,Zp,Zs,simprocAttr,ze105,co131]
 have hB0:BAt s (s.new (.cells [.pointer none,.slice none 0 0] 105 true)) s.next []:=⟨lN (lR s),Nat.le_refl _,by simp,_,_,by simp,.inl rfl,.inl ⟨rfl,rfl⟩⟩
 refine writeByte_spec (c:=34) hB0 (by simp) fun s1 hB1=>?_
 simp only[↓Zd,Zp,simprocAttr,CQuote0]
 refine wloop_fix hmix [10,11,4,12,13,14,5,25,26,24,27,28,30,31,32,33,34,35,29,36,37,38,15,16,17,18,19,20,21,22,23,39,9] (quoteI x s s.next) (x.size - 0) ?_ ?_
 ·exact⟨0,rfl,oM,rfl,by simpa using hB1⟩
 ·rintro k env s' hF ⟨i,rfl,hi,e9,hB⟩
  have e0:env 0 = .string x:=by rw[hF 0 rfl];rfl
  have e3:env 3 = .pointer (some ⟨s.next,0,none⟩):=by rw[hF 3 rfl];rfl
  have e8:env 8 = .int .i64 x.size:=by rw[hF 8 rfl];rfl
  have hlen:(34::(x.data.toList.take i).flatMap escB).length≤4000001:=by
   have h1:=flat_len (x.data.toList.take i)
   have h2:(x.data.toList.take i).length≤i:=List.length_take_le _ _
   simp only[List.length_cons];omega
  by_cases hlt:i<x.size
  ·obtain⟨c,hc,ht⟩:=byte_at' hlt
   have hlt':(i:Int)<(x.size:Int):=oM
   have h0:(0:Int)≤(i:Int):=oM
   have w7:IntKind.i64.wrap ((i:Int)+1)=((i+1:Nat):Int):=by rw[wrap_i64 oM];omega
   have hnext:∀ {env':Env}{s2:St M},env' 9 = .int .i64 ((i+1:Nat):Int)→BAt s s2 s.next ((34::(x.data.toList.take i).flatMap escB)++escB c) →
     ∃ m,m<x.size - i∧quoteI x s s.next m env' s2:=by
    intro env' s2 h9 hB2
    refine⟨x.size - (i+1),oM,i+1,rfl,oM,h9,?_⟩
    rw[ht,List.flatMap_append]
    simpa using hB2
   simp only[↓Zd,Zp,simprocAttr,CQuote0,e0,e8,e9,hlt',h0,hc,co132]
   refine plain_spec ?_
   by_cases hp:plainB c=true
   ·have he:escB c=[c]:=by simp[escB,hp]
    rw[hp]
    simp only[↓Zd,Zp,simprocAttr,CQuote0,e3,co131]
    refine writeByte_spec hB oM fun s2 hB2=>?_
    simp only[↓Zd,Zp,simprocAttr,CQuote0,e9,w7]
    refine⟨?_,hnext rfl (by rw[he];exact hB2)⟩
    repeat (first|exact hF|refine Fix.upd (by decide) ?_)
   ·have hp':plainB c=false:=by simpa using hp
    rw[hp']
    by_cases hq:(c.toNat:Int)=34∨(c.toNat:Int)=92
    ·have he:escB c=[92,c]:=by simp only[escB,hp',Bool.false_eq_true,if_false,if_pos hq]
     have hq':decide ((c.toNat:Int)=34)=true∨(decide ((c.toNat:Int)=34)=false∧decide ((c.toNat:Int)=92)=true):=by
      by_cases h1:(c.toNat:Int)=34
      ·exact .inl (by simpa using h1)
      ·exact .inr ⟨by simpa using h1,by rcases hq with h2|h2;exact absurd h2 h1;simpa using h2⟩
     rcases hq' with h1|⟨h1,h2⟩
     all_goals
      simp only[↓Zd,Zp,simprocAttr,CQuote0,e3,co131,h1]
      try simp only[↓Zd,Zp,simprocAttr,e3,co131,h2]
      refine writeByte_spec (c:=92) hB oM fun s2 hB2=>?_
      simp only[↓Zd,Zp,simprocAttr,CQuote0,e3,co131]
      refine writeByte_spec hB2 (by simp only[List.length_append,List.length_cons,List.length_nil]at hlen ⊢;omega) fun s3 hB3=>?_
      simp only[↓Zd,Zp,simprocAttr,CQuote0,e9,w7]
      refine⟨?_,hnext rfl (by rw[he];simpa using hB3)⟩
      repeat (first|exact hF|refine Fix.upd (by decide) ?_)
    ·have h1:¬ (c.toNat:Int)=34:=fun e=>hq (.inl e)
     have h2:¬ (c.toNat:Int)=92:=fun e=>hq (.inr e)
     have he:escB c=[92,120,hexB (c.toNat / 16),hexB (c.toNat % 16)]:=by simp only[escB,hp',Bool.false_eq_true,if_false,if_neg hq]
     have hc255:c.toNat≤255:=by have:=c.toNat_lt;omega
     have w8:(c.toNat:Int).fdiv 16=((c.toNat / 16:Nat):Int):=by rw[Int.fdiv_eq_ediv_of_nonneg _ oM];omega
     have hx1:=hex_at (n:=c.toNat / 16) oM
     have hx2:=hex_at (n:=c.toNat % 16) oM
     have h3:(0:Int)≤((c.toNat / 16:Nat):Int):=oM
     have h4:(0:Int)≤((c.toNat % 16:Nat):Int):=oM
     unfold hexS at hx1 hx2
     simp only[↓Zd,Zp,simprocAttr,CQuote0,e3,co53,h1,h2]
     refine writeString_spec (x:=⟨#[92,120]⟩) hB oM (by simp) (by decide) fun s2 hB2=>?_
     simp only[↓Zd,Zp,simprocAttr,CQuote0,underlying108,e3,co131,w8,hx1,h3,IntKind.bits,Nat.reduceLeDiff,Nat.min_eq_left,Int.reducePow]
     refine writeByte_spec hB2 (by simp only[List.length_append,List.length_cons,List.length_nil]at hlen ⊢;omega) fun s3 hB3=>?_
     simp only[↓Zd,Zp,simprocAttr,CQuote0,e3,co131,↓o_and,↓wb_and,and15,hx2,h4]
     refine writeByte_spec hB3 (by simp only[List.length_append,List.length_cons,List.length_nil]at hlen ⊢;omega) fun s4 hB4=>?_
     simp only[↓Zd,Zp,simprocAttr,CQuote0,e9,w7]
     refine⟨?_,hnext rfl (by rw[he];simpa using hB4)⟩
     repeat (first|exact hF|refine Fix.upd (by decide) ?_)
  ·have hlt':¬ (i:Int)<(x.size:Int):=oM
   have htk:x.data.toList.take i=x.data.toList:=List.take_of_length_le (by simp;omega)
   rw[htk]at hB hlen
   simp only[↓Zd,Zp,simprocAttr,e3,e8,e9,hlt',co131]
   refine writeByte_spec (c:=34) hB oM fun s2 hB2=>?_
   simp only[↓Zd,Zp,simprocAttr,CQuote0,e3,co59]
   refine string_spec hB2 (by simp only[List.length_append,List.length_cons,List.length_nil]at hlen ⊢;omega) fun s3 hs3=>?_
   simp only[↓Zd,Zp,simprocAttr,underlying9]
   have:=h s3 hs3
   unfold quoteS quoteL at this
   simpa using this
end
section
theorem digits_spec {n : Int} (hn : -9223372036854775808 ≤ n ∧ n ≤ 9223372036854775807) (h : ∀ s', s.le s' → R (.string (digS n)) s') : QC prog w0 58 #[.int .i64 n] s R := by
  refine wfun2 hmix ok58 func58 rfl ntmps58 results58 (by simp) ?_
  by_cases hneg : n < 0
  all_goals
    simp only [↓Zd, (Zp), if_true, if_false, Nat.reduceEqDiff, reduceCtorEq, Zs, underlying3, underlying174, hneg, ze173]
    refine wloop_fix hmix [12, 13, 4, 14, 15, 16, 17, 18, 19, 20, 21, 5, 22, 23] (fun k env s' => ∃ (at' left : Nat) (vs : List Value) (l : List UInt8), k = at' ∧ at' ≤ 20 ∧ env 4 = .int .i64 at' ∧ env 5 = .int .u64 left ∧
      s.le s' ∧ s'.at' s.next = some (.cells vs 173 true) ∧ vs.length = 20 ∧ vs.drop at' = l.map toV ∧ decL n.natAbs = decL left ++ l ∧ (1 ≤ left ∨ at' = 20) ∧ left < 10 ^ (at' - if n < 0 then 1 else 0) ∧ left ≤ 9223372036854775808) 20 ?_ ?_
    · refine ⟨20, n.natAbs, _, [], rfl, oM, ?_, ?_, ?_, by simp only [aN, if_true]; rfl, ?_, ?_, ?_, ?_, ?_, oM⟩
      · rfl
      · show Value.int IntKind.u64 _ = _
        congr 1
        first
          | (rw [wrap_u64_negneg oM]; omega)
          | (rw [wrap_u64 oM]; omega)
      · exact lN (lR s)
      · rfl
      · rfl
      · simp
      · simp
      · split <;> simp <;> omega
    · rintro k env s' hF ⟨at', left, vs, l, rfl, h20, e4, e5, hs, hb, hl, hd, hN, h1, hp, hl64⟩
      have e3 : env 3 = .pointer (some ⟨s.next, 0, none⟩) := by rw [hF 3 rfl]; rfl
      have e0 : env 0 = .int .i64 n := by rw [hF 0 rfl]; rfl
      obtain ⟨j, rfl⟩ : ∃ j, k = j + 1 := by
        cases k with
        | zero =>
          have : (0 - if n < 0 then 1 else 0) = 0 := oM
          rw [this] at hp
          omega
        | succ j => exact ⟨j, rfl⟩
      have w1 : IntKind.i64.wrap (((j + 1 : Nat) : Int) - 1) = (j : Int) := by rw [wrap_i64 oM]; omega
      have w2 : (left : Int).tmod 10 = ((left % 10 : Nat) : Int) := by rw [Int.tmod_eq_emod_of_nonneg oM]; omega
      have w3 : IntKind.u8.wrap ((left % 10 : Nat) : Int) = ((left % 10 : Nat) : Int) := wrap_u8 oM
      have w4 : IntKind.u8.wrap (48 + ((left % 10 : Nat) : Int)) = ((48 + left % 10 : Nat) : Int) := by rw [wrap_u8 oM]; omega
      have w5 : (left : Int).tdiv 10 = ((left / 10 : Nat) : Int) := by rw [Int.tdiv_eq_ediv_of_nonneg oM]; omega
      have w6 : IntKind.u64.wrap ((left / 10 : Nat) : Int) = ((left / 10 : Nat) : Int) := wrap_u64 oM
      have hj : (0 : Int) ≤ (j : Int) ∧ (j : Int) < ((20 : Nat) : Int) := oM
      have hj' : j + 1 ≤ vs.length := oM
      simp only [↓Zd, (Zp), if_true, if_false, ne_eq, Nat.reduceEqDiff, Int.reduceEq, Zs, underlying174, underlying5, underlying173, e3, e4, e5, w1, w2, w3, w4, w5, w6, hb, sz5, hj, hj']
      refine c2_split (fun hz => ?_) (fun hz => ?_)
      · have hz' : left < 10 := by simp at hz; omega
        rw [decL_lt hz'] at hN
        have hvs : (vs.set j (.int .u8 ((48 + left % 10 : Nat) : Int))).drop j = (UInt8.ofNat (48 + left) :: l).map toV := by
          rw [drop_set_self oM, hd, List.map_cons, toV_ofNat oM, Nat.mod_eq_of_lt hz']
        simp only [List.cons_append, List.nil_append] at hN
        have hr : ∀ (i : Nat), i < 20 → cslice prog 173 (.pointer (some ⟨s.next, 0, none⟩)) (some (.int .i64 (i : Int))) (some (.int .i64 20)) (some (.int .i64 20)) = some (.slice (some ⟨s.next, i, none⟩) (20 - i) (20 - i)) := by
          intro i hi
          have := sl_arr3 (k1 := .i64) (k2 := .i64) (k3 := .i64) (a := ⟨s.next, 0, none⟩) (l := i) (h := 20) (m := 20) underlying173 sz5 oM oM oM (by simp [UNK])
          rw [if_neg oM, add_mk, Nat.mul_one, Nat.zero_add] at this
          exact this
        rcases (show n < 0 ∨ 0 ≤ n by omega) with hlt | hge
        · first
          | exact absurd hlt hneg
          | (have hj1 : 1 ≤ j := by
               rcases Nat.eq_zero_or_pos j with h0 | h0
               · subst h0; simp only [hneg, if_true] at hp; omega
               · exact h0
             obtain ⟨i, rfl⟩ : ∃ i, j = i + 1 := ⟨j - 1, oM⟩
             have w7 : IntKind.i64.wrap (((i + 1 : Nat) : Int) - 1) = (i : Int) := by rw [wrap_i64 oM]; omega
             have hi : (0 : Int) ≤ (i : Int) ∧ (i : Int) < ((20 : Nat) : Int) := oM
             have hi' : i + 1 ≤ (vs.set (i + 1) (.int .u8 ((48 + left % 10 : Nat) : Int))).length := by simp; omega
             have hsl := hr i oM
             have hbs := cbs2_drop (e := 173) (w := true) (vs := (vs.set (i + 1) (.int .u8 ((48 + left % 10 : Nat) : Int))).set i (.int .u8 45)) (j := i) (N := 20) (l := 45 :: UInt8.ofNat (48 + left) :: l) (by simp [hl]) oM (by
               rw [drop_set_self (by simp; omega), hvs]; rfl)
             simp only [↓Zd, (Zp), if_true, if_false, Nat.reduceEqDiff, reduceCtorEq, Nat.reduceAdd, Zs, underlying9, underlying173, hneg, e0, e3, w7, hb, sz5, hi, hi', hsl, hbs, ↓o_bs underlying103 underlying9 underlying5]
             have e : digS n = ⟨(45 :: UInt8.ofNat (48 + left) :: l).toArray⟩ := by simp [digS, digL, hneg, hN]
             rw [← e]
             exact h _ (lP (lP hs (Nat.le_refl _)) (Nat.le_refl _)))
        · first
          | exact absurd hneg (Int.not_lt.2 hge)
          | (have hsl := hr j oM
             have hbs := cbs2_drop (e := 173) (w := true) (vs := vs.set j (.int .u8 ((48 + left % 10 : Nat) : Int))) (j := j) (N := 20) (l := UInt8.ofNat (48 + left) :: l) (by simp [hl]) oM hvs
             simp only [↓Zd, (Zp), if_true, if_false, Nat.reduceEqDiff, reduceCtorEq, underlying9, hneg, e0, e3, hb, hsl, hbs, ↓o_bs underlying103 underlying9 underlying5]
             have e : digS n = ⟨(UInt8.ofNat (48 + left) :: l).toArray⟩ := by simp [digS, digL, hneg, hN]
             rw [← e]
             exact h _ (lP hs (Nat.le_refl _)))
      · have hz' : 10 ≤ left := by simp at hz; omega
        simp only [↓Zd, (Zp), if_true, if_false, Nat.reduceEqDiff]
        refine ⟨?_, j, oM, j, left / 10, _, UInt8.ofNat (48 + left % 10) :: l, rfl, oM, rfl, rfl, lP hs (Nat.le_refl _), rfl, ?_, ?_, ?_, ?_, ?_, ?_⟩
        · repeat (first | exact hF | refine Fix.upd (by decide) ?_)
        · simp [hl]
        · rw [drop_set_self oM, hd, List.map_cons, toV_ofNat oM]
        · rw [hN, decL_ge hz', List.append_assoc]; rfl
        · left; omega
        · rw [Nat.div_lt_iff_lt_mul oM]
          refine Nat.lt_of_lt_of_le hp ?_
          rw [← Nat.pow_succ]
          exact Nat.pow_le_pow_right oM oM
        · omega
end
section
theorem rowU8(v:Int):crow prog 103 1 #[(0,.int .u8 v)]=some (.cells [.int .u8 v] 5 true):=oK
theorem rdigits_spec{n:Nat}(hn:n≤9223372036854775807)(h:∀ s',s.le s'→R (.string ⟨(decL n).toArray⟩) s'):QC prog w0 279 #[.int .i64 n] s R:=by
 refine wfun2 hmix ok279 func279 rfl ntmps279 results279 (by simp) ?_
 simp only[↓Zd,Zp,simprocAttr]
 refine wloop_fix hmix [5,6,7,8,9,10,11,12,13,14,15,16,17,18,19,20,21,0,2,3,4] (fun k env s'=>∃ (i m:Nat) (l:List UInt8),k=20 - i∧i≤19∧env 4 = .int .i64 i∧env 0 = .int .i64 m∧env 3 = .string ⟨l.toArray⟩ ∧
   s.le s'∧l.length=i∧decL n=decL m++l∧(1≤m∨i=0)∧m<10 ^ (19 - i)∧m≤9223372036854775807) 20 ?_ ?_
 ·exact⟨0,n,[],rfl,oM,rfl,rfl,rfl,lR s,rfl,by simp,oM,by simp;omega,hn⟩
 ·rintro k env s' hF ⟨i,m,l,rfl,hi,e4,e0,e3,hs,hl,hN,h1,hp,hm⟩
  have hi':i<19:=by
   rcases Nat.lt_or_ge i 19 with h'|h'
   ·exact h'
   ·rw[show 19 - i=0 from oM]at hp;omega
  have h20:((i:Nat):Int)<20:=oM
  have w2:(m:Int).tmod 10=((m % 10:Nat):Int):=by rw[Int.tmod_eq_emod_of_nonneg oM];omega
  have w4:IntKind.i64.wrap (48+((m % 10:Nat):Int))=((48+m % 10:Nat):Int):=by rw[wrap_i64 oM];omega
  have w3:IntKind.u8.wrap ((48+m % 10:Nat):Int)=((48+m % 10:Nat):Int):=wrap_u8 oM
  have w5:(m:Int).tdiv 10=((m / 10:Nat):Int):=by rw[Int.tdiv_eq_ediv_of_nonneg oM];omega
  have w6:IntKind.i64.wrap ((m / 10:Nat):Int)=((m / 10:Nat):Int):=wrap_i64 oM
  have w7:IntKind.i64.wrap ((i:Int)+1)=((i+1:Nat):Int):=by rw[wrap_i64 oM];omega
  have hbs:=cbs2_all (e:=5) (w:=true) (vs:=[.int .u8 ((48+m % 10:Nat):Int)]) (n:=1) (l:=[UInt8.ofNat (48+m % 10)]) rfl (by rw[List.map_cons,toV_ofNat oM];rfl)
  have hba:(⟨[UInt8.ofNat (48+m % 10)].toArray⟩:ByteArray)++⟨l.toArray⟩=⟨(UInt8.ofNat (48+m % 10)::l).toArray⟩:=ba_append [_] l
  have hsz:(⟨[UInt8.ofNat (48+m % 10)].toArray⟩:ByteArray).size+(⟨l.toArray⟩:ByteArray).size≤9223372036854775807:=by rw[ba_size,ba_size];simp;omega
  simp only[↓Zd,Zp,Zr,simprocAttr,underlying3,underlying9,underlying5,e0,e3,e4,h20,w2,w3,w4,w5,w6,rowU8,hbs,hba,hsz,↓o_bs underlying103 underlying9 underlying5]
  refine c2_split (fun hz=>?_) (fun hz=>?_)
  ·have hz':m<10:=by simp at hz;omega
   simp only[↓Zd,Zp,simprocAttr]
   rw[decL_lt hz']at hN
   rw[Nat.mod_eq_of_lt hz',show UInt8.ofNat (48+m)::l=decL n by rw[hN];rfl]
   exact h _ (lN hs)
  ·have hz':10≤m:=by simp at hz;omega
   simp only[↓Zd,Zp,simprocAttr,w7,e4]
   refine⟨?_,20 - (i+1),oM,i+1,m / 10,UInt8.ofNat (48+m % 10)::l,rfl,oM,rfl,rfl,rfl,lN hs,by simp[hl],?_,?_,?_,oM⟩
   ·repeat (first|exact hF|refine Fix.upd (by decide) ?_)
   ·rw[hN,decL_ge hz',List.append_assoc];rfl
   ·left;omega
   ·rw[Nat.div_lt_iff_lt_mul oM,← Nat.pow_succ,show (19 - (i+1)).succ=19 - i from oM]
    exact hp
theorem rDigits_spec{n:Int}(hn : -9223372036854775808≤n∧n≤9223372036854775807)(h:∀ s',s.le s'→R (.string (digS n)) s'):QC prog w0 255 #[.int .i64 n] s R:=by
 refine wfun2 hmix ok255 func255 rfl ntmps255 results255 (by simp) ?_
 by_cases hneg:n<0
 ·have h0:¬ 0≤n:=oM
  obtain⟨m,hm⟩:∃ m:Nat,n = -(m:Int):=⟨n.natAbs,oM⟩
  have w1:n.tmod 10 = -((m % 10:Nat):Int):=by rw[hm,Int.neg_tmod,Int.tmod_eq_emod_of_nonneg oM];omega
  have w2:IntKind.i64.wrap (0 - -((m % 10:Nat):Int))=((m % 10:Nat):Int):=by rw[wrap_i64 oM];omega
  have w3:n.tdiv 10 = -((m / 10:Nat):Int):=by rw[hm,Int.neg_tdiv,Int.tdiv_eq_ediv_of_nonneg oM];omega
  have w4:IntKind.i64.wrap (-((m / 10:Nat):Int)) = -((m / 10:Nat):Int):=wrap_i64 oM
  have w5:IntKind.i64.wrap (0 - -((m / 10:Nat):Int))=((m / 10:Nat):Int):=by rw[wrap_i64 oM];omega
  have hN:n.natAbs=m:=oM
  have wz:IntKind.i64.wrap 0=0:=wrap_i64 oM
  have hba:∀ l:List UInt8,(⟨#[45]⟩:ByteArray)++⟨l.toArray⟩=⟨(45::l).toArray⟩:=fun l=>ba_append [45] l
  have hl1:(decL (m % 10)).length≤1:=decL_len_pow 0 _ oM
  have hl2:(decL (m / 10)).length≤20:=decL_len_pow 19 _ oM
  by_cases hz:m<10
  ·have hz':(-((m / 10:Nat):Int))=0:=oM
   have hsz:(⟨#[45]⟩:ByteArray).size+(⟨(decL (m % 10)).toArray⟩:ByteArray).size≤9223372036854775807:=by show 1+(decL _).length≤_;omega
   simp only[↓Zd,Zp,Zr,simprocAttr,h0,w1,w2,w3,hz',wz,co279]
   refine rdigits_spec oM fun s1 hs1=>?_
   simp only[↓Zd,Zp,simprocAttr,underlying9,hsz,hba]
   have e:digS n=⟨(45::decL (m % 10)).toArray⟩:=by simp[digS,digL,hneg,hN,Nat.mod_eq_of_lt hz]
   rw[← e]
   exact h _ hs1
  ·have hz':¬ (-((m / 10:Nat):Int))=0:=oM
   have hsz:(⟨#[45]⟩:ByteArray).size+(⟨(decL (m / 10)).toArray⟩:ByteArray).size≤9223372036854775807:=by show 1+(decL _).length≤_;omega
   have hsz2:(⟨(45::decL (m / 10)).toArray⟩:ByteArray).size+(⟨(decL (m % 10)).toArray⟩:ByteArray).size≤9223372036854775807:=by rw[ba_size,ba_size];simp;omega
   simp only[↓Zd,Zp,Zr,simprocAttr,h0,w1,w2,w3,w4,w5,hz',co279]
   refine rdigits_spec oM fun s1 hs1=>?_
   simp only[↓Zd,Zp,simprocAttr,underlying9,hsz,hba,co279]
   refine rdigits_spec oM fun s2 hs2=>?_
   simp only[↓Zd,Zp,simprocAttr,underlying9,hsz2,ba_append]
   have e:digS n=⟨(45::(decL (m / 10)++decL (m % 10))).toArray⟩:=by simp[digS,digL,hneg,hN,decL_ge (show 10≤m by omega),decL_lt (show m % 10<10 by omega)]
   rw[← e]
   exact h _ (lT hs1 hs2)
 ·have h0:0≤n:=oM
  obtain⟨m,rfl⟩:=Int.eq_ofNat_of_zero_le h0
  simp only[↓Zd,Zp,simprocAttr,h0,co279]
  refine rdigits_spec oM fun s1 hs1=>?_
  simp only[↓Zd,Zp,simprocAttr,underlying9]
  have e:digS (m:Int)=⟨(decL m).toArray⟩:=by simp[digS,digL,hneg]
  rw[← e]
  exact h _ hs1
end
def CShow0:=(aI (aI (aI (aI @is31 @ag31) (aI @ce31 @fa31x0)) (aI (aI @fa31x1 @fa31x2) (aI @ag3 (aI @ce3 @ag9)))) (aI (aI (aI @ce9 @underlying3) (aI @underlying4 @underlying9)) (aI (aI @underlying5 @underlying38) (aI @underlying0 (aI @be4 @bn4)))))
def CShow1:=(aI (aI @underlying3 @underlying4) (aI @underlying9 @underlying31))
def showV(k n:Int)(x:ByteArray):ByteArray:=if k=0 then ⟨#[110,117,108,108]⟩ else if k=1 then (if n=0 then ⟨#[102,97,108,115,101]⟩ else ⟨#[116,114,117,101]⟩) else if k=2 then digS n else if k=3 then x else if k=4 then ⟨#[111,98,106,101,99,116]⟩ else if k=5 then ⟨#[102,117,110,99,116,105,111,110]⟩ else ⟨#[]⟩
def printV(k n:Int)(x:ByteArray):ByteArray:=if k=3 then quoteS x else if k=4 then ⟨#[35]⟩++digS n else if k=5 then ⟨#[38]⟩++digS n else showV k n x
theorem kinds(k:Int):k=0∨k=1∨k=2∨k=3∨k=4∨k=5∨(¬ k=0∧¬ k=1∧¬ k=2∧¬ k=3∧¬ k=4∧¬ k=5):=oM
theorem digS_len{n:Int}(hn : -9223372036854775808≤n∧n≤9223372036854775807):(digS n).size≤21:=by
 show (digL n).length≤_
 have:=decL_len_pow 19 n.natAbs oM
 unfold digL
 split
 ·simp;omega
 ·omega
section
theorem show_spec{k n:Int}{x:ByteArray}(hn : -9223372036854775808≤n∧n≤9223372036854775807)(h:∀ s',s.le s'→R (.string (showV k n x)) s'):QC prog w0 61 #[vA k n x] s R:=by
 refine wfun2 hmix ok61 func61 rfl ntmps61 results61 (by simp) ?_
 unfold showV at h
 rcases kinds k with rfl|rfl|rfl|rfl|rfl|rfl|⟨h0,h1,h2,h3,h4,h5⟩
 ·simp only[↓Zd,Zp,Zs,simprocAttr,vA,CShow0]
  exact h _ (lN (lR s))
 ·by_cases hz:n=0
  ·simp only[↓Zd,Zp,Zs,simprocAttr,vA,CShow0,hz]
   simp only[hz]at h
   exact h _ (lN (lR s))
  ·simp only[↓Zd,Zp,Zs,simprocAttr,vA,CShow0,hz]
   simp only[hz]at h
   exact h _ (lN (lR s))
 ·simp only[↓Zd,Zp,Zs,simprocAttr,vA,CShow0,co58]
  refine digits_spec hn fun s1 hs1=>?_
  simp only[↓Zd,Zp,simprocAttr,vA,CShow0]
  exact h _ (lT (lN (lR s)) hs1)
 ·simp only[↓Zd,Zp,Zs,simprocAttr,vA,CShow0]
  exact h _ (lN (lR s))
 ·simp only[↓Zd,Zp,Zs,simprocAttr,vA,CShow0]
  exact h _ (lN (lR s))
 ·simp only[↓Zd,Zp,Zs,simprocAttr,vA,CShow0]
  exact h _ (lN (lR s))
 ·simp only[h0,h1,h2,h3,h4,h5,if_false]at h
  simp only[↓Zd,Zp,Zs,simprocAttr,vA,CShow0,h0,h1,h2,h3,h4,h5]
  exact h _ (lN (lR s))
theorem rShow_spec{k n:Int}{x:ByteArray}(hn : -9223372036854775808≤n∧n≤9223372036854775807)(h:∀ s',s.le s'→R (.string (showV k n x)) s'):QC prog w0 195 #[vA k n x] s R:=by
 refine wfun2 hmix ok195 func195 rfl ntmps195 results195 (by simp) ?_
 unfold showV at h
 rcases kinds k with rfl|rfl|rfl|rfl|rfl|rfl|⟨h0,h1,h2,h3,h4,h5⟩
 ·simp only[↓Zd,Zp,Zs,simprocAttr,vA,CShow0]
  exact h _ (lN (lR s))
 ·by_cases hz:n=0
  ·simp only[↓Zd,Zp,Zs,simprocAttr,vA,CShow0,hz]
   simp only[hz]at h
   exact h _ (lN (lR s))
  ·simp only[↓Zd,Zp,Zs,simprocAttr,vA,CShow0,hz]
   simp only[hz]at h
   exact h _ (lN (lR s))
 ·simp only[↓Zd,Zp,Zs,simprocAttr,vA,CShow0,co255]
  refine rDigits_spec hn fun s1 hs1=>?_
  simp only[↓Zd,Zp,simprocAttr,vA,CShow0]
  exact h _ (lT (lN (lR s)) hs1)
 ·simp only[↓Zd,Zp,Zs,simprocAttr,vA,CShow0]
  exact h _ (lN (lR s))
 ·simp only[↓Zd,Zp,Zs,simprocAttr,vA,CShow0]
  exact h _ (lN (lR s))
 ·simp only[↓Zd,Zp,Zs,simprocAttr,vA,CShow0]
  exact h _ (lN (lR s))
 ·simp only[h0,h1,h2,h3,h4,h5,if_false]at h
  simp only[↓Zd,Zp,Zs,simprocAttr,vA,CShow0,h0,h1,h2,h3,h4,h5]
  exact h _ (lN (lR s))
theorem print_spec{k n:Int}{x:ByteArray}(hn : -9223372036854775808≤n∧n≤9223372036854775807)(hx:x.size≤1000000)(h:∀ s',s.le s'→R (.string (printV k n x)) s'):QC prog w0 55 #[vA k n x] s R:=by
 refine wfun2 hmix ok55 func55 rfl ntmps55 results55 (by simp) ?_
 unfold printV at h
 rcases kinds k with rfl|rfl|rfl|rfl|rfl|rfl|⟨h0,h1,h2,h3,h4,h5⟩
 ·simp only[↓Zd,Zp,Zs,simprocAttr,CShow1,vA,CShow0,co61]
  have hk:=show_spec (w0:=w0) (s:=s.new (.cells [.int .i64 0,.int .i64 n,.string x] 31 true)) (k:=0) (n:=n) (x:=x) (R:=fun v s'=>Cs.shape prog 9 v fun v=>R v s') hn
  unfold vA at hk
  refine hk fun s1 hs1=>?_
  simp only[↓Zd,Zp,simprocAttr,CShow0]
  exact h _ (lT (lN (lR s)) hs1)
 ·simp only[↓Zd,Zp,Zs,simprocAttr,CShow1,vA,CShow0,co61]
  have hk:=show_spec (w0:=w0) (s:=s.new (.cells [.int .i64 1,.int .i64 n,.string x] 31 true)) (k:=1) (n:=n) (x:=x) (R:=fun v s'=>Cs.shape prog 9 v fun v=>R v s') hn
  unfold vA at hk
  refine hk fun s1 hs1=>?_
  simp only[↓Zd,Zp,simprocAttr,CShow0]
  exact h _ (lT (lN (lR s)) hs1)
 ·simp only[↓Zd,Zp,Zs,simprocAttr,CShow1,vA,CShow0,co61]
  have hk:=show_spec (w0:=w0) (s:=s.new (.cells [.int .i64 2,.int .i64 n,.string x] 31 true)) (k:=2) (n:=n) (x:=x) (R:=fun v s'=>Cs.shape prog 9 v fun v=>R v s') hn
  unfold vA at hk
  refine hk fun s1 hs1=>?_
  simp only[↓Zd,Zp,simprocAttr,CShow0]
  exact h _ (lT (lN (lR s)) hs1)
 ·simp only[↓Zd,Zp,Zs,simprocAttr,vA,CShow0,co57]
  refine quote_spec hx fun s1 hs1=>?_
  simp only[↓Zd,Zp,simprocAttr,vA,CShow0]
  exact h _ (lT (lN (lR s)) hs1)
 ·simp only[↓Zd,Zp,Zs,simprocAttr,vA,CShow0,co58]
  refine digits_spec hn fun s1 hs1=>?_
  have hsz:(⟨#[35]⟩:ByteArray).size+(digS n).size≤9223372036854775807:=by
   have:=digS_len hn
   show 1+(digS n).size≤_
   omega
  simp only[↓Zd,Zp,simprocAttr,vA,CShow0,hsz]
  exact h _ (lT (lN (lR s)) hs1)
 ·simp only[↓Zd,Zp,Zs,simprocAttr,vA,CShow0,co58]
  refine digits_spec hn fun s1 hs1=>?_
  have hsz:(⟨#[38]⟩:ByteArray).size+(digS n).size≤9223372036854775807:=by
   have:=digS_len hn
   show 1+(digS n).size≤_
   omega
  simp only[↓Zd,Zp,simprocAttr,vA,CShow0,hsz]
  exact h _ (lT (lN (lR s)) hs1)
 ·simp only[h3,h4,h5,if_false]at h
  simp only[↓Zd,Zp,Zs,simprocAttr,CShow1,vA,CShow0,co61,h3,h4,h5]
  have hk:=show_spec (w0:=w0) (s:=s.new (.cells [.int .i64 k,.int .i64 n,.string x] 31 true)) (k:=k) (n:=n) (x:=x) (R:=fun v s'=>Cs.shape prog 9 v fun v=>R v s') hn
  unfold vA at hk
  refine hk fun s1 hs1=>?_
  simp only[↓Zd,Zp,simprocAttr,CShow0]
  exact h _ (lT (lN (lR s)) hs1)
end
section
def wrapN(n:Int):Int:=(IntKind.i64.wrap (IntKind.u64.wrap (IntKind.u64.wrap n*2 ^ min 1 IntKind.u64.bits))).fdiv (2 ^ min 1 IntKind.i64.bits)
theorem wrap_spec{n:Int}(h:R (.int .i64 (wrapN n)) s):QC prog w0 264 #[.int .i64 n] s R:=by
 refine wfun2 hmix ok264 func264 rfl ntmps264 results264 (by simp) ?_
 simp only[↓Zd,Zp,simprocAttr,underlying3,underlying174,underlying2]
 exact h
def addM(a b:Int):Int:=wrapN (IntKind.i64.wrap (IntKind.u64.wrap (IntKind.u64.wrap a+IntKind.u64.wrap b)))
theorem add_spec{a b:Int}(h:R (.int .i64 (addM a b)) s):QC prog w0 210 #[.int .i64 a,.int .i64 b] s R:=by
 refine wfun2 hmix ok210 func210 rfl ntmps210 results210 (by simp) ?_
 simp only[↓Zd,Zp,simprocAttr,underlying3,underlying174,co264]
 refine wrap_spec ?_
 simp only[↓Zd,Zp,simprocAttr,underlying3]
 exact h
def subN(a b:Int):Int:=wrapN (IntKind.i64.wrap (IntKind.u64.wrap (IntKind.u64.wrap a - IntKind.u64.wrap b)))
theorem sub_spec{a b:Int}(h:R (.int .i64 (subN a b)) s):QC prog w0 211 #[.int .i64 a,.int .i64 b] s R:=by
 refine wfun2 hmix ok211 func211 rfl ntmps211 results211 (by simp) ?_
 simp only[↓Zd,Zp,simprocAttr,underlying3,underlying174,co264]
 refine wrap_spec ?_
 simp only[↓Zd,Zp,simprocAttr,underlying3]
 exact h
def mulN(a b:Int):Int:=wrapN (IntKind.i64.wrap (IntKind.u64.wrap (IntKind.u64.wrap a*IntKind.u64.wrap b)))
theorem mul_spec{a b:Int}(h:R (.int .i64 (mulN a b)) s):QC prog w0 212 #[.int .i64 a,.int .i64 b] s R:=by
 refine wfun2 hmix ok212 func212 rfl ntmps212 results212 (by simp) ?_
 simp only[↓Zd,Zp,simprocAttr,underlying3,underlying174,co264]
 refine wrap_spec ?_
 simp only[↓Zd,Zp,simprocAttr,underlying3]
 exact h
theorem neg_spec{a:Int}(h:R (.int .i64 (subN 0 a)) s):QC prog w0 242 #[.int .i64 a] s R:=by
 refine wfun2 hmix ok242 func242 rfl ntmps242 results242 (by simp) ?_
 simp only[↓Zd,Zp,simprocAttr,co211]
 refine sub_spec ?_
 simp only[↓Zd,Zp,simprocAttr,underlying3]
 exact h
def wrapR(n:Int):Int:=
 if n>4611686018427387903 then IntKind.i64.wrap (IntKind.i64.wrap (IntKind.i64.wrap (IntKind.i64.wrap (n - 4611686018427387903) - 1) - 4611686018427387903) - 1)
 else if n < -4611686018427387904 then IntKind.i64.wrap (IntKind.i64.wrap (IntKind.i64.wrap (IntKind.i64.wrap (n+4611686018427387903)+1)+4611686018427387903)+1)
 else n
theorem rwrap_spec{n:Int}(h:R (.int .i64 (wrapR n)) s):QC prog w0 278 #[.int .i64 n] s R:=by
 refine wfun2 hmix ok278 func278 rfl ntmps278 results278 (by simp) ?_
 simp only[↓Zd,Zp,simprocAttr]
 unfold wrapR at h
 refine c2_split (fun h1=>?_) (fun h1=>?_)
 ·simp only[↓Zd,Zp,simprocAttr]
  rw[if_pos (by simpa using h1)]at h;exact h
 ·simp only[↓Zd,Zp,simprocAttr]
  rw[if_neg (by simpa using h1)]at h
  refine c2_split (fun h2=>?_) (fun h2=>?_)
  ·simp only[↓Zd,Zp,simprocAttr]
   rw[if_pos (by simpa using h2)]at h;exact h
  ·simp only[↓Zd,Zp,simprocAttr]
   rw[if_neg (by simpa using h2)]at h;exact h
theorem radd_spec{a b:Int}(h:R (.int .i64 (wrapR (IntKind.i64.wrap (a+b)))) s):QC prog w0 247 #[.int .i64 a,.int .i64 b] s R:=by
 refine wfun2 hmix ok247 func247 rfl ntmps247 results247 (by simp) ?_
 simp only[↓Zd,Zp,simprocAttr,co278]
 refine rwrap_spec ?_
 simp only[↓Zd,Zp,simprocAttr,underlying3]
 exact h
theorem rsub_spec{a b:Int}(h:R (.int .i64 (wrapR (IntKind.i64.wrap (a - b)))) s):QC prog w0 248 #[.int .i64 a,.int .i64 b] s R:=by
 refine wfun2 hmix ok248 func248 rfl ntmps248 results248 (by simp) ?_
 simp only[↓Zd,Zp,simprocAttr,co278]
 refine rwrap_spec ?_
 simp only[↓Zd,Zp,simprocAttr,underlying3]
 exact h
theorem rmul_spec{a b:Int}(h:R (.int .i64 (wrapR (IntKind.i64.wrap (a*b)))) s):QC prog w0 249 #[.int .i64 a,.int .i64 b] s R:=by
 refine wfun2 hmix ok249 func249 rfl ntmps249 results249 (by simp) ?_
 simp only[↓Zd,Zp,simprocAttr,co278]
 refine rwrap_spec ?_
 simp only[↓Zd,Zp,simprocAttr,underlying3]
 exact h
theorem rneg_spec{a:Int}(h:R (.int .i64 (wrapR (IntKind.i64.wrap (0 - a)))) s):QC prog w0 246 #[.int .i64 a] s R:=by
 refine wfun2 hmix ok246 func246 rfl ntmps246 results246 (by simp) ?_
 simp only[↓Zd,Zp,simprocAttr,co278]
 refine rwrap_spec ?_
 simp only[↓Zd,Zp,simprocAttr,underlying3]
 exact h
end
def I64(n:Int):Prop := -9223372036854775808≤n∧n≤9223372036854775807
def w63(n:Int):Int:=(n+4611686018427387904) % 9223372036854775808 - 4611686018427387904
theorem wrap64(n:Int):IntKind.i64.wrap n=(n+9223372036854775808) % 18446744073709551616 - 9223372036854775808:=by
 simp only[IntKind.wrap,IntKind.bits,IntKind.signed,Bool.true_and,decide_eq_true_eq,Int.reducePow,Nat.reduceSub,ge_iff_le]
 split<;>omega
theorem wrapu64(n:Int):IntKind.u64.wrap n=n % 18446744073709551616:=by
 simp[IntKind.wrap,IntKind.bits,IntKind.signed]
theorem wrap64_I64(n:Int):I64 (IntKind.i64.wrap n):=by rw[wrap64];unfold I64;omega
theorem wrap64_id{n:Int}(h:I64 n):IntKind.i64.wrap n=n:=by rw[wrap64];unfold I64 at h;omega
theorem wrapN_eq(n:Int):wrapN n=w63 n:=by
 unfold wrapN w63
 rw[Int.fdiv_eq_ediv_of_nonneg _ (by simp[IntKind.bits])]
 simp only[wrap64,wrapu64,IntKind.bits,show min 1 64=1 from rfl,Int.pow_one]
 omega
theorem w63_wrap64(n:Int):w63 (IntKind.i64.wrap n)=w63 n:=by rw[wrap64];unfold w63;omega
theorem w63_ex(a:Int):∃ k,w63 a=a+9223372036854775808*k:=⟨-((a+4611686018427387904) / 9223372036854775808),by unfold w63;omega⟩
theorem w63_shift(a k:Int):w63 (a+9223372036854775808*k)=w63 a:=by unfold w63;omega
theorem w63_mul(a b:Int):w63 (w63 a*w63 b)=w63 (a*b):=by
 obtain⟨i,hi⟩:=w63_ex a
 obtain⟨j,hj⟩:=w63_ex b
 rw[hi,hj,show (a+9223372036854775808*i)*(b+9223372036854775808*j)=a*b+9223372036854775808*(a*j+i*b+i*(9223372036854775808*j)) from by
  simp only[Int.add_mul,Int.mul_add,Int.mul_assoc,Int.mul_comm,Int.mul_left_comm];omega,w63_shift]
theorem addN_eq(a b:Int):addM a b=w63 (a+b):=by
 unfold addM
 rw[wrapN_eq]
 simp only[wrap64,wrapu64,w63]
 omega
theorem subN_eq(a b:Int):subN a b=w63 (a - b):=by
 unfold subN
 rw[wrapN_eq]
 simp only[wrap64,wrapu64,w63]
 omega
theorem mulN_eq(a b:Int):mulN a b=w63 (a*b):=by
 unfold mulN
 rw[wrapN_eq,w63_wrap64]
 have h:∀ x,w63 (IntKind.u64.wrap x)=w63 x:=fun x=>by rw[wrapu64];unfold w63;omega
 rw[h,← w63_mul,h,h,w63_mul]
theorem wrapR_eq{n:Int}(h:I64 n):wrapR n=w63 n:=by
 unfold wrapR I64 at *
 split
 ·simp only[wrap64];unfold w63;omega
 ·split
  ·simp only[wrap64];unfold w63;omega
  ·unfold w63;omega
theorem wrapR_wrap(n:Int):wrapR (IntKind.i64.wrap n)=w63 n:=by rw[wrapR_eq (wrap64_I64 n),w63_wrap64]
section
theorem castR{R:Value→St M→Prop}{s:St M}{b b':Bool}(h:R (.bool b) s)(e:b'=b):R (.bool b') s:=e▸h
end
section
end
theorem guard31:Program.eqGuardType prog prog.depth 31=false:=oK
theorem stood31:prog.stoodInHeld 31=false:=oK
theorem part31x0(k n:Int)(x:ByteArray):pureRun prog (part 3 #[.int .i64 k,.int .i64 n,.string x] 0)=some (.int .i64 k):=oK
theorem part31x1(k n:Int)(x:ByteArray):pureRun prog (part 3 #[.int .i64 k,.int .i64 n,.string x] 1)=some (.int .i64 n):=oK
theorem part31x2(k n:Int)(x:ByteArray):pureRun prog (part 9 #[.int .i64 k,.int .i64 n,.string x] 2)=some (.string x):=oK
theorem eq31{k n k' n':Int}{x x':ByteArray}:pureRun prog (Go.binOp .eql 31 (vA k n x) (vA k' n' x'))=some (.bool ((k == k') && ((n == n') && (decide (x=x') && true)))):=by
 unfold vA
 simp only[Go.binOp,pureRun_bind]
 have:=pr_eqStruct (P:=prog) (d:=9999) (xs:=#[.int .i64 k,.int .i64 n,.string x]) (ys:=#[.int .i64 k',.int .i64 n',.string x']) underlying31 stood31
 rw[show Op.equal 31 (Value.agg #[.int .i64 k,.int .i64 n,.string x]) (Value.agg #[.int .i64 k',.int .i64 n',.string x'])=Op.equalIn (9999+1) 31 (Value.agg #[.int .i64 k,.int .i64 n,.string x]) (Value.agg #[.int .i64 k',.int .i64 n',.string x']) from rfl,this]
 rw[pr_eqCons (by decide) (part31x0 k n x) (part31x0 k' n' x') (pr_eqInt (d:=9998) underlying3) (pr_eqCons (by decide) (part31x1 k n x) (part31x1 k' n' x') (pr_eqInt (d:=9998) underlying3) (pr_eqCons (by decide) (part31x2 k n x) (part31x2 k' n' x') (pr_eqString (d:=9998) underlying9) pr_eqNil))]
 rfl
theorem same31{k n k' n':Int}{x x':ByteArray}{ox oy:Operand}:cbin prog .eql 31 ox oy (vA k n x) (vA k' n' x')=some (.bool (decide (k=k') && (decide (n=n') && decide (x=x')))):=by
 have h:=eq31 (k:=k) (n:=n) (x:=x) (k':=k') (n':=n') (x':=x')
 have h1:plain 6 (vA k n x)=true:=oK
 have h2:plain 6 (vA k' n' x')=true:=oK
 have h3:pureRun prog (eqGuard .eql 31 ox oy (vA k n x) (vA k' n' x'))=some ():=by
  unfold vA eqGuard
  simp only[pureRun_bind,pureRun_program,Option.bind_some,guard31,Bool.not_false,if_true,pureRun_ite,pureRun_pure]
  rfl
 unfold vA at h1 h2 h3 h ⊢
 unfold cbin
 dsimp only
 rw[if_pos ⟨h1,h2⟩]
 unfold pure6
 rw[pureRun_bind,h3,Option.bind_some,h]
 show some (Value.bool _)=_
 rw[Bool.and_true]
 congr 2
section
def sameV(k n:Int)(x:ByteArray)(k' n':Int)(x':ByteArray):Bool:=decide (k=k') && (decide (n=n') && decide (x=x'))
theorem same_spec{k n:Int}{x:ByteArray}{k' n':Int}{x':ByteArray}(h:R (.bool (sameV k n x k' n' x')) ((s.new (vB k n x)).new (vB k' n' x'))):QC prog w0 146 #[vA k n x,vA k' n' x'] s R:=by
 refine wfun2 hmix ok146 func146 rfl ntmps146 results146 (by simp) ?_
 unfold vB at h
 have he:=fun ox oy=>same31 (k:=k) (n:=n) (x:=x) (k':=k') (n':=n') (x':=x') (ox:=ox) (oy:=oy)
 unfold vA at he ⊢
 simp only[↓Zd,Zp,Zs,simprocAttr,underlying31,is31,ag31,ce31,he]
 exact h
theorem rsame_spec{k n:Int}{x:ByteArray}{k' n':Int}{x':ByteArray}(h:R (.bool (sameV k n x k' n' x')) ((s.new (vB k n x)).new (vB k' n' x'))):QC prog w0 91 #[vA k n x,vA k' n' x'] s R:=by
 refine wfun2 hmix ok91 func91 rfl ntmps91 results91 (by simp) ?_
 unfold vB at h
 by_cases h1:k=k'
 ·by_cases h2:n=n'
  ·simp only[↓Zd,Zp,Zs,simprocAttr,underlying3,underlying9,vA,is31,fa31x0,fa31x1,fa31x2,ag3,ag9,h1,h2]
   refine castR (by simpa only[h1,h2] using h) ?_
   simp[sameV]
  ·simp only[↓Zd,Zp,Zs,simprocAttr,underlying3,vA,is31,fa31x0,fa31x1,ag3,h1,h2]
   refine castR (by simpa only[h1] using h) ?_
   simp[sameV,h2]
 ·simp only[↓Zd,Zp,Zs,simprocAttr,underlying3,vA,is31,fa31x0,ag3,h1]
  refine castR h ?_
  simp[sameV,h1]
theorem rtruth_spec{k n:Int}{x:ByteArray}(h:R (.bool (truthV k n)) (s.new (vB k n x))):QC prog w0 244 #[vA k n x] s R:=by
 refine wfun2 hmix ok244 func244 rfl ntmps244 results244 (by simp) ?_
 unfold vB at h
 by_cases h0:k=0
 ·subst h0
  simp only[↓Zd,Zp,Zs,simprocAttr,underlying3,vA,is31,fa31x0,ag3]
  refine castR h ?_
  simp[truthV]
 ·by_cases h1:k=1
  ·subst h1
   simp only[↓Zd,Zp,Zs,simprocAttr,underlying3,vA,is31,fa31x0,fa31x1,ag3]
   refine castR h ?_
   simp[truthV]
  ·simp only[↓Zd,Zp,Zs,simprocAttr,underlying3,vA,is31,fa31x0,ag3,h0,h1]
   refine castR h ?_
   simp[truthV,h0,h1]
end
section
end
section
def divN(a b:Int):Int:=if b=0 then 0 else if b = -1 then w63 (0 - a) else w63 (a.tdiv b)
def modN(a b:Int):Int:=if b=0 then 0 else if b = -1 then 0 else if b=1 then 0 else a.tmod b
def erN(b:Int):Int:=if b=0 then 31 else 0
theorem wrapN_div(a b:Int):wrapN (IntKind.i64.wrap (a.tdiv b))=w63 (a.tdiv b):=by rw[wrapN_eq,w63_wrap64]
theorem div_spec{a b:Int}(h:R (.tuple #[.int .i64 (divN a b),.int .i64 (erN b)]) s):QC prog w0 213 #[.int .i64 a,.int .i64 b] s R:=by
 refine wfun2 hmix ok213 func213 rfl ntmps213 results213 (by simp) ?_
 by_cases h0:b=0
 ·subst h0
  simp only[↓Zd,Zp,simprocAttr]
  exact h
 ·by_cases h1:b = -1
  ·subst h1
   simp only[↓Zd,Zp,simprocAttr,co242]
   refine neg_spec ?_
   simp only[↓Zd,Zp,simprocAttr,underlying3,subN_eq]
   exact h
  ·simp only[↓Zd,Zp,Zr,simprocAttr,co264,h0,h1]
   refine wrap_spec ?_
   simp only[↓Zd,Zp,simprocAttr,underlying3,wrapN_div]
   unfold divN erN at h
   rw[if_neg h0,if_neg h1,if_neg h0]at h
   exact h
theorem mod_spec{a b:Int}(h:R (.tuple #[.int .i64 (modN a b),.int .i64 (erN b)]) s):QC prog w0 214 #[.int .i64 a,.int .i64 b] s R:=by
 refine wfun2 hmix ok214 func214 rfl ntmps214 results214 (by simp) ?_
 by_cases h0:b=0
 ·subst h0
  simp only[↓Zd,Zp,simprocAttr]
  exact h
 ·by_cases h1:b = -1
  ·subst h1
   simp only[↓Zd,Zp,simprocAttr]
   exact h
  ·by_cases h2:b=1
   ·subst h2
    simp only[↓Zd,Zp,simprocAttr]
    exact h
   ·simp only[↓Zd,Zp,Zr,simprocAttr,h0,h1,h2]
    unfold modN erN at h
    rw[if_neg h0,if_neg h1,if_neg h2,if_neg h0]at h
    exact h
end
theorem wrap64_ex(x:Int):∃ k,IntKind.i64.wrap x=x+18446744073709551616*k:=⟨-((x+9223372036854775808) / 18446744073709551616),by rw[wrap64];omega⟩
theorem wrap64_shift(x k:Int):IntKind.i64.wrap (x+18446744073709551616*k)=IntKind.i64.wrap x:=by rw[wrap64,wrap64];omega
theorem tmod_I64{a:Int}(b:Int)(h:I64 a):I64 (a.tmod b):=by
 unfold I64 at *
 have h1:(a.tmod b).natAbs≤a.natAbs:=by rw[Int.natAbs_tmod];exact Nat.mod_le _ _
 rcases Int.le_total 0 a with h2|h2
 ·have:=Int.tmod_nonneg b h2
  omega
 ·have h3:=Int.tmod_nonneg b (show 0 ≤ -a by omega)
  rw[Int.neg_tmod]at h3
  omega
theorem rest_eq{a b:Int}(h:I64 a):IntKind.i64.wrap (a - IntKind.i64.wrap (IntKind.i64.wrap (a.tdiv b)*b))=a.tmod b:=by
 obtain⟨k1,e1⟩:=wrap64_ex (a.tdiv b)
 obtain⟨k2,e2⟩:=wrap64_ex (IntKind.i64.wrap (a.tdiv b)*b)
 rw[e2,e1]
 have e3:(a - ((a.tdiv b+18446744073709551616*k1)*b+18446744073709551616*k2))=a.tmod b+18446744073709551616*(-(k1*b) - k2):=by
  have:=Int.tmod_add_mul_tdiv a b
  have h2:(a.tdiv b+18446744073709551616*k1)*b=b*a.tdiv b+18446744073709551616*(k1*b):=by
   rw[Int.add_mul,Int.mul_comm,Int.mul_assoc]
  rw[h2]
  generalize b*a.tdiv b=u at *
  generalize k1*b=v at *
  omega
 rw[e3,wrap64_shift,wrap64_id (tmod_I64 b h)]
section
theorem rdiv_spec{a b:Int}(h:R (.tuple #[.int .i64 (divN a b),.int .i64 (erN b)]) s):QC prog w0 250 #[.int .i64 a,.int .i64 b] s R:=by
 refine wfun2 hmix ok250 func250 rfl ntmps250 results250 (by simp) ?_
 by_cases h0:b=0
 ·subst h0
  simp only[↓Zd,Zp,simprocAttr]
  exact h
 ·by_cases h1:b = -1
  ·subst h1
   simp only[↓Zd,Zp,simprocAttr,co246]
   refine rneg_spec ?_
   simp only[↓Zd,Zp,simprocAttr,underlying3,wrapR_wrap]
   exact h
  ·simp only[↓Zd,Zp,Zr,simprocAttr,co278,h0,h1]
   refine rwrap_spec ?_
   simp only[↓Zd,Zp,simprocAttr,underlying3,wrapR_wrap]
   unfold divN erN at h
   rw[if_neg h0,if_neg h1,if_neg h0]at h
   exact h
theorem rmod_spec{a b:Int}(ha:I64 a)(h:R (.tuple #[.int .i64 (modN a b),.int .i64 (erN b)]) s):QC prog w0 251 #[.int .i64 a,.int .i64 b] s R:=by
 refine wfun2 hmix ok251 func251 rfl ntmps251 results251 (by simp) ?_
 by_cases h0:b=0
 ·subst h0
  simp only[↓Zd,Zp,simprocAttr]
  exact h
 ·by_cases h1:b = -1
  ·subst h1
   simp only[↓Zd,Zp,simprocAttr]
   exact h
  ·simp only[↓Zd,Zp,Zr,simprocAttr,h0,h1,rest_eq ha]
   unfold modN erN at h
   rw[if_neg h0,if_neg h1,if_neg h0]at h
   split at h
   ·rename_i h2;subst h2;rw[Int.tmod_one];exact h
   ·exact h
end
def COpsA1:=(aI (aI @underlying3 @underlying4) (aI @underlying9 @underlying31))
theorem bv0:cbuild prog 31 #[]=some (.agg #[.int .i64 0,.int .i64 0,.string ⟨#[]⟩]):=oK
theorem bv1(a:Int):cbuild prog 31 #[(0,.int .i64 a)]=some (.agg #[.int .i64 a,.int .i64 0,.string ⟨#[]⟩]):=oK
theorem bv2(a b:Int):cbuild prog 31 #[(0,.int .i64 a),(1,.int .i64 b)]=some (.agg #[.int .i64 a,.int .i64 b,.string ⟨#[]⟩]):=oK
theorem bv3(a:Int)(x:ByteArray):cbuild prog 31 #[(0,.int .i64 a),(2,.string x)]=some (.agg #[.int .i64 a,.int .i64 0,.string x]):=oK
section
theorem truth_le{k n:Int}{x:ByteArray}(h:∀ s',s.le s'→R (.bool (truthV k n)) s'):QC prog w0 176 #[vA k n x] s R:=truth_spec (h _ (lN (lR s)))
theorem rtruth_le{k n:Int}{x:ByteArray}(h:∀ s',s.le s'→R (.bool (truthV k n)) s'):QC prog w0 244 #[vA k n x] s R:=rtruth_spec (h _ (lN (lR s)))
theorem same_le{k n:Int}{x:ByteArray}{k' n':Int}{x':ByteArray}(h:∀ s',s.le s'→R (.bool (sameV k n x k' n' x')) s'):QC prog w0 146 #[vA k n x,vA k' n' x'] s R:=
 same_spec (h _ (lN (lN (lR s))))
theorem rsame_le{k n:Int}{x:ByteArray}{k' n':Int}{x':ByteArray}(h:∀ s',s.le s'→R (.bool (sameV k n x k' n' x')) s'):QC prog w0 91 #[vA k n x,vA k' n' x'] s R:=
 rsame_spec (h _ (lN (lN (lR s))))
def boolN(b:Bool):Int:=if b=true then 1 else 0
theorem otruth_spec{b:Bool}(h:∀ s',s.le s'→R (vA 1 (boolN b) ⟨#[]⟩) s'):QC prog w0 145 #[.bool b] s R:=by
 refine wfun2 hmix ok145 func145 rfl ntmps145 results145 (by simp) ?_
 unfold boolN vA at h
 cases b<;>simp only[if_true,Bool.false_eq_true,if_false]at h
 ·simp only[↓Zd,Zp,if_true,if_false,Nat.reduceEqDiff,reduceCtorEq,Nat.reduceAdd,Nat.reduceLeDiff,Zs,ag31,ce31,bv1,ze31,sz31]
  exact h _ oL
 ·simp only[↓Zd,Zp,if_true,if_false,Nat.reduceEqDiff,reduceCtorEq,Nat.reduceAdd,Nat.reduceLeDiff,Zs,ag31,ce31,bv2,ze31,sz31]
  exact h _ oL
theorem rtruthB_spec{b:Bool}(h:∀ s',s.le s'→R (vA 1 (boolN b) ⟨#[]⟩) s'):QC prog w0 243 #[.bool b] s R:=by
 refine wfun2 hmix ok243 func243 rfl ntmps243 results243 (by simp) ?_
 unfold boolN vA at h
 cases b<;>simp only[if_true,Bool.false_eq_true,if_false]at h
 ·simp only[↓Zd,Zp,if_true,if_false,Nat.reduceEqDiff,reduceCtorEq,Nat.reduceAdd,Nat.reduceLeDiff,Zs,COpsA1,ag31,ce31,bv1,ze31,sz31]
  exact h _ oL
 ·simp only[↓Zd,Zp,if_true,if_false,Nat.reduceEqDiff,reduceCtorEq,Nat.reduceAdd,Nat.reduceLeDiff,Zs,COpsA1,ag31,ce31,fa31x1,bv1,ze31,sz31,sz3]
  exact h _ oL
theorem owhole_spec{n:Int}(h:∀ s',s.le s'→R (vA 2 n ⟨#[]⟩) s'):QC prog w0 150 #[.int .i64 n] s R:=by
 refine wfun2 hmix ok150 func150 rfl ntmps150 results150 (by simp) ?_
 unfold vA at h
 simp only[↓Zd,Zp,if_true,if_false,Nat.reduceEqDiff,reduceCtorEq,Nat.reduceAdd,Nat.reduceLeDiff,Zs,ag31,ce31,bv2,ze31,sz31]
 exact h _ oL
def wholeV(n e:Int):Value:=if e=0 then vA 2 n ⟨#[]⟩ else vA 0 0 ⟨#[]⟩
theorem rwhole_spec{n e:Int}(h:∀ s',s.le s'→R (.tuple #[wholeV n e,.int .i64 e]) s'):QC prog w0 245 #[.int .i64 n,.int .i64 e] s R:=by
 refine wfun2 hmix ok245 func245 rfl ntmps245 results245 (by simp) ?_
 unfold wholeV vA at h
 by_cases he:e=0
 ·subst he
  simp only[↓Zd,Zp,if_true,if_false,Nat.reduceEqDiff,reduceCtorEq,Nat.reduceAdd,Nat.reduceLeDiff,Zs,ag31,ce31,bv2,ze31,sz31]
  exact h _ oL
 ·simp only[he,if_false]at h
  simp only[↓Zd,Zp,if_true,if_false,Nat.reduceEqDiff,Nat.reduceAdd,Nat.reduceLeDiff,Zs,ag31,ce31,bv0,ze31,sz31,he]
  exact h _ oL
def joinV(x y:ByteArray)(most:Int):Value:=if (x.size:Int)+y.size>most then .tuple #[vA 0 0 ⟨#[]⟩,.int .i64 43] else .tuple #[vA 3 0 (x++y),.int .i64 0]
theorem join_spec{x y:ByteArray}{most:Int}(hm : -1≤most∧most≤9223372036854775807)(hx:True)(hy:True)(h:∀ s',s.le s'→R (joinV x y most) s'):QC prog w0 147 #[.string x,.string y,.int .i64 most] s R:=by
 refine wfun2 hmix ok147 func147 rfl ntmps147 results147 (by simp) ?_
 unfold joinV vA at h
 by_cases h1:most<(x.size:Int)
 ·rw[if_pos oM]at h
  simp only[↓Zd,Zp,if_true,if_false,Nat.reduceEqDiff,reduceCtorEq,Nat.reduceAdd,Nat.reduceLeDiff,Zs,COpsA1,ag31,ce31,bv0,ze31,sz31,h1]
  exact h _ oL
 ·have w1:IntKind.i64.wrap (most - (x.size:Int))=most - (x.size:Int):=wrap_i64 oM
  by_cases h2:most - (x.size:Int)<(y.size:Int)
  ·rw[if_pos oM]at h
   simp only[↓Zd,Zp,if_true,if_false,Nat.reduceEqDiff,reduceCtorEq,Nat.reduceAdd,Nat.reduceLeDiff,Zs,COpsA1,ag31,ce31,bv0,ze31,sz31,h1,w1,h2]
   exact h _ oL
  ·rw[if_neg oM]at h
   have hsz:x.size+y.size≤9223372036854775807:=oM
   simp only[↓Zd,Zp,if_true,if_false,Nat.reduceEqDiff,reduceCtorEq,Nat.reduceAdd,Nat.reduceLeDiff,Zs,COpsA1,ag31,ce31,bv3,ze31,sz31,h1,w1,h2,hsz]
   exact h _ oL
end
def COpsB0:=(aI (aI (aI (aI @is31 @ag31) (aI @ce31 @fa31x0)) (aI (aI @fa31x1 @fa31x2) (aI @ag3 (aI @ce3 @ag9)))) (aI (aI (aI @ce9 @underlying3) (aI @underlying4 @underlying9)) (aI (aI @underlying5 @underlying38) (aI @underlying0 (aI @be4 @bn4)))))
def COpsB1:=(aI (aI @underlying3 @underlying4) (aI @underlying9 @underlying31))
def ltB:List UInt8→List UInt8→Bool
 | [],[]=>false
 | [],_::_=>true
 |_::_,[]=>false
 |a::l,b::m=>if a=b then ltB l m else decide (a.toNat<b.toNat)
theorem ltB_tri:∀ l m:List UInt8,(ltB l m=true∧ltB m l=false∧l≠m)∨(ltB l m=false∧ltB m l=true∧l≠m)∨(ltB l m=false∧ltB m l=false∧l=m):=by
 intro l
 induction l with
 |nil=>intro m;cases m<;>simp[ltB]
 |cons a l ih =>
  intro m
  cases m with
  |nil=>simp[ltB]
  |cons b m =>
   by_cases e:a=b
   ·subst e
    have:=ih m
    simpa [ltB] using this
   ·have e':¬ b=a:=fun h=>e h.symm
    have hn:a.toNat≠b.toNat:=fun h=>e (UInt8.toNat_inj.1 h)
    simp only[ltB,e,e',if_false,decide_eq_true_eq,decide_eq_false_iff_not,ne_eq,List.cons.injEq,false_and,not_false_eq_true,and_true,and_false,or_false]
    omega
def cmpL(l m:List UInt8):Int:=if ltB l m=true then -1 else if ltB m l=true then 1 else 0
theorem get_bang{x:ByteArray}{i:Nat}(h:i<x.size):x[i]! = x.data.toList[i]'(by simpa using h):=by
 rw[getElem!_pos x i h]
 rfl
theorem cmp_from(x y:ByteArray):∀ (d i:Nat),i+d=min x.size y.size →
  (match (List.range' i d).find? (fun i=>x[i]! != y[i]!) with
   |some i=>if x[i]! < y[i]! then (-1:Int) else 1
   |none=>if x.size<y.size then -1 else if x.size>y.size then 1 else 0)=cmpL (x.data.toList.drop i) (y.data.toList.drop i):=by
 intro d
 induction d with
 |zero =>
  intro i h
  simp only[List.range'_zero,List.find?_nil]
  by_cases h1:x.size<y.size
  ·have e1:x.data.toList.drop i=[]:=List.drop_eq_nil_of_le (by simp;omega)
   have e2:∃ c l,y.data.toList.drop i=c::l:=⟨_,_,List.drop_eq_getElem_cons (by simp;omega)⟩
   obtain⟨c,l,e2⟩:=e2
   rw[e1,e2,if_pos h1]
   rfl
  ·by_cases h2:x.size>y.size
   ·have e1:y.data.toList.drop i=[]:=List.drop_eq_nil_of_le (by simp;omega)
    have e2:∃ c l,x.data.toList.drop i=c::l:=⟨_,_,List.drop_eq_getElem_cons (by simp;omega)⟩
    obtain⟨c,l,e2⟩:=e2
    rw[e1,e2,if_neg h1,if_pos h2]
    rfl
   ·have e1:x.data.toList.drop i=[]:=List.drop_eq_nil_of_le (by simp;omega)
    have e2:y.data.toList.drop i=[]:=List.drop_eq_nil_of_le (by simp;omega)
    rw[e1,e2,if_neg h1,if_neg h2]
    rfl
 |succ d ih =>
  intro i h
  have hx:i<x.size:=oM
  have hy:i<y.size:=oM
  have ex:=List.drop_eq_getElem_cons (l:=x.data.toList) (i:=i) (by simpa using hx)
  have ey:=List.drop_eq_getElem_cons (l:=y.data.toList) (i:=i) (by simpa using hy)
  rw[List.range'_succ,List.find?_cons,ex,ey]
  have gx:=get_bang hx
  have gy:=get_bang hy
  generalize x.data.toList[i]'(by simpa using hx)=a at *
  generalize y.data.toList[i]'(by simpa using hy)=b at *
  by_cases e:a=b
  ·have:(x[i]! != y[i]!)=false:=by rw[gx,gy,e];simp
   rw[this]
   have:=ih (i+1) oM
   simp only at this ⊢
   rw[this]
   simp[cmpL,ltB,e]
  ·have:(x[i]! != y[i]!)=true:=by rw[gx,gy];simpa using e
   rw[this]
   have e':¬ b=a:=fun h=>e h.symm
   simp only[cmpL,ltB,e,e',if_false,gx,gy,decide_eq_true_eq]
   have hn:a.toNat≠b.toNat:=fun h=>e (UInt8.toNat_inj.1 h)
   by_cases h1:a<b
   ·rw[if_pos h1,if_pos (UInt8.lt_iff_toNat_lt.1 h1)]
   ·have:¬ a.toNat<b.toNat:=fun h=>h1 (UInt8.lt_iff_toNat_lt.2 h)
    rw[if_neg h1,if_neg this,if_pos oM]
theorem cmp_eq(x y:ByteArray):Extern.BytealgCompare.cmp x y=cmpL x.data.toList y.data.toList:=by
 have:=cmp_from x y (min x.size y.size) 0 oM
 simp only[List.drop_zero]at this
 rw[← this]
 unfold Extern.BytealgCompare.cmp
 rw[List.range_eq_range']
 cases List.find? (fun i=>x[i]! != y[i]!) (List.range' 0 (min x.size y.size))<;>rfl
theorem extCmp(a b:ByteArray):cextern prog 281 #[.string a,.string b]=some (.int .i64 (Extern.BytealgCompare.cmp a b)):=oK
section
theorem cmpString_spec{x y:ByteArray}(h:R (.int .i64 (cmpL x.data.toList y.data.toList)) s):QC prog w0 265 #[.string x,.string y] s R:=by
 refine wfun2 hmix ok265 func265 rfl ntmps265 results265 (by simp) ?_
 simp only[↓Zd,Zp,simprocAttr,no281,extCmp,cmp_eq]
 exact h
theorem compare_spec{x y:ByteArray}(h:R (.int .i64 (cmpL x.data.toList y.data.toList)) s):QC prog w0 215 #[.string x,.string y] s R:=by
 refine wfun2 hmix ok215 func215 rfl ntmps215 results215 (by simp) ?_
 simp only[↓Zd,Zp,simprocAttr,co265]
 refine cmpString_spec ?_
 simp only[↓Zd,Zp,simprocAttr,underlying3]
 exact h
def orderN(k n:Int)(x:ByteArray)(n':Int)(x':ByteArray):Int:=if k=3 then cmpL x.data.toList x'.data.toList else if n<n' then -1 else if n' < n then 1 else 0
theorem order_spec{k n k' n':Int}{x x':ByteArray}(h:∀ s',s.le s'→R (.int .i64 (orderN k n x n' x')) s'):QC prog w0 149 #[vA k n x,vA k' n' x'] s R:=by
 refine wfun2 hmix ok149 func149 rfl ntmps149 results149 (by simp) ?_
 unfold orderN at h
 by_cases hk:k=3
 ·simp only[hk,if_true]at h
  simp only[↓Zd,Zp,Zs,simprocAttr,vA,COpsB0,hk,co215]
  refine compare_spec ?_
  simp only[↓Zd,Zp,simprocAttr,vA,COpsB0]
  exact h _ oL
 ·simp only[hk,if_false]at h
  by_cases h1:n<n'
  ·simp only[h1,if_true]at h
   simp only[↓Zd,Zp,Zs,simprocAttr,vA,COpsB0,hk,h1]
   exact h _ oL
  ·by_cases h2:n' < n
   ·simp only[h1,h2,if_true,if_false]at h
    simp only[↓Zd,Zp,Zs,simprocAttr,vA,COpsB0,hk,h1,h2]
    exact h _ oL
   ·simp only[h1,h2,if_false]at h
    simp only[↓Zd,Zp,Zs,simprocAttr,vA,COpsB0,hk,h1,h2]
    exact h _ oL
def lessB(k n:Int)(x:ByteArray)(n':Int)(x':ByteArray):Bool:=if k=2 then decide (n<n') else ltB x.data.toList x'.data.toList
def lessI(x y:ByteArray)(k:Nat)(env:Env)(s s':St M):Prop:=∃ i:Nat,k=x.size - i∧i≤x.size∧i≤y.size∧env 5 = .int .i64 i∧s'=s∧ltB (x.data.toList.drop i) (y.data.toList.drop i)=ltB x.data.toList y.data.toList
theorem less_spec{k n k' n':Int}{x x':ByteArray}(hx:x.size≤1000000)(hx':x'.size≤1000000)(h:∀ s',s.le s'→R (.bool (lessB k n x n' x')) s'):QC prog w0 252 #[vA k n x,vA k' n' x'] s R:=by
 refine wfun2 hmix ok252 func252 rfl ntmps252 results252 (by simp) ?_
 unfold lessB at h
 by_cases hk:k=2
 ·simp only[hk,if_true]at h
  simp only[↓Zd,Zp,Zs,simprocAttr,vA,COpsB0,hk]
  exact h _ oL
 ·simp only[hk,if_false]at h
  simp only[↓Zd,Zp,Zs,simprocAttr,vA,COpsB0,hk]
  obtain⟨s1,hs1⟩:∃ s1,(s.new (.cells [.int .i64 k,.int .i64 n,.string x] 31 true)).new (.cells [.int .i64 k',.int .i64 n',.string x'] 31 true)=s1:=⟨_,rfl⟩
  have hle:s.le s1:=by rw[← hs1];exact oL
  have a1:s1.at' s.next=some (.cells [.int .i64 k,.int .i64 n,.string x] 31 true):=by rw[← hs1];simp
  have a2:s1.at' (s.next+1)=some (.cells [.int .i64 k',.int .i64 n',.string x'] 31 true):=by rw[← hs1];simp
  rw[hs1]
  refine wloop_fix hmix [14,15,16,17,18,19,20,21,22,23,24,25,28,29,30,31,32,33,34,35,36,37,38,39,40,41,42,43,44,45,4,26,27,5] (fun k e s'=>lessI x x' k e s1 s') (x.size - 0) ?_ ?_
  ·exact⟨0,rfl,oM,oM,rfl,rfl,rfl⟩
  ·rintro m env s' hF ⟨i,rfl,hi,hi',e5,rfl,hlt⟩
   have e2:env 2 = .pointer (some ⟨s.next,0,none⟩):=by rw[hF 2 rfl];rfl
   have e3:env 3 = .pointer (some ⟨s.next+1,0,none⟩):=by rw[hF 3 rfl];rfl
   have h0:(0:Int)≤(i:Int):=oM
   have w7:IntKind.i64.wrap ((i:Int)+1)=((i+1:Nat):Int):=by rw[wrap_i64 oM];omega
   by_cases c1:i<x.size
   ·have c1':(i:Int)<(x.size:Int):=oM
    by_cases c2:i<x'.size
    ·have c2':(i:Int)<(x'.size:Int):=oM
     obtain⟨a,ha,da⟩:=byte_drop c1
     obtain⟨b,hb,db⟩:=byte_drop c2
     rw[da,db]at hlt
     by_cases e:a=b
     ·subst e
      simp only[↓Zd,Zp,simprocAttr,cld2,COpsB0,e2,e3,e5,a1,a2,h0,c1',c2',ha,hb,w7,ord252]
      refine⟨?_,x.size - (i+1),oM,i+1,rfl,oM,oM,rfl,rfl,?_⟩
      ·repeat (first|exact hF|refine Fix.upd (by decide) ?_)
      ·rw[← hlt,ltB,if_pos rfl]
     ·have en:¬ (a.toNat:Int)=(b.toNat:Int):=fun h=>e (UInt8.toNat_inj.1 oM)
      simp only[↓Zd,Zp,simprocAttr,cld2,COpsB0,e2,e3,e5,a1,a2,h0,c1',c2',ha,hb,en,ord252]
      have hres:ltB x.data.toList x'.data.toList=decide ((a.toNat:Int)<(b.toNat:Int)):=by
       rw[← hlt,ltB,if_neg e]
       congr 1
       rw[eq_iff_iff];omega
      rw[hres]at h
      exact h _ hle
    ·have c2':¬ (i:Int)<(x'.size:Int):=oM
     have hn:x'.data.toList.drop i=[]:=List.drop_eq_nil_of_le (by simp;omega)
     obtain⟨a,ha,da⟩:=byte_drop c1
     rw[hn,da,ltB]at hlt
     have c3:¬ (x.size:Int)<(x'.size:Int):=oM
     simp only[↓Zd,Zp,simprocAttr,cld2,COpsB0,e2,e3,e5,a1,a2,c1',c2',c3]
     rw[← hlt]at h
     exact h _ hle
   ·have c1':¬ (i:Int)<(x.size:Int):=oM
    have hn:x.data.toList.drop i=[]:=List.drop_eq_nil_of_le (by simp;omega)
    by_cases c2:i<x'.size
    ·obtain⟨b,hb,db⟩:=byte_drop c2
     rw[hn,db,ltB]at hlt
     have c3:(x.size:Int)<(x'.size:Int):=oM
     simp only[↓Zd,Zp,simprocAttr,cld2,COpsB0,e2,e3,e5,a1,a2,c1',c3]
     rw[← hlt]at h
     exact h _ hle
    ·have hn2:x'.data.toList.drop i=[]:=List.drop_eq_nil_of_le (by simp;omega)
     rw[hn,hn2,ltB]at hlt
     have c3:¬ (x.size:Int)<(x'.size:Int):=oM
     simp only[↓Zd,Zp,simprocAttr,cld2,COpsB0,e2,e3,e5,a1,a2,c1',c3]
     rw[← hlt]at h
     exact h _ hle
end
def COpsC0:=(aI (aI (aI (aI @is31 (aI @ag31 @ce31)) (aI (aI @fa31x0 @fa31x1) (aI @fa31x2 @ag3))) (aI (aI @ce3 (aI @ag9 @ce9)) (aI (aI @underlying3 @underlying4) (aI @underlying9 @underlying5)))) (aI (aI (aI @underlying38 (aI @underlying0 @be4)) (aI (aI @bn4 @bv0) (aI @bv1 @bv2))) (aI (aI (aI @bv3 @ze31) (aI @sz31 @sz3)) (aI (aI @underlying120 @underlying253) (aI @underlying75 @underlying115)))))
def COpsC1:=(aI (aI @underlying3 @underlying4) (aI @underlying9 @underlying31))
def mathN(op a b:Int):Int×Int:=if op=1 then (w63 (a+b),0) else if op=2 then (w63 (a - b),0) else if op=3 then (w63 (a*b),0) else if op=4 then (divN a b,erN b) else if op=5 then (modN a b,erN b) else (0,0)
def cmpOp(op c:Int):Bool:=if op=6 then decide (c<0) else if op=7 then decide (c≤0) else if op=8 then decide (0<c) else decide (0≤c)
def cmpI(a b:Int):Int:=if a<b then -1 else if b<a then 1 else 0
theorem cmpL_6(l m:List UInt8):decide (cmpL l m<0)=ltB l m:=by
 rcases ltB_tri l m with ⟨h1,h2,_⟩|⟨h1,h2,_⟩|⟨h1,h2,_⟩<;>simp[cmpL,h1,h2]
theorem cmpL_7(l m:List UInt8):decide (cmpL l m≤0) = !ltB m l:=by
 rcases ltB_tri l m with ⟨h1,h2,_⟩|⟨h1,h2,_⟩|⟨h1,h2,_⟩<;>simp[cmpL,h1,h2]
theorem cmpL_8(l m:List UInt8):decide (0<cmpL l m)=ltB m l:=by
 rcases ltB_tri l m with ⟨h1,h2,_⟩|⟨h1,h2,_⟩|⟨h1,h2,_⟩<;>simp[cmpL,h1,h2]
theorem cmpL_9(l m:List UInt8):decide (0≤cmpL l m) = !ltB l m:=by
 rcases ltB_tri l m with ⟨h1,h2,_⟩|⟨h1,h2,_⟩|⟨h1,h2,_⟩<;>simp[cmpL,h1,h2]
theorem cmpI_6(a b:Int):decide (cmpI a b<0)=decide (a<b):=by
 unfold cmpI;congr 1;rw[eq_iff_iff];split<;>try split
 all_goals omega
theorem cmpI_7(a b:Int):decide (cmpI a b≤0) = !decide (b<a):=by
 unfold cmpI;rw[← decide_not];congr 1;rw[eq_iff_iff];split<;>try split
 all_goals omega
theorem cmpI_8(a b:Int):decide (0<cmpI a b)=decide (b<a):=by
 unfold cmpI;congr 1;rw[eq_iff_iff];split<;>try split
 all_goals omega
theorem cmpI_9(a b:Int):decide (0≤cmpI a b) = !decide (a<b):=by
 unfold cmpI;rw[← decide_not];congr 1;rw[eq_iff_iff];split<;>try split
 all_goals omega
def binV(op k n:Int)(x:ByteArray)(k' n':Int)(x':ByteArray)(most:Int):Value:=
 if op<1∨11<op then .tuple #[vA 0 0 ⟨#[]⟩,.int .i64 2]
 else if op=10 then .tuple #[vA 1 (boolN (sameV k n x k' n' x')) ⟨#[]⟩,.int .i64 0]
 else if op=11 then .tuple #[vA 1 (boolN (!sameV k n x k' n' x')) ⟨#[]⟩,.int .i64 0]
 else if k=3∧k'=3 then
  (if op=1 then joinV x x' most else if op≤5 then .tuple #[vA 0 0 ⟨#[]⟩,.int .i64 30] else .tuple #[vA 1 (boolN (cmpOp op (cmpL x.data.toList x'.data.toList))) ⟨#[]⟩,.int .i64 0])
 else if k=2∧k'=2 then
  (if op≤5 then .tuple #[wholeV (mathN op n n').1 (mathN op n n').2,.int .i64 (mathN op n n').2] else .tuple #[vA 1 (boolN (cmpOp op (cmpI n n'))) ⟨#[]⟩,.int .i64 0])
 else .tuple #[vA 0 0 ⟨#[]⟩,.int .i64 30]
section
theorem j_normal{P:Program}{ord:Ord}{n:Nat}{c:Code}{Q:Exit→Env→St M→Prop}{J:Code→Env→St M→Prop}{env:Env}{s:St M}:wjump (P:=P) (ord:=ord) (n:=n) c Q J .normal env s=Q .normal env s:=rfl
theorem j_ret{P:Program}{ord:Ord}{n:Nat}{c:Code}{Q:Exit→Env→St M→Prop}{J:Code→Env→St M→Prop}{env:Env}{s:St M}:wjump (P:=P) (ord:=ord) (n:=n) c Q J .ret env s=Q .ret env s:=rfl
theorem j_goto{P:Program}{ord:Ord}{n:Nat}{c rest:Code}{Q:Exit→Env→St M→Prop}{J:Code→Env→St M→Prop}{env:Env}{s:St M}{l:Nat}(hf:findLabel c l=some rest)(hc:Go.Cs.codeOk P ord n rest=true)(h:J rest env s):wjump (P:=P) (ord:=ord) (n:=n) c Q J (.goto l) env s:=by
 unfold wjump
 simp only[hf]
 exact⟨hc,h⟩
theorem math_spec{op a b:Int}(ha:I64 a)(hop:1≤op∧op≤5)(h:∀ s',s.le s'→R (.tuple #[wholeV (mathN op a b).1 (mathN op a b).2,.int .i64 (mathN op a b).2]) s'):QC prog w0 148 #[.int .i64 op,.int .i64 a,.int .i64 b] s R:=by
 refine wfun2 hmix ok148 func148 rfl ntmps148 results148 (by simp) ?_
 unfold mathN wholeV vA at h
 rcases (show op=1∨op=2∨op=3∨op=4∨op=5 by omega) with rfl|rfl|rfl|rfl|rfl
 ·simp only[↓Zd,Zp,Zs,simprocAttr,COpsC0,co210]
  refine add_spec ?_
  simp only[↓Zd,Zp,simprocAttr,COpsC0,co150,addN_eq]
  refine owhole_spec fun s1 hs1=>?_
  have hl1:s.next<s1.next:=by have:=hs1.1;simp only[nN]at this;omega
  unfold vA
  simp only[↓Zd,Zp,Zs,simprocAttr,COpsC1,COpsC0,hs1.2 s.next (by first|omega|(simp only[nN];omega))]
  exact h _ oL
 ·simp only[↓Zd,Zp,Zs,simprocAttr,COpsC0,co211]
  refine sub_spec ?_
  simp only[↓Zd,Zp,simprocAttr,COpsC0,co150,subN_eq]
  refine owhole_spec fun s1 hs1=>?_
  have hl1:s.next<s1.next:=by have:=hs1.1;simp only[nN]at this;omega
  unfold vA
  simp only[↓Zd,Zp,Zs,simprocAttr,COpsC1,COpsC0,hs1.2 s.next (by first|omega|(simp only[nN];omega))]
  exact h _ oL
 ·simp only[↓Zd,Zp,Zs,simprocAttr,COpsC0,co212]
  refine mul_spec ?_
  simp only[↓Zd,Zp,simprocAttr,COpsC0,co150,mulN_eq]
  refine owhole_spec fun s1 hs1=>?_
  have hl1:s.next<s1.next:=by have:=hs1.1;simp only[nN]at this;omega
  unfold vA
  simp only[↓Zd,Zp,Zs,simprocAttr,COpsC1,COpsC0,hs1.2 s.next (by first|omega|(simp only[nN];omega))]
  exact h _ oL
 ·by_cases hb:b=0
  ·subst hb
   have e31:erN 0=31:=rfl
   simp only[↓Zd,Zp,Zs,simprocAttr,COpsC0,co213]
   refine div_spec ?_
   simp only[↓Zd,Zp,Zs,simprocAttr,COpsC0,e31]
   simp only[e31]at h
   exact h _ oL
  ·have e0:erN b=0:=by simp[erN,hb]
   simp only[↓Zd,Zp,Zs,simprocAttr,COpsC0,co213]
   refine div_spec ?_
   simp only[↓Zd,Zp,simprocAttr,COpsC0,e0,co150]
   refine owhole_spec fun s1 hs1=>?_
   have hl1:s.next<s1.next:=by have:=hs1.1;simp only[nN]at this;omega
   unfold vA
   simp only[↓Zd,Zp,Zs,simprocAttr,COpsC1,COpsC0,hs1.2 s.next (by first|omega|(simp only[nN];omega))]
   simp only[e0]at h
   exact h _ oL
 ·by_cases hb:b=0
  ·subst hb
   have e31:erN 0=31:=rfl
   simp only[↓Zd,Zp,Zs,simprocAttr,COpsC0,co214]
   refine mod_spec ?_
   simp only[↓Zd,Zp,Zs,simprocAttr,COpsC0,e31]
   simp only[e31]at h
   exact h _ oL
  ·have e0:erN b=0:=by simp[erN,hb]
   simp only[↓Zd,Zp,Zs,simprocAttr,COpsC0,co214]
   refine mod_spec ?_
   simp only[↓Zd,Zp,simprocAttr,COpsC0,e0,co150]
   refine owhole_spec fun s1 hs1=>?_
   have hl1:s.next<s1.next:=by have:=hs1.1;simp only[nN]at this;omega
   unfold vA
   simp only[↓Zd,Zp,Zs,simprocAttr,COpsC1,COpsC0,hs1.2 s.next (by first|omega|(simp only[nN];omega))]
   simp only[e0]at h
   exact h _ oL
end
def COpsE0:=(aI (aI (aI (aI @is31 (aI @ag31 @ce31)) (aI (aI @fa31x0 @fa31x1) (aI @fa31x2 @ag3))) (aI (aI @ce3 (aI @ag9 @ce9)) (aI (aI @underlying3 @underlying4) (aI @underlying9 @underlying5)))) (aI (aI (aI @underlying38 (aI @underlying0 @be4)) (aI (aI @bn4 @bv0) (aI @bv1 @bv2))) (aI (aI (aI @bv3 @ze31) (aI @sz31 @sz3)) (aI (aI @underlying120 @underlying253) (aI @underlying75 @underlying115)))))
def COpsE1:=(aI (aI @underlying3 @underlying4) (aI @underlying9 @underlying31))
def unV(op k n:Int):Value:=if op=1 then (if k=2 then .tuple #[vA 2 (w63 (0 - n)) ⟨#[]⟩,.int .i64 0] else .tuple #[vA 0 0 ⟨#[]⟩,.int .i64 30]) else if op=2 then .tuple #[vA 1 (boolN (!truthV k n)) ⟨#[]⟩,.int .i64 0] else .tuple #[vA 0 0 ⟨#[]⟩,.int .i64 2]
def lenV(k:Int)(x:ByteArray):Value:=if k=3 then .tuple #[vA 2 x.size ⟨#[]⟩,.int .i64 0] else .tuple #[vA 0 0 ⟨#[]⟩,.int .i64 30]
def textV(k n:Int)(x:ByteArray)(most:Int):Value:=if most<((showV k n x).size:Int) then .tuple #[vA 0 0 ⟨#[]⟩,.int .i64 43] else .tuple #[vA 3 0 (showV k n x),.int .i64 0]
section
theorem un_spec{op k n:Int}{x:ByteArray}(h:∀ s',s.le s'→R (unV op k n) s'):QC prog w0 186 #[.int .i64 op,vA k n x] s R:=by
 refine wfun2 hmix ok186 func186 rfl ntmps186 results186 (by simp) ?_
 rcases (show op=1∨op=2∨(¬ op=1∧¬ op=2) by omega) with rfl|rfl|⟨o1,o2⟩
 ·by_cases hk:k=2
  ·subst hk
   have hb:unV 1 2 n = .tuple #[vA 2 (w63 (0 - n)) ⟨#[]⟩,.int .i64 0]:=by simp[unV]
   rw[hb]at h
   simp only[↓Zd,Zp,Zs,simprocAttr,vA,COpsE0,co242]
   refine neg_spec ?_
   simp only[↓Zd,Zp,simprocAttr,vA,COpsE0,subN_eq,co150]
   refine owhole_spec fun s1 hs1=>?_
   have hl1:s.next+1<s1.next:=by have:=hs1.1;(try simp only[nN]at this);omega
   unfold vA at h ⊢
   simp only[↓Zd,Zp,Zs,simprocAttr,COpsE1,COpsE0,hs1.2 s.next oF,hs1.2 (s.next+1) oF]
   exact h _ oL
  ·have hb:unV 1 k n = .tuple #[vA 0 0 ⟨#[]⟩,.int .i64 30]:=by simp[unV,hk]
   rw[hb]at h
   unfold vA at h
   simp only[↓Zd,Zp,Zs,simprocAttr,vA,COpsE0,hk]
   exact h _ oL
 ·have hb:unV 2 k n = .tuple #[vA 1 (boolN (!truthV k n)) ⟨#[]⟩,.int .i64 0]:=by simp[unV]
  rw[hb]at h
  simp only[↓Zd,Zp,Zs,simprocAttr,COpsE1,vA,COpsE0,co176]
  refine truth_le fun s1 hs1=>?_
  have hl1:s.next+1<s1.next:=by have:=hs1.1;(try simp only[nN]at this);omega
  simp only[↓Zd,Zp,simprocAttr,vA,COpsE0,co145]
  refine otruth_spec fun s2 hs2=>?_
  have hl2:s.next+1<s2.next:=by have:=hs2.1;(try simp only[Sn]at this);omega
  unfold vA at h ⊢
  simp only[↓Zd,Zp,Zs,simprocAttr,COpsE1,COpsE0,hs2.2 (s.next+1) oF,hs1.2 (s.next+1) oF]
  exact h _ oL
 ·have hb:unV op k n = .tuple #[vA 0 0 ⟨#[]⟩,.int .i64 2]:=by simp[unV,o1,o2]
  rw[hb]at h
  unfold vA at h
  simp only[↓Zd,Zp,Zs,simprocAttr,vA,COpsE0,o1,o2]
  exact h _ oL
theorem run_spec{op k n:Int}{x:ByteArray}(h:∀ s',s.le s'→R (unV op k n) s'):QC prog w0 187 #[.int .i64 op,vA k n x] s R:=by
 refine wfun2 hmix ok187 func187 rfl ntmps187 results187 (by simp) ?_
 rcases (show op=1∨op=2∨(¬ op=1∧¬ op=2) by omega) with rfl|rfl|⟨o1,o2⟩
 ·by_cases hk:k=2
  ·subst hk
   have hb:unV 1 2 n = .tuple #[vA 2 (w63 (0 - n)) ⟨#[]⟩,.int .i64 0]:=by simp[unV]
   rw[hb]at h
   simp only[↓Zd,Zp,Zs,simprocAttr,vA,COpsE0,co246]
   refine rneg_spec ?_
   simp only[↓Zd,Zp,simprocAttr,vA,COpsE0,wrapR_wrap,co245]
   refine rwhole_spec fun s1 hs1=>?_
   have hl1:s.next+1<s1.next:=by have:=hs1.1;(try simp only[nN]at this);omega
   simp only[wholeV,if_true];unfold vA at h ⊢
   simp only[↓Zd,Zp,Zs,simprocAttr,COpsE0,hs1.2 s.next oF,hs1.2 (s.next+1) oF]
   exact h _ oL
  ·have hb:unV 1 k n = .tuple #[vA 0 0 ⟨#[]⟩,.int .i64 30]:=by simp[unV,hk]
   rw[hb]at h
   unfold vA at h
   simp only[↓Zd,Zp,Zs,simprocAttr,vA,COpsE0,hk]
   exact h _ oL
 ·have hb:unV 2 k n = .tuple #[vA 1 (boolN (!truthV k n)) ⟨#[]⟩,.int .i64 0]:=by simp[unV]
  rw[hb]at h
  simp only[↓Zd,Zp,Zs,simprocAttr,COpsE1,vA,COpsE0,co244]
  refine rtruth_le fun s1 hs1=>?_
  have hl1:s.next+1<s1.next:=by have:=hs1.1;(try simp only[nN]at this);omega
  simp only[↓Zd,Zp,simprocAttr,vA,COpsE0,co243]
  refine rtruthB_spec fun s2 hs2=>?_
  have hl2:s.next+1<s2.next:=by have:=hs2.1;(try simp only[Sn]at this);omega
  unfold vA at h ⊢
  simp only[↓Zd,Zp,Zs,simprocAttr,COpsE1,COpsE0,hs2.2 (s.next+1) oF,hs1.2 (s.next+1) oF]
  exact h _ oL
 ·have hb:unV op k n = .tuple #[vA 0 0 ⟨#[]⟩,.int .i64 2]:=by simp[unV,o1,o2]
  rw[hb]at h
  unfold vA at h
  simp only[↓Zd,Zp,Zs,simprocAttr,vA,COpsE0,o1,o2]
  exact h _ oL
theorem len_spec{k n:Int}{x:ByteArray}(h:∀ s',s.le s'→R (lenV k x) s'):QC prog w0 68 #[vA k n x] s R:=by
 refine wfun2 hmix ok68 func68 rfl ntmps68 results68 (by simp) ?_
 by_cases hk:k=3
 ·subst hk
  have hb:lenV 3 x = .tuple #[vA 2 x.size ⟨#[]⟩,.int .i64 0]:=by simp[lenV]
  rw[hb]at h
  simp only[↓Zd,Zp,Zs,simprocAttr,vA,COpsE0,co150]
  refine owhole_spec fun s1 hs1=>?_
  have hl1:s.next+1<s1.next:=by have:=hs1.1;(try simp only[nN]at this);omega
  unfold vA at h ⊢
  simp only[↓Zd,Zp,Zs,simprocAttr,COpsE1,COpsE0,hs1.2 s.next oF,hs1.2 (s.next+1) oF]
  exact h _ oL
 ·have hb:lenV k x = .tuple #[vA 0 0 ⟨#[]⟩,.int .i64 30]:=by simp[lenV,hk]
  rw[hb]at h
  unfold vA at h
  simp only[↓Zd,Zp,Zs,simprocAttr,vA,COpsE0,hk]
  exact h _ oL
theorem rlen_spec{k n:Int}{x:ByteArray}(h:∀ s',s.le s'→R (lenV k x) s'):QC prog w0 189 #[vA k n x] s R:=by
 refine wfun2 hmix ok189 func189 rfl ntmps189 results189 (by simp) ?_
 by_cases hk:k=3
 ·subst hk
  have hb:lenV 3 x = .tuple #[vA 2 x.size ⟨#[]⟩,.int .i64 0]:=by simp[lenV]
  rw[hb]at h
  simp only[↓Zd,Zp,Zs,simprocAttr,vA,COpsE0,co245]
  refine rwhole_spec fun s1 hs1=>?_
  have hl1:s.next+1<s1.next:=by have:=hs1.1;(try simp only[nN]at this);omega
  simp only[wholeV,if_true];unfold vA at h ⊢
  simp only[↓Zd,Zp,Zs,simprocAttr,COpsE0,hs1.2 s.next oF,hs1.2 (s.next+1) oF]
  exact h _ oL
 ·have hb:lenV k x = .tuple #[vA 0 0 ⟨#[]⟩,.int .i64 30]:=by simp[lenV,hk]
  rw[hb]at h
  unfold vA at h
  simp only[↓Zd,Zp,Zs,simprocAttr,vA,COpsE0,hk]
  exact h _ oL
theorem otext_spec{k n most:Int}{x:ByteArray}(hn : -9223372036854775808≤n∧n≤9223372036854775807)(h:∀ s',s.le s'→R (textV k n x most) s'):QC prog w0 69 #[vA k n x,.int .i64 most] s R:=by
 refine wfun2 hmix ok69 func69 rfl ntmps69 results69 (by simp) ?_
 simp only[↓Zd,Zp,Zs,simprocAttr,COpsE1,vA,COpsE0,co61]
 refine show_spec hn fun s1 hs1=>?_
 have hl1:s.next+1<s1.next:=by have:=hs1.1;(try simp only[nN]at this);omega
 unfold textV at h
 by_cases hj:most<((showV k n x).size:Int)
 ·rw[if_pos hj]at h
  unfold vA at h
  simp only[↓Zd,Zp,Zs,simprocAttr,vA,COpsE0,hj,hs1.2 s.next oF,hs1.2 (s.next+1) oF]
  exact h _ oL
 ·rw[if_neg hj]at h
  unfold vA at h
  simp only[↓Zd,Zp,Zs,simprocAttr,vA,COpsE0,hj,hs1.2 s.next oF,hs1.2 (s.next+1) oF]
  exact h _ oL
theorem rtext_spec{k n most:Int}{x:ByteArray}(hn : -9223372036854775808≤n∧n≤9223372036854775807)(h:∀ s',s.le s'→R (textV k n x most) s'):QC prog w0 190 #[vA k n x,.int .i64 most] s R:=by
 refine wfun2 hmix ok190 func190 rfl ntmps190 results190 (by simp) ?_
 simp only[↓Zd,Zp,Zs,simprocAttr,COpsE1,vA,COpsE0,co195]
 refine rShow_spec hn fun s1 hs1=>?_
 have hl1:s.next+1<s1.next:=by have:=hs1.1;(try simp only[nN]at this);omega
 unfold textV at h
 by_cases hj:most<((showV k n x).size:Int)
 ·rw[if_pos hj]at h
  unfold vA at h
  simp only[↓Zd,Zp,Zs,simprocAttr,vA,COpsE0,hj,hs1.2 s.next oF,hs1.2 (s.next+1) oF]
  exact h _ oL
 ·rw[if_neg hj]at h
  unfold vA at h
  simp only[↓Zd,Zp,Zs,simprocAttr,vA,COpsE0,hj,hs1.2 s.next oF,hs1.2 (s.next+1) oF]
  exact h _ oL
end
theorem keep3OpsK1{M:Type}[Mem M]{s s1:St M}{n:Nat}(h:s.le s1)(hn:n+2<s.next):s1.at' n=s.at' n∧s1.at' (n+1)=s.at' (n+1)∧s1.at' (n+2)=s.at' (n+2):=⟨h.2 _ oM,h.2 _ oM,h.2 _ oM⟩
def COpsK10:=(aI (aI (aI (aI @is31 (aI @ag31 @ce31)) (aI (aI @fa31x0 @fa31x1) (aI @fa31x2 @ag3))) (aI (aI @ce3 (aI @ag9 @ce9)) (aI (aI @underlying3 @underlying4) (aI @underlying9 @underlying5)))) (aI (aI (aI @underlying38 (aI @underlying0 @be4)) (aI (aI @bn4 @bv0) (aI @bv1 @bv2))) (aI (aI (aI @bv3 @ze31) (aI @sz31 @sz3)) (aI (aI @underlying120 @underlying253) (aI @underlying75 @underlying115)))))
def COpsK11:=(aI (aI @underlying3 @underlying4) (aI @underlying9 @underlying31))
section
theorem bin_K1{op k n k' n':Int}{x x':ByteArray}{most:Int}(hn:I64 n)(hm : -1≤most∧most≤9223372036854775807)(hx:True)(hx':True)(h:∀ s',s.le s'→R (binV op 2 n x 2 n' x' most) s') :
  QC prog w0 66 #[.int .i64 op,vA 2 n x,vA 2 n' x',.int .i64 most] s R:=by
 refine wfun2 hmix ok66 func66 rfl ntmps66 results66 (by simp) ?_
 simp only[↓Zd,Zp,Zs,simprocAttr,vA,COpsK10]
 refine wscope_piece hmix ?_
 simp only[↓Zd,Zp,simprocAttr,cld2,COpsK10,ord66]
 rcases (show (op<1)∨(11<op)∨(op=10)∨(op=11)∨(op=1)∨(2≤op∧op≤5)∨(op=6)∨(op=7)∨(op=8)∨(op=9) by omega) with o1|o1|rfl|rfl|rfl|⟨o2,o5⟩|rfl|rfl|rfl|rfl
 ·have hb:binV op 2 n x 2 n' x' most = .tuple #[vA 0 0 ⟨#[]⟩,.int .i64 2]:=by simp[binV,o1]
  rw[hb]at h
  unfold vA at h
  simp only[↓Zd,Zp,Zs,simprocAttr,COpsK10,j_ret,o1]
  exact h _ oL
 ·have o0:¬ op<1:=oM
  have hb:binV op 2 n x 2 n' x' most = .tuple #[vA 0 0 ⟨#[]⟩,.int .i64 2]:=by simp[binV,o0,o1]
  rw[hb]at h
  unfold vA at h
  simp only[↓Zd,Zp,Zs,simprocAttr,COpsK10,j_ret,o0,o1]
  exact h _ oL
 ·have hb:binV 10 2 n x 2 n' x' most = .tuple #[vA 1 (boolN (sameV 2 n x 2 n' x')) ⟨#[]⟩,.int .i64 0]:=by simp[binV]
  rw[hb]at h
  simp only[↓Zd,Zp,Zs,simprocAttr,COpsK11,COpsK10,co146]
  refine same_le fun s1 hs1=>?_
  have hl1:s.next+2<s1.next:=by have:=hs1.1;(try simp only[nN]at this);omega
  simp only[↓Zd,Zp,simprocAttr,COpsK10,co145]
  refine otruth_spec fun s2 hs2=>?_
  have hl2:s.next+2<s2.next:=by have:=hs2.1;(try simp only[Sn]at this);omega
  unfold vA at h ⊢
  simp only[↓Zd,Zp,Zs,simprocAttr,COpsK11,COpsK10,j_ret,keep3OpsK1 (n:=s.next) hs2 oF,keep3OpsK1 (n:=s.next) hs1 (by first|omega|(simp only[nN];omega))]
  exact h _ oL
 ·have hb:binV 11 2 n x 2 n' x' most = .tuple #[vA 1 (boolN (!sameV 2 n x 2 n' x')) ⟨#[]⟩,.int .i64 0]:=by simp[binV]
  rw[hb]at h
  simp only[↓Zd,Zp,Zs,simprocAttr,COpsK11,COpsK10,co146]
  refine same_le fun s1 hs1=>?_
  have hl1:s.next+2<s1.next:=by have:=hs1.1;(try simp only[nN]at this);omega
  simp only[↓Zd,Zp,simprocAttr,COpsK10,co145]
  refine otruth_spec fun s2 hs2=>?_
  have hl2:s.next+2<s2.next:=by have:=hs2.1;(try simp only[Sn]at this);omega
  unfold vA at h ⊢
  simp only[↓Zd,Zp,Zs,simprocAttr,COpsK11,COpsK10,j_ret,keep3OpsK1 (n:=s.next) hs2 oF,keep3OpsK1 (n:=s.next) hs1 (by first|omega|(simp only[nN];omega))]
  exact h _ oL
 ·have hb:binV 1 2 n x 2 n' x' most = .tuple #[wholeV (mathN 1 n n').1 (mathN 1 n n').2,.int .i64 (mathN 1 n n').2]:=by simp[binV]
  rw[hb]at h
  simp only[↓Zd,Zp,simprocAttr,cld2,COpsK10,co148]
  refine math_spec hn oM fun s1 hs1=>?_
  have hl1:s.next+2<s1.next:=by have:=hs1.1;(try simp only[nN]at this);omega
  generalize (mathN 1 n n').2=e at h ⊢
  generalize (mathN 1 n n').1=v at h ⊢
  by_cases he:e=0
  ·subst he
   simp only[wholeV,if_true,vA]at h ⊢
   simp only[↓Zd,Zp,Zs,simprocAttr,COpsK10,j_ret,keep3OpsK1 (n:=s.next) hs1 (by first|omega|(simp only[nN];omega))]
   exact h _ oL
  ·simp only[wholeV,he,if_false,vA]at h ⊢
   simp only[↓Zd,Zp,Zs,simprocAttr,COpsK10,j_ret,keep3OpsK1 (n:=s.next) hs1 (by first|omega|(simp only[nN];omega))]
   exact h _ oL
 ·have o0:¬ op<1:=oM
  have o1:¬ 11<op:=oM
  have oa:¬ op=10:=oM
  have ob:¬ op=11:=oM
  have oc:¬ op=1:=oM
  have hb:binV op 2 n x 2 n' x' most = .tuple #[wholeV (mathN op n n').1 (mathN op n n').2,.int .i64 (mathN op n n').2]:=by simp[binV,o0,o1,oa,ob,o5]
  rw[hb]at h
  simp only[↓Zd,Zp,simprocAttr,cld2,COpsK10,o0,o1,oa,ob,oc,o5,co148]
  refine math_spec hn oM fun s1 hs1=>?_
  have hl1:s.next+2<s1.next:=by have:=hs1.1;(try simp only[nN]at this);omega
  generalize (mathN op n n').2=e at h ⊢
  generalize (mathN op n n').1=v at h ⊢
  by_cases he:e=0
  ·subst he
   simp only[wholeV,if_true,vA]at h ⊢
   simp only[↓Zd,Zp,Zs,simprocAttr,COpsK10,j_ret,keep3OpsK1 (n:=s.next) hs1 (by first|omega|(simp only[nN];omega))]
   exact h _ oL
  ·simp only[wholeV,he,if_false,vA]at h ⊢
   simp only[↓Zd,Zp,Zs,simprocAttr,COpsK10,j_ret,keep3OpsK1 (n:=s.next) hs1 (by first|omega|(simp only[nN];omega))]
   exact h _ oL
 ·have hb:binV 6 2 n x 2 n' x' most = .tuple #[vA 1 (boolN (decide (cmpI n n' < 0))) ⟨#[]⟩,.int .i64 0]:=by simp[binV,cmpOp]
  rw[hb]at h
  simp only[↓Zd,Zp,Zs,simprocAttr,COpsK11,COpsK10,co149]
  refine order_spec fun s1 hs1=>?_
  have hl1:s.next+2<s1.next:=by have:=hs1.1;(try simp only[nN]at this);omega
  have ho:orderN 2 n x n' x'=cmpI n n':=by simp[orderN,cmpI]
  rw[ho]
  simp only[↓Zd,Zp,simprocAttr,COpsK10]
  refine j_goto rfl oK ?_
  refine wscope_piece hmix ?_
  simp only[↓Zd,Zp,simprocAttr,co145]
  refine otruth_spec fun s2 hs2=>?_
  have hl2:s.next+2<s2.next:=by have:=hs2.1;(try simp only[Sn]at this);omega
  unfold vA at h ⊢
  simp only[↓Zd,Zp,Zs,simprocAttr,COpsK11,COpsK10,j_ret,keep3OpsK1 (n:=s.next) hs2 oF,keep3OpsK1 (n:=s.next) hs1 (by first|omega|(simp only[nN];omega))]
  exact h _ oL
 ·have hb:binV 7 2 n x 2 n' x' most = .tuple #[vA 1 (boolN (decide (cmpI n n'≤0))) ⟨#[]⟩,.int .i64 0]:=by simp[binV,cmpOp]
  rw[hb]at h
  simp only[↓Zd,Zp,Zs,simprocAttr,COpsK11,COpsK10,co149]
  refine order_spec fun s1 hs1=>?_
  have hl1:s.next+2<s1.next:=by have:=hs1.1;(try simp only[nN]at this);omega
  have ho:orderN 2 n x n' x'=cmpI n n':=by simp[orderN,cmpI]
  rw[ho]
  simp only[↓Zd,Zp,simprocAttr,COpsK10]
  refine j_goto rfl oK ?_
  refine wscope_piece hmix ?_
  simp only[↓Zd,Zp,simprocAttr,co145]
  refine otruth_spec fun s2 hs2=>?_
  have hl2:s.next+2<s2.next:=by have:=hs2.1;(try simp only[Sn]at this);omega
  unfold vA at h ⊢
  simp only[↓Zd,Zp,Zs,simprocAttr,COpsK11,COpsK10,j_ret,keep3OpsK1 (n:=s.next) hs2 oF,keep3OpsK1 (n:=s.next) hs1 (by first|omega|(simp only[nN];omega))]
  exact h _ oL
 ·have hb:binV 8 2 n x 2 n' x' most = .tuple #[vA 1 (boolN (decide (0<cmpI n n'))) ⟨#[]⟩,.int .i64 0]:=by simp[binV,cmpOp]
  rw[hb]at h
  simp only[↓Zd,Zp,Zs,simprocAttr,COpsK11,COpsK10,co149]
  refine order_spec fun s1 hs1=>?_
  have hl1:s.next+2<s1.next:=by have:=hs1.1;(try simp only[nN]at this);omega
  have ho:orderN 2 n x n' x'=cmpI n n':=by simp[orderN,cmpI]
  rw[ho]
  simp only[↓Zd,Zp,simprocAttr,COpsK10]
  refine j_goto rfl oK ?_
  refine wscope_piece hmix ?_
  simp only[↓Zd,Zp,simprocAttr,co145]
  refine otruth_spec fun s2 hs2=>?_
  have hl2:s.next+2<s2.next:=by have:=hs2.1;(try simp only[Sn]at this);omega
  unfold vA at h ⊢
  simp only[↓Zd,Zp,Zs,simprocAttr,COpsK11,COpsK10,j_ret,keep3OpsK1 (n:=s.next) hs2 oF,keep3OpsK1 (n:=s.next) hs1 (by first|omega|(simp only[nN];omega))]
  exact h _ oL
 ·have hb:binV 9 2 n x 2 n' x' most = .tuple #[vA 1 (boolN (decide (0≤cmpI n n'))) ⟨#[]⟩,.int .i64 0]:=by simp[binV,cmpOp]
  rw[hb]at h
  simp only[↓Zd,Zp,Zs,simprocAttr,COpsK11,COpsK10,co149]
  refine order_spec fun s1 hs1=>?_
  have hl1:s.next+2<s1.next:=by have:=hs1.1;(try simp only[nN]at this);omega
  have ho:orderN 2 n x n' x'=cmpI n n':=by simp[orderN,cmpI]
  rw[ho]
  simp only[↓Zd,Zp,simprocAttr,COpsK10,co145]
  refine otruth_spec fun s2 hs2=>?_
  have hl2:s.next+2<s2.next:=by have:=hs2.1;(try simp only[Sn]at this);omega
  unfold vA at h ⊢
  simp only[↓Zd,Zp,Zs,simprocAttr,COpsK11,COpsK10,j_ret,keep3OpsK1 (n:=s.next) hs2 oF,keep3OpsK1 (n:=s.next) hs1 (by first|omega|(simp only[nN];omega))]
  exact h _ oL
end
theorem keep3OpsK2{M:Type}[Mem M]{s s1:St M}{n:Nat}(h:s.le s1)(hn:n+2<s.next):s1.at' n=s.at' n∧s1.at' (n+1)=s.at' (n+1)∧s1.at' (n+2)=s.at' (n+2):=⟨h.2 _ oM,h.2 _ oM,h.2 _ oM⟩
def COpsK20:=(aI (aI (aI (aI @is31 (aI @ag31 @ce31)) (aI (aI @fa31x0 @fa31x1) (aI @fa31x2 @ag3))) (aI (aI @ce3 (aI @ag9 @ce9)) (aI (aI @underlying3 @underlying4) (aI @underlying9 @underlying5)))) (aI (aI (aI @underlying38 (aI @underlying0 @be4)) (aI (aI @bn4 @bv0) (aI @bv1 @bv2))) (aI (aI (aI @bv3 @ze31) (aI @sz31 @sz3)) (aI (aI @underlying120 @underlying253) (aI @underlying75 @underlying115)))))
def COpsK21:=(aI (aI @underlying3 @underlying4) (aI @underlying9 @underlying31))
section
theorem bin_K2{op k n k' n':Int}{x x':ByteArray}{most:Int}(hn:I64 n)(hm : -1≤most∧most≤9223372036854775807)(hx:True)(hx':True)(k2:¬ k'=2)(h:∀ s',s.le s'→R (binV op 2 n x k' n' x' most) s') :
  QC prog w0 66 #[.int .i64 op,vA 2 n x,vA k' n' x',.int .i64 most] s R:=by
 refine wfun2 hmix ok66 func66 rfl ntmps66 results66 (by simp) ?_
 simp only[↓Zd,Zp,Zs,simprocAttr,vA,COpsK20]
 refine wscope_piece hmix ?_
 simp only[↓Zd,Zp,simprocAttr,cld2,COpsK20,ord66,k2]
 rcases (show (op<1)∨(11<op)∨(op=10)∨(op=11)∨(op=1)∨(2≤op∧op≤5)∨(op=6)∨(op=7)∨(op=8)∨(op=9) by omega) with o1|o1|rfl|rfl|rfl|⟨o2,o5⟩|rfl|rfl|rfl|rfl
 ·have hb:binV op 2 n x k' n' x' most = .tuple #[vA 0 0 ⟨#[]⟩,.int .i64 2]:=by simp[binV,o1]
  rw[hb]at h
  unfold vA at h
  simp only[↓Zd,Zp,Zs,simprocAttr,COpsK20,j_ret,o1]
  exact h _ oL
 ·have o0:¬ op<1:=oM
  have hb:binV op 2 n x k' n' x' most = .tuple #[vA 0 0 ⟨#[]⟩,.int .i64 2]:=by simp[binV,o0,o1]
  rw[hb]at h
  unfold vA at h
  simp only[↓Zd,Zp,Zs,simprocAttr,COpsK20,j_ret,o0,o1]
  exact h _ oL
 ·have hb:binV 10 2 n x k' n' x' most = .tuple #[vA 1 (boolN (sameV 2 n x k' n' x')) ⟨#[]⟩,.int .i64 0]:=by simp[binV]
  rw[hb]at h
  simp only[↓Zd,Zp,Zs,simprocAttr,COpsK21,COpsK20,co146]
  refine same_le fun s1 hs1=>?_
  have hl1:s.next+2<s1.next:=by have:=hs1.1;(try simp only[nN]at this);omega
  simp only[↓Zd,Zp,simprocAttr,COpsK20,co145]
  refine otruth_spec fun s2 hs2=>?_
  have hl2:s.next+2<s2.next:=by have:=hs2.1;(try simp only[Sn]at this);omega
  unfold vA at h ⊢
  simp only[↓Zd,Zp,Zs,simprocAttr,COpsK21,COpsK20,j_ret,keep3OpsK2 (n:=s.next) hs2 oF,keep3OpsK2 (n:=s.next) hs1 (by first|omega|(simp only[nN];omega))]
  exact h _ oL
 ·have hb:binV 11 2 n x k' n' x' most = .tuple #[vA 1 (boolN (!sameV 2 n x k' n' x')) ⟨#[]⟩,.int .i64 0]:=by simp[binV]
  rw[hb]at h
  simp only[↓Zd,Zp,Zs,simprocAttr,COpsK21,COpsK20,co146]
  refine same_le fun s1 hs1=>?_
  have hl1:s.next+2<s1.next:=by have:=hs1.1;(try simp only[nN]at this);omega
  simp only[↓Zd,Zp,simprocAttr,COpsK20,co145]
  refine otruth_spec fun s2 hs2=>?_
  have hl2:s.next+2<s2.next:=by have:=hs2.1;(try simp only[Sn]at this);omega
  unfold vA at h ⊢
  simp only[↓Zd,Zp,Zs,simprocAttr,COpsK21,COpsK20,j_ret,keep3OpsK2 (n:=s.next) hs2 oF,keep3OpsK2 (n:=s.next) hs1 (by first|omega|(simp only[nN];omega))]
  exact h _ oL
 ·have hb:binV 1 2 n x k' n' x' most = .tuple #[vA 0 0 ⟨#[]⟩,.int .i64 30]:=by simp[binV,k2]
  rw[hb]at h
  unfold vA at h
  simp only[↓Zd,Zp,Zs,simprocAttr,COpsK20,j_ret]
  exact h _ oL
 ·have o0:¬ op<1:=oM
  have o1:¬ 11<op:=oM
  have oa:¬ op=10:=oM
  have ob:¬ op=11:=oM
  have oc:¬ op=1:=oM
  have hb:binV op 2 n x k' n' x' most = .tuple #[vA 0 0 ⟨#[]⟩,.int .i64 30]:=by simp[binV,o0,o1,oa,ob,k2]
  rw[hb]at h
  unfold vA at h
  simp only[↓Zd,Zp,Zs,simprocAttr,COpsK20,j_ret,o0,o1,oa,ob,oc,o5]
  exact h _ oL
 ·have hb:binV 6 2 n x k' n' x' most = .tuple #[vA 0 0 ⟨#[]⟩,.int .i64 30]:=by simp[binV,k2]
  rw[hb]at h
  unfold vA at h
  simp only[↓Zd,Zp,Zs,simprocAttr,COpsK20,j_ret]
  exact h _ oL
 ·have hb:binV 7 2 n x k' n' x' most = .tuple #[vA 0 0 ⟨#[]⟩,.int .i64 30]:=by simp[binV,k2]
  rw[hb]at h
  unfold vA at h
  simp only[↓Zd,Zp,Zs,simprocAttr,COpsK20,j_ret]
  exact h _ oL
 ·have hb:binV 8 2 n x k' n' x' most = .tuple #[vA 0 0 ⟨#[]⟩,.int .i64 30]:=by simp[binV,k2]
  rw[hb]at h
  unfold vA at h
  simp only[↓Zd,Zp,Zs,simprocAttr,COpsK20,j_ret]
  exact h _ oL
 ·have hb:binV 9 2 n x k' n' x' most = .tuple #[vA 0 0 ⟨#[]⟩,.int .i64 30]:=by simp[binV,k2]
  rw[hb]at h
  unfold vA at h
  simp only[↓Zd,Zp,Zs,simprocAttr,COpsK20,j_ret]
  exact h _ oL
end
theorem keep3OpsK3{M:Type}[Mem M]{s s1:St M}{n:Nat}(h:s.le s1)(hn:n+2<s.next):s1.at' n=s.at' n∧s1.at' (n+1)=s.at' (n+1)∧s1.at' (n+2)=s.at' (n+2):=⟨h.2 _ oM,h.2 _ oM,h.2 _ oM⟩
def COpsK30:=(aI (aI (aI (aI @is31 (aI @ag31 @ce31)) (aI (aI @fa31x0 @fa31x1) (aI @fa31x2 @ag3))) (aI (aI @ce3 (aI @ag9 @ce9)) (aI (aI @underlying3 @underlying4) (aI @underlying9 @underlying5)))) (aI (aI (aI @underlying38 (aI @underlying0 @be4)) (aI (aI @bn4 @bv0) (aI @bv1 @bv2))) (aI (aI (aI @bv3 @ze31) (aI @sz31 @sz3)) (aI (aI @underlying120 @underlying253) (aI @underlying75 @underlying115)))))
def COpsK31:=(aI (aI @underlying3 @underlying4) (aI @underlying9 @underlying31))
section
theorem bin_K3{op k n k' n':Int}{x x':ByteArray}{most:Int}(hn:I64 n)(hm : -1≤most∧most≤9223372036854775807)(hx:True)(hx':True)(h:∀ s',s.le s'→R (binV op 3 n x 3 n' x' most) s') :
  QC prog w0 66 #[.int .i64 op,vA 3 n x,vA 3 n' x',.int .i64 most] s R:=by
 refine wfun2 hmix ok66 func66 rfl ntmps66 results66 (by simp) ?_
 simp only[↓Zd,Zp,Zs,simprocAttr,vA,COpsK30]
 refine wscope_piece hmix ?_
 simp only[↓Zd,Zp,simprocAttr,cld2,COpsK30,ord66]
 rcases (show (op<1)∨(11<op)∨(op=10)∨(op=11)∨(op=1)∨(2≤op∧op≤5)∨(op=6)∨(op=7)∨(op=8)∨(op=9) by omega) with o1|o1|rfl|rfl|rfl|⟨o2,o5⟩|rfl|rfl|rfl|rfl
 ·have hb:binV op 3 n x 3 n' x' most = .tuple #[vA 0 0 ⟨#[]⟩,.int .i64 2]:=by simp[binV,o1]
  rw[hb]at h
  unfold vA at h
  simp only[↓Zd,Zp,Zs,simprocAttr,COpsK30,j_ret,o1]
  exact h _ oL
 ·have o0:¬ op<1:=oM
  have hb:binV op 3 n x 3 n' x' most = .tuple #[vA 0 0 ⟨#[]⟩,.int .i64 2]:=by simp[binV,o0,o1]
  rw[hb]at h
  unfold vA at h
  simp only[↓Zd,Zp,Zs,simprocAttr,COpsK30,j_ret,o0,o1]
  exact h _ oL
 ·have hb:binV 10 3 n x 3 n' x' most = .tuple #[vA 1 (boolN (sameV 3 n x 3 n' x')) ⟨#[]⟩,.int .i64 0]:=by simp[binV]
  rw[hb]at h
  simp only[↓Zd,Zp,Zs,simprocAttr,COpsK31,COpsK30,co146]
  refine same_le fun s1 hs1=>?_
  have hl1:s.next+2<s1.next:=by have:=hs1.1;(try simp only[nN]at this);omega
  simp only[↓Zd,Zp,simprocAttr,COpsK30,co145]
  refine otruth_spec fun s2 hs2=>?_
  have hl2:s.next+2<s2.next:=by have:=hs2.1;(try simp only[Sn]at this);omega
  unfold vA at h ⊢
  simp only[↓Zd,Zp,Zs,simprocAttr,COpsK31,COpsK30,j_ret,keep3OpsK3 (n:=s.next) hs2 oF,keep3OpsK3 (n:=s.next) hs1 (by first|omega|(simp only[nN];omega))]
  exact h _ oL
 ·have hb:binV 11 3 n x 3 n' x' most = .tuple #[vA 1 (boolN (!sameV 3 n x 3 n' x')) ⟨#[]⟩,.int .i64 0]:=by simp[binV]
  rw[hb]at h
  simp only[↓Zd,Zp,Zs,simprocAttr,COpsK31,COpsK30,co146]
  refine same_le fun s1 hs1=>?_
  have hl1:s.next+2<s1.next:=by have:=hs1.1;(try simp only[nN]at this);omega
  simp only[↓Zd,Zp,simprocAttr,COpsK30,co145]
  refine otruth_spec fun s2 hs2=>?_
  have hl2:s.next+2<s2.next:=by have:=hs2.1;(try simp only[Sn]at this);omega
  unfold vA at h ⊢
  simp only[↓Zd,Zp,Zs,simprocAttr,COpsK31,COpsK30,j_ret,keep3OpsK3 (n:=s.next) hs2 oF,keep3OpsK3 (n:=s.next) hs1 (by first|omega|(simp only[nN];omega))]
  exact h _ oL
 ·have hb:binV 1 3 n x 3 n' x' most=joinV x x' most:=by simp[binV]
  rw[hb]at h
  simp only[↓Zd,Zp,simprocAttr,cld2,COpsK30,co147]
  refine join_spec hm hx hx' fun s1 hs1=>?_
  have hl1:s.next+2<s1.next:=by have:=hs1.1;(try simp only[nN]at this);omega
  by_cases hj:(x.size:Int)+x'.size>most
  ·have e:joinV x x' most = .tuple #[vA 0 0 ⟨#[]⟩,.int .i64 43]:=by unfold joinV;rw[if_pos hj]
   rw[e]at h ⊢
   unfold vA at h ⊢
   simp only[↓Zd,Zp,Zs,simprocAttr,COpsK30,j_ret,keep3OpsK3 (n:=s.next) hs1 (by first|omega|(simp only[nN];omega))]
   exact h _ oL
  ·have e:joinV x x' most = .tuple #[vA 3 0 (x++x'),.int .i64 0]:=by unfold joinV;rw[if_neg hj]
   rw[e]at h ⊢
   unfold vA at h ⊢
   simp only[↓Zd,Zp,Zs,simprocAttr,COpsK30,j_ret,keep3OpsK3 (n:=s.next) hs1 (by first|omega|(simp only[nN];omega))]
   exact h _ oL
 ·have o0:¬ op<1:=oM
  have o1:¬ 11<op:=oM
  have oa:¬ op=10:=oM
  have ob:¬ op=11:=oM
  have oc:¬ op=1:=oM
  have hb:binV op 3 n x 3 n' x' most = .tuple #[vA 0 0 ⟨#[]⟩,.int .i64 30]:=by simp[binV,o0,o1,oa,ob,oc,o5]
  rw[hb]at h
  unfold vA at h
  simp only[↓Zd,Zp,Zs,simprocAttr,COpsK30,j_ret,o0,o1,oa,ob,oc,o5]
  exact h _ oL
 ·have hb:binV 6 3 n x 3 n' x' most = .tuple #[vA 1 (boolN (decide (cmpL x.data.toList x'.data.toList<0))) ⟨#[]⟩,.int .i64 0]:=by simp[binV,cmpOp]
  rw[hb]at h
  simp only[↓Zd,Zp,Zs,simprocAttr,COpsK31,COpsK30,co149]
  refine order_spec fun s1 hs1=>?_
  have hl1:s.next+2<s1.next:=by have:=hs1.1;(try simp only[nN]at this);omega
  have ho:orderN 3 n x n' x'=cmpL x.data.toList x'.data.toList:=rfl
  rw[ho]
  simp only[↓Zd,Zp,simprocAttr,COpsK30]
  refine j_goto rfl oK ?_
  refine wscope_piece hmix ?_
  simp only[↓Zd,Zp,simprocAttr,co145]
  refine otruth_spec fun s2 hs2=>?_
  have hl2:s.next+2<s2.next:=by have:=hs2.1;(try simp only[Sn]at this);omega
  unfold vA at h ⊢
  simp only[↓Zd,Zp,Zs,simprocAttr,COpsK31,COpsK30,j_ret,keep3OpsK3 (n:=s.next) hs2 oF,keep3OpsK3 (n:=s.next) hs1 (by first|omega|(simp only[nN];omega))]
  exact h _ oL
 ·have hb:binV 7 3 n x 3 n' x' most = .tuple #[vA 1 (boolN (decide (cmpL x.data.toList x'.data.toList≤0))) ⟨#[]⟩,.int .i64 0]:=by simp[binV,cmpOp]
  rw[hb]at h
  simp only[↓Zd,Zp,Zs,simprocAttr,COpsK31,COpsK30,co149]
  refine order_spec fun s1 hs1=>?_
  have hl1:s.next+2<s1.next:=by have:=hs1.1;(try simp only[nN]at this);omega
  have ho:orderN 3 n x n' x'=cmpL x.data.toList x'.data.toList:=rfl
  rw[ho]
  simp only[↓Zd,Zp,simprocAttr,COpsK30]
  refine j_goto rfl oK ?_
  refine wscope_piece hmix ?_
  simp only[↓Zd,Zp,simprocAttr,co145]
  refine otruth_spec fun s2 hs2=>?_
  have hl2:s.next+2<s2.next:=by have:=hs2.1;(try simp only[Sn]at this);omega
  unfold vA at h ⊢
  simp only[↓Zd,Zp,Zs,simprocAttr,COpsK31,COpsK30,j_ret,keep3OpsK3 (n:=s.next) hs2 oF,keep3OpsK3 (n:=s.next) hs1 (by first|omega|(simp only[nN];omega))]
  exact h _ oL
 ·have hb:binV 8 3 n x 3 n' x' most = .tuple #[vA 1 (boolN (decide (0<cmpL x.data.toList x'.data.toList))) ⟨#[]⟩,.int .i64 0]:=by simp[binV,cmpOp]
  rw[hb]at h
  simp only[↓Zd,Zp,Zs,simprocAttr,COpsK31,COpsK30,co149]
  refine order_spec fun s1 hs1=>?_
  have hl1:s.next+2<s1.next:=by have:=hs1.1;(try simp only[nN]at this);omega
  have ho:orderN 3 n x n' x'=cmpL x.data.toList x'.data.toList:=rfl
  rw[ho]
  simp only[↓Zd,Zp,simprocAttr,COpsK30]
  refine j_goto rfl oK ?_
  refine wscope_piece hmix ?_
  simp only[↓Zd,Zp,simprocAttr,co145]
  refine otruth_spec fun s2 hs2=>?_
  have hl2:s.next+2<s2.next:=by have:=hs2.1;(try simp only[Sn]at this);omega
  unfold vA at h ⊢
  simp only[↓Zd,Zp,Zs,simprocAttr,COpsK31,COpsK30,j_ret,keep3OpsK3 (n:=s.next) hs2 oF,keep3OpsK3 (n:=s.next) hs1 (by first|omega|(simp only[nN];omega))]
  exact h _ oL
 ·have hb:binV 9 3 n x 3 n' x' most = .tuple #[vA 1 (boolN (decide (0≤cmpL x.data.toList x'.data.toList))) ⟨#[]⟩,.int .i64 0]:=by simp[binV,cmpOp]
  rw[hb]at h
  simp only[↓Zd,Zp,Zs,simprocAttr,COpsK31,COpsK30,co149]
  refine order_spec fun s1 hs1=>?_
  have hl1:s.next+2<s1.next:=by have:=hs1.1;(try simp only[nN]at this);omega
  have ho:orderN 3 n x n' x'=cmpL x.data.toList x'.data.toList:=rfl
  rw[ho]
  simp only[↓Zd,Zp,simprocAttr,COpsK30,co145]
  refine otruth_spec fun s2 hs2=>?_
  have hl2:s.next+2<s2.next:=by have:=hs2.1;(try simp only[Sn]at this);omega
  unfold vA at h ⊢
  simp only[↓Zd,Zp,Zs,simprocAttr,COpsK31,COpsK30,j_ret,keep3OpsK3 (n:=s.next) hs2 oF,keep3OpsK3 (n:=s.next) hs1 (by first|omega|(simp only[nN];omega))]
  exact h _ oL
end
theorem keep3OpsK4{M:Type}[Mem M]{s s1:St M}{n:Nat}(h:s.le s1)(hn:n+2<s.next):s1.at' n=s.at' n∧s1.at' (n+1)=s.at' (n+1)∧s1.at' (n+2)=s.at' (n+2):=⟨h.2 _ oM,h.2 _ oM,h.2 _ oM⟩
def COpsK40:=(aI (aI (aI (aI @is31 (aI @ag31 @ce31)) (aI (aI @fa31x0 @fa31x1) (aI @fa31x2 @ag3))) (aI (aI @ce3 (aI @ag9 @ce9)) (aI (aI @underlying3 @underlying4) (aI @underlying9 @underlying5)))) (aI (aI (aI @underlying38 (aI @underlying0 @be4)) (aI (aI @bn4 @bv0) (aI @bv1 @bv2))) (aI (aI (aI @bv3 @ze31) (aI @sz31 @sz3)) (aI (aI @underlying120 @underlying253) (aI @underlying75 @underlying115)))))
def COpsK41:=(aI (aI @underlying3 @underlying4) (aI @underlying9 @underlying31))
section
theorem bin_K4{op k n k' n':Int}{x x':ByteArray}{most:Int}(hn:I64 n)(hm : -1≤most∧most≤9223372036854775807)(hx:True)(hx':True)(k2:¬ k'=3)(h:∀ s',s.le s'→R (binV op 3 n x k' n' x' most) s') :
  QC prog w0 66 #[.int .i64 op,vA 3 n x,vA k' n' x',.int .i64 most] s R:=by
 refine wfun2 hmix ok66 func66 rfl ntmps66 results66 (by simp) ?_
 simp only[↓Zd,Zp,Zs,simprocAttr,vA,COpsK40]
 refine wscope_piece hmix ?_
 simp only[↓Zd,Zp,simprocAttr,cld2,COpsK40,ord66,k2]
 rcases (show (op<1)∨(11<op)∨(op=10)∨(op=11)∨(op=1)∨(2≤op∧op≤5)∨(op=6)∨(op=7)∨(op=8)∨(op=9) by omega) with o1|o1|rfl|rfl|rfl|⟨o2,o5⟩|rfl|rfl|rfl|rfl
 ·have hb:binV op 3 n x k' n' x' most = .tuple #[vA 0 0 ⟨#[]⟩,.int .i64 2]:=by simp[binV,o1]
  rw[hb]at h
  unfold vA at h
  simp only[↓Zd,Zp,Zs,simprocAttr,COpsK40,j_ret,o1]
  exact h _ oL
 ·have o0:¬ op<1:=oM
  have hb:binV op 3 n x k' n' x' most = .tuple #[vA 0 0 ⟨#[]⟩,.int .i64 2]:=by simp[binV,o0,o1]
  rw[hb]at h
  unfold vA at h
  simp only[↓Zd,Zp,Zs,simprocAttr,COpsK40,j_ret,o0,o1]
  exact h _ oL
 ·have hb:binV 10 3 n x k' n' x' most = .tuple #[vA 1 (boolN (sameV 3 n x k' n' x')) ⟨#[]⟩,.int .i64 0]:=by simp[binV]
  rw[hb]at h
  simp only[↓Zd,Zp,Zs,simprocAttr,COpsK41,COpsK40,co146]
  refine same_le fun s1 hs1=>?_
  have hl1:s.next+2<s1.next:=by have:=hs1.1;(try simp only[nN]at this);omega
  simp only[↓Zd,Zp,simprocAttr,COpsK40,co145]
  refine otruth_spec fun s2 hs2=>?_
  have hl2:s.next+2<s2.next:=by have:=hs2.1;(try simp only[Sn]at this);omega
  unfold vA at h ⊢
  simp only[↓Zd,Zp,Zs,simprocAttr,COpsK41,COpsK40,j_ret,keep3OpsK4 (n:=s.next) hs2 oF,keep3OpsK4 (n:=s.next) hs1 (by first|omega|(simp only[nN];omega))]
  exact h _ oL
 ·have hb:binV 11 3 n x k' n' x' most = .tuple #[vA 1 (boolN (!sameV 3 n x k' n' x')) ⟨#[]⟩,.int .i64 0]:=by simp[binV]
  rw[hb]at h
  simp only[↓Zd,Zp,Zs,simprocAttr,COpsK41,COpsK40,co146]
  refine same_le fun s1 hs1=>?_
  have hl1:s.next+2<s1.next:=by have:=hs1.1;(try simp only[nN]at this);omega
  simp only[↓Zd,Zp,simprocAttr,COpsK40,co145]
  refine otruth_spec fun s2 hs2=>?_
  have hl2:s.next+2<s2.next:=by have:=hs2.1;(try simp only[Sn]at this);omega
  unfold vA at h ⊢
  simp only[↓Zd,Zp,Zs,simprocAttr,COpsK41,COpsK40,j_ret,keep3OpsK4 (n:=s.next) hs2 oF,keep3OpsK4 (n:=s.next) hs1 (by first|omega|(simp only[nN];omega))]
  exact h _ oL
 ·have hb:binV 1 3 n x k' n' x' most = .tuple #[vA 0 0 ⟨#[]⟩,.int .i64 30]:=by simp[binV,k2]
  rw[hb]at h
  unfold vA at h
  simp only[↓Zd,Zp,Zs,simprocAttr,COpsK40,j_ret]
  exact h _ oL
 ·have o0:¬ op<1:=oM
  have o1:¬ 11<op:=oM
  have oa:¬ op=10:=oM
  have ob:¬ op=11:=oM
  have oc:¬ op=1:=oM
  have hb:binV op 3 n x k' n' x' most = .tuple #[vA 0 0 ⟨#[]⟩,.int .i64 30]:=by simp[binV,o0,o1,oa,ob,k2]
  rw[hb]at h
  unfold vA at h
  simp only[↓Zd,Zp,Zs,simprocAttr,COpsK40,j_ret,o0,o1,oa,ob,oc,o5]
  exact h _ oL
 ·have hb:binV 6 3 n x k' n' x' most = .tuple #[vA 0 0 ⟨#[]⟩,.int .i64 30]:=by simp[binV,k2]
  rw[hb]at h
  unfold vA at h
  simp only[↓Zd,Zp,Zs,simprocAttr,COpsK40,j_ret]
  exact h _ oL
 ·have hb:binV 7 3 n x k' n' x' most = .tuple #[vA 0 0 ⟨#[]⟩,.int .i64 30]:=by simp[binV,k2]
  rw[hb]at h
  unfold vA at h
  simp only[↓Zd,Zp,Zs,simprocAttr,COpsK40,j_ret]
  exact h _ oL
 ·have hb:binV 8 3 n x k' n' x' most = .tuple #[vA 0 0 ⟨#[]⟩,.int .i64 30]:=by simp[binV,k2]
  rw[hb]at h
  unfold vA at h
  simp only[↓Zd,Zp,Zs,simprocAttr,COpsK40,j_ret]
  exact h _ oL
 ·have hb:binV 9 3 n x k' n' x' most = .tuple #[vA 0 0 ⟨#[]⟩,.int .i64 30]:=by simp[binV,k2]
  rw[hb]at h
  unfold vA at h
  simp only[↓Zd,Zp,Zs,simprocAttr,COpsK40,j_ret]
  exact h _ oL
end
theorem keep3OpsK5{M:Type}[Mem M]{s s1:St M}{n:Nat}(h:s.le s1)(hn:n+2<s.next):s1.at' n=s.at' n∧s1.at' (n+1)=s.at' (n+1)∧s1.at' (n+2)=s.at' (n+2):=⟨h.2 _ oM,h.2 _ oM,h.2 _ oM⟩
def COpsK50:=(aI (aI (aI (aI @is31 (aI @ag31 @ce31)) (aI (aI @fa31x0 @fa31x1) (aI @fa31x2 @ag3))) (aI (aI @ce3 (aI @ag9 @ce9)) (aI (aI @underlying3 @underlying4) (aI @underlying9 @underlying5)))) (aI (aI (aI @underlying38 (aI @underlying0 @be4)) (aI (aI @bn4 @bv0) (aI @bv1 @bv2))) (aI (aI (aI @bv3 @ze31) (aI @sz31 @sz3)) (aI (aI @underlying120 @underlying253) (aI @underlying75 @underlying115)))))
def COpsK51:=(aI (aI @underlying3 @underlying4) (aI @underlying9 @underlying31))
section
theorem bin_K5{op k n k' n':Int}{x x':ByteArray}{most:Int}(hn:I64 n)(hm : -1≤most∧most≤9223372036854775807)(hx:True)(hx':True)(k1:¬ k=2)(k2:¬ k=3)(h:∀ s',s.le s'→R (binV op k n x k' n' x' most) s') :
  QC prog w0 66 #[.int .i64 op,vA k n x,vA k' n' x',.int .i64 most] s R:=by
 refine wfun2 hmix ok66 func66 rfl ntmps66 results66 (by simp) ?_
 simp only[↓Zd,Zp,Zs,simprocAttr,vA,COpsK50]
 refine wscope_piece hmix ?_
 simp only[↓Zd,Zp,simprocAttr,cld2,COpsK50,ord66,k1,k2]
 rcases (show (op<1)∨(11<op)∨(op=10)∨(op=11)∨(op=1)∨(2≤op∧op≤5)∨(op=6)∨(op=7)∨(op=8)∨(op=9) by omega) with o1|o1|rfl|rfl|rfl|⟨o2,o5⟩|rfl|rfl|rfl|rfl
 ·have hb:binV op k n x k' n' x' most = .tuple #[vA 0 0 ⟨#[]⟩,.int .i64 2]:=by simp[binV,o1]
  rw[hb]at h
  unfold vA at h
  simp only[↓Zd,Zp,Zs,simprocAttr,COpsK50,j_ret,o1]
  exact h _ oL
 ·have o0:¬ op<1:=oM
  have hb:binV op k n x k' n' x' most = .tuple #[vA 0 0 ⟨#[]⟩,.int .i64 2]:=by simp[binV,o0,o1]
  rw[hb]at h
  unfold vA at h
  simp only[↓Zd,Zp,Zs,simprocAttr,COpsK50,j_ret,o0,o1]
  exact h _ oL
 ·have hb:binV 10 k n x k' n' x' most = .tuple #[vA 1 (boolN (sameV k n x k' n' x')) ⟨#[]⟩,.int .i64 0]:=by simp[binV]
  rw[hb]at h
  simp only[↓Zd,Zp,Zs,simprocAttr,COpsK51,COpsK50,co146]
  refine same_le fun s1 hs1=>?_
  have hl1:s.next+2<s1.next:=by have:=hs1.1;(try simp only[nN]at this);omega
  simp only[↓Zd,Zp,simprocAttr,COpsK50,co145]
  refine otruth_spec fun s2 hs2=>?_
  have hl2:s.next+2<s2.next:=by have:=hs2.1;(try simp only[Sn]at this);omega
  unfold vA at h ⊢
  simp only[↓Zd,Zp,Zs,simprocAttr,COpsK51,COpsK50,j_ret,keep3OpsK5 (n:=s.next) hs2 oF,keep3OpsK5 (n:=s.next) hs1 (by first|omega|(simp only[nN];omega))]
  exact h _ oL
 ·have hb:binV 11 k n x k' n' x' most = .tuple #[vA 1 (boolN (!sameV k n x k' n' x')) ⟨#[]⟩,.int .i64 0]:=by simp[binV]
  rw[hb]at h
  simp only[↓Zd,Zp,Zs,simprocAttr,COpsK51,COpsK50,co146]
  refine same_le fun s1 hs1=>?_
  have hl1:s.next+2<s1.next:=by have:=hs1.1;(try simp only[nN]at this);omega
  simp only[↓Zd,Zp,simprocAttr,COpsK50,co145]
  refine otruth_spec fun s2 hs2=>?_
  have hl2:s.next+2<s2.next:=by have:=hs2.1;(try simp only[Sn]at this);omega
  unfold vA at h ⊢
  simp only[↓Zd,Zp,Zs,simprocAttr,COpsK51,COpsK50,j_ret,keep3OpsK5 (n:=s.next) hs2 oF,keep3OpsK5 (n:=s.next) hs1 (by first|omega|(simp only[nN];omega))]
  exact h _ oL
 ·have hb:binV 1 k n x k' n' x' most = .tuple #[vA 0 0 ⟨#[]⟩,.int .i64 30]:=by simp[binV,k1,k2]
  rw[hb]at h
  unfold vA at h
  simp only[↓Zd,Zp,Zs,simprocAttr,COpsK50,j_ret]
  exact h _ oL
 ·have o0:¬ op<1:=oM
  have o1:¬ 11<op:=oM
  have oa:¬ op=10:=oM
  have ob:¬ op=11:=oM
  have oc:¬ op=1:=oM
  have hb:binV op k n x k' n' x' most = .tuple #[vA 0 0 ⟨#[]⟩,.int .i64 30]:=by simp[binV,o0,o1,oa,ob,k1,k2]
  rw[hb]at h
  unfold vA at h
  simp only[↓Zd,Zp,Zs,simprocAttr,COpsK50,j_ret,o0,o1,oa,ob,oc,o5]
  exact h _ oL
 ·have hb:binV 6 k n x k' n' x' most = .tuple #[vA 0 0 ⟨#[]⟩,.int .i64 30]:=by simp[binV,k1,k2]
  rw[hb]at h
  unfold vA at h
  simp only[↓Zd,Zp,Zs,simprocAttr,COpsK50,j_ret]
  exact h _ oL
 ·have hb:binV 7 k n x k' n' x' most = .tuple #[vA 0 0 ⟨#[]⟩,.int .i64 30]:=by simp[binV,k1,k2]
  rw[hb]at h
  unfold vA at h
  simp only[↓Zd,Zp,Zs,simprocAttr,COpsK50,j_ret]
  exact h _ oL
 ·have hb:binV 8 k n x k' n' x' most = .tuple #[vA 0 0 ⟨#[]⟩,.int .i64 30]:=by simp[binV,k1,k2]
  rw[hb]at h
  unfold vA at h
  simp only[↓Zd,Zp,Zs,simprocAttr,COpsK50,j_ret]
  exact h _ oL
 ·have hb:binV 9 k n x k' n' x' most = .tuple #[vA 0 0 ⟨#[]⟩,.int .i64 30]:=by simp[binV,k1,k2]
  rw[hb]at h
  unfold vA at h
  simp only[↓Zd,Zp,Zs,simprocAttr,COpsK50,j_ret]
  exact h _ oL
end
section
theorem bin_spec0{op k n k' n':Int}{x x':ByteArray}{most:Int}(hn:I64 n)(hm : -1≤most∧most≤9223372036854775807)(h:∀ s',s.le s'→R (binV op k n x k' n' x' most) s') :
  QC prog w0 66 #[.int .i64 op,vA k n x,vA k' n' x',.int .i64 most] s R:=by
 by_cases h2:k=2
 ·subst h2
  by_cases h3:k'=2
  ·subst h3;exact bin_K1 (k:=0) (k':=0) hn hm trivial trivial h
  ·exact bin_K2 (k:=0) hn hm trivial trivial h3 h
 ·by_cases h4:k=3
  ·subst h4
   by_cases h3:k'=3
   ·subst h3;exact bin_K3 (k:=0) (k':=0) hn hm trivial trivial h
   ·exact bin_K4 (k:=0) hn hm trivial trivial h3 h
  ·exact bin_K5 hn hm trivial trivial h2 h4 h
def tupV(v:Value):Prop:=∃ (a b:Int) (x:ByteArray) (e:Int),v = .tuple #[vA a b x,.int .i64 e]
theorem whole_tup(n e e':Int):tupV (.tuple #[wholeV n e,.int .i64 e']):=by
 unfold wholeV;split
 ·exact⟨_,_,_,_,rfl⟩
 ·exact⟨_,_,_,_,rfl⟩
theorem binV_tup(op k n:Int)(x:ByteArray)(k' n':Int)(x':ByteArray)(most:Int):tupV (binV op k n x k' n' x' most):=by
 unfold binV joinV
 repeat' split
 all_goals first
  |exact⟨_,_,_,_,rfl⟩
  |exact whole_tup _ _ _
theorem unV_tup(op k n:Int):tupV (unV op k n):=by
 unfold unV
 repeat' split
 all_goals exact⟨_,_,_,_,rfl⟩
theorem lenV_tup(k:Int)(x:ByteArray):tupV (lenV k x):=by
 unfold lenV
 split
 all_goals exact⟨_,_,_,_,rfl⟩
theorem textV_tup(k n:Int)(x:ByteArray)(most:Int):tupV (textV k n x most):=by
 unfold textV
 split
 all_goals exact⟨_,_,_,_,rfl⟩
end
theorem keep3OpsR1{M:Type}[Mem M]{s s1:St M}{n:Nat}(h:s.le s1)(hn:n+2<s.next):s1.at' n=s.at' n∧s1.at' (n+1)=s.at' (n+1)∧s1.at' (n+2)=s.at' (n+2):=⟨h.2 _ oM,h.2 _ oM,h.2 _ oM⟩
def COpsR10:=(aI (aI (aI (aI @is31 (aI @ag31 @ce31)) (aI (aI @fa31x0 @fa31x1) (aI @fa31x2 @ag3))) (aI (aI @ce3 (aI @ag9 @ce9)) (aI (aI @underlying3 @underlying4) (aI @underlying9 @underlying5)))) (aI (aI (aI @underlying38 (aI @underlying0 @be4)) (aI (aI @bn4 @bv0) (aI @bv1 @bv2))) (aI (aI (aI @bv3 @ze31) (aI @sz31 @sz3)) (aI (aI @underlying120 @underlying253) (aI @underlying75 @underlying115)))))
def COpsR11:=(aI (aI @underlying3 @underlying4) (aI @underlying9 @underlying31))
section
theorem rbin_R1{op k n k' n':Int}{x x':ByteArray}{most:Int}(hn:I64 n)(hx:x.size≤1000000)(hx':x'.size≤1000000)(h:∀ s',s.le s'→R (binV op 2 n x 2 n' x' most) s') :
  QC prog w0 188 #[.int .i64 op,vA 2 n x,vA 2 n' x',.int .i64 most] s R:=by
 refine wfun2 hmix ok188 func188 rfl ntmps188 results188 (by simp) ?_
 simp only[↓Zd,Zp,Zs,simprocAttr,vA,COpsR10]
 rcases (show (op<1)∨(11<op)∨(op=10)∨(op=11)∨(op=1)∨(op=2)∨(op=3)∨(op=4)∨(op=5)∨(op=6)∨(op=7)∨(op=8)∨(op=9) by omega) with o1|o1|rfl|rfl|rfl|rfl|rfl|rfl|rfl|rfl|rfl|rfl|rfl
 ·have hb:binV op 2 n x 2 n' x' most = .tuple #[vA 0 0 ⟨#[]⟩,.int .i64 2]:=by simp[binV,o1]
  rw[hb]at h
  unfold vA at h
  simp only[↓Zd,Zp,Zs,simprocAttr,vA,COpsR10,o1]
  exact h _ oL
 ·have o0:¬ op<1:=oM
  have hb:binV op 2 n x 2 n' x' most = .tuple #[vA 0 0 ⟨#[]⟩,.int .i64 2]:=by simp[binV,o0,o1]
  rw[hb]at h
  unfold vA at h
  simp only[↓Zd,Zp,Zs,simprocAttr,vA,COpsR10,o0,o1]
  exact h _ oL
 ·have hb:binV 10 2 n x 2 n' x' most = .tuple #[vA 1 (boolN (sameV 2 n x 2 n' x')) ⟨#[]⟩,.int .i64 0]:=by simp[binV]
  rw[hb]at h
  simp only[↓Zd,Zp,Zs,simprocAttr,COpsR11,vA,COpsR10,co91]
  refine rsame_le fun s1 hs1=>?_
  have hl1:s.next+2<s1.next:=by have:=hs1.1;(try simp only[nN]at this);omega
  simp only[↓Zd,Zp,simprocAttr,vA,COpsR10,co243,beq_true,beq_false]
  refine rtruthB_spec fun s2 hs2=>?_
  have hl2:s.next+2<s2.next:=by have:=hs2.1;(try simp only[Sn]at this);omega
  unfold vA at h ⊢
  simp only[↓Zd,Zp,Zs,simprocAttr,COpsR11,COpsR10,keep3OpsR1 (n:=s.next) hs2 oF,keep3OpsR1 (n:=s.next) hs1 (by first|omega|(simp only[nN];omega))]
  exact h _ oL
 ·have hb:binV 11 2 n x 2 n' x' most = .tuple #[vA 1 (boolN (!sameV 2 n x 2 n' x')) ⟨#[]⟩,.int .i64 0]:=by simp[binV]
  rw[hb]at h
  simp only[↓Zd,Zp,Zs,simprocAttr,COpsR11,vA,COpsR10,co91]
  refine rsame_le fun s1 hs1=>?_
  have hl1:s.next+2<s1.next:=by have:=hs1.1;(try simp only[nN]at this);omega
  simp only[↓Zd,Zp,simprocAttr,vA,COpsR10,co243,beq_true,beq_false]
  refine rtruthB_spec fun s2 hs2=>?_
  have hl2:s.next+2<s2.next:=by have:=hs2.1;(try simp only[Sn]at this);omega
  unfold vA at h ⊢
  simp only[↓Zd,Zp,Zs,simprocAttr,COpsR11,COpsR10,keep3OpsR1 (n:=s.next) hs2 oF,keep3OpsR1 (n:=s.next) hs1 (by first|omega|(simp only[nN];omega))]
  exact h _ oL
 ·have hb:binV 1 2 n x 2 n' x' most = .tuple #[wholeV (w63 (n+n')) (0),.int .i64 (0)]:=by simp[binV,mathN]
  rw[hb]at h
  simp only[↓Zd,Zp,simprocAttr,cld2,vA,COpsR10,co247]
  refine radd_spec ?_
  simp only[↓Zd,Zp,simprocAttr,vA,COpsR10,co245,wrapR_wrap]
  refine rwhole_spec fun s1 hs1=>?_
  have hl1:s.next+2<s1.next:=by have:=hs1.1;(try simp only[nN]at this);omega
  simp only[wholeV,if_true,vA]at h ⊢
  simp only[↓Zd,Zp,Zs,simprocAttr,COpsR10,keep3OpsR1 (n:=s.next) hs1 (by first|omega|(simp only[nN];omega))]
  exact h _ oL
 ·have hb:binV 2 2 n x 2 n' x' most = .tuple #[wholeV (w63 (n - n')) (0),.int .i64 (0)]:=by simp[binV,mathN]
  rw[hb]at h
  simp only[↓Zd,Zp,simprocAttr,cld2,vA,COpsR10,co248]
  refine rsub_spec ?_
  simp only[↓Zd,Zp,simprocAttr,vA,COpsR10,co245,wrapR_wrap]
  refine rwhole_spec fun s1 hs1=>?_
  have hl1:s.next+2<s1.next:=by have:=hs1.1;(try simp only[nN]at this);omega
  simp only[wholeV,if_true,vA]at h ⊢
  simp only[↓Zd,Zp,Zs,simprocAttr,COpsR10,keep3OpsR1 (n:=s.next) hs1 (by first|omega|(simp only[nN];omega))]
  exact h _ oL
 ·have hb:binV 3 2 n x 2 n' x' most = .tuple #[wholeV (w63 (n*n')) (0),.int .i64 (0)]:=by simp[binV,mathN]
  rw[hb]at h
  simp only[↓Zd,Zp,simprocAttr,cld2,vA,COpsR10,co249]
  refine rmul_spec ?_
  simp only[↓Zd,Zp,simprocAttr,vA,COpsR10,co245,wrapR_wrap]
  refine rwhole_spec fun s1 hs1=>?_
  have hl1:s.next+2<s1.next:=by have:=hs1.1;(try simp only[nN]at this);omega
  simp only[wholeV,if_true,vA]at h ⊢
  simp only[↓Zd,Zp,Zs,simprocAttr,COpsR10,keep3OpsR1 (n:=s.next) hs1 (by first|omega|(simp only[nN];omega))]
  exact h _ oL
 ·have hb:binV 4 2 n x 2 n' x' most = .tuple #[wholeV (divN n n') (erN n'),.int .i64 (erN n')]:=by simp[binV,mathN]
  rw[hb]at h
  simp only[↓Zd,Zp,simprocAttr,cld2,vA,COpsR10,co250]
  refine rdiv_spec ?_
  simp only[↓Zd,Zp,simprocAttr,vA,COpsR10,co245]
  refine rwhole_spec fun s1 hs1=>?_
  have hl1:s.next+2<s1.next:=by have:=hs1.1;(try simp only[nN]at this);omega
  generalize erN n'=e at h ⊢
  generalize divN n n'=v at h ⊢
  by_cases he:e=0
  ·subst he
   simp only[wholeV,if_true,vA]at h ⊢
   simp only[↓Zd,Zp,Zs,simprocAttr,COpsR10,keep3OpsR1 (n:=s.next) hs1 (by first|omega|(simp only[nN];omega))]
   exact h _ oL
  ·simp only[wholeV,he,if_false,vA]at h ⊢
   simp only[↓Zd,Zp,Zs,simprocAttr,COpsR10,keep3OpsR1 (n:=s.next) hs1 (by first|omega|(simp only[nN];omega))]
   exact h _ oL
 ·have hb:binV 5 2 n x 2 n' x' most = .tuple #[wholeV (modN n n') (erN n'),.int .i64 (erN n')]:=by simp[binV,mathN]
  rw[hb]at h
  simp only[↓Zd,Zp,simprocAttr,cld2,vA,COpsR10,co251]
  refine rmod_spec hn ?_
  simp only[↓Zd,Zp,simprocAttr,vA,COpsR10,co245]
  refine rwhole_spec fun s1 hs1=>?_
  have hl1:s.next+2<s1.next:=by have:=hs1.1;(try simp only[nN]at this);omega
  generalize erN n'=e at h ⊢
  generalize modN n n'=v at h ⊢
  by_cases he:e=0
  ·subst he
   simp only[wholeV,if_true,vA]at h ⊢
   simp only[↓Zd,Zp,Zs,simprocAttr,COpsR10,keep3OpsR1 (n:=s.next) hs1 (by first|omega|(simp only[nN];omega))]
   exact h _ oL
  ·simp only[wholeV,he,if_false,vA]at h ⊢
   simp only[↓Zd,Zp,Zs,simprocAttr,COpsR10,keep3OpsR1 (n:=s.next) hs1 (by first|omega|(simp only[nN];omega))]
   exact h _ oL
 ·have hb:binV 6 2 n x 2 n' x' most = .tuple #[vA 1 (boolN (lessB 2 n x n' x')) ⟨#[]⟩,.int .i64 0]:=by simp[binV,cmpOp,lessB,cmpI_6]
  rw[hb]at h
  simp only[↓Zd,Zp,Zs,simprocAttr,COpsR11,vA,COpsR10,co252]
  refine less_spec hx hx' fun s1 hs1=>?_
  have hl1:s.next+2<s1.next:=by have:=hs1.1;(try simp only[nN]at this);omega
  simp only[↓Zd,Zp,simprocAttr,vA,COpsR10,co243,beq_true,beq_false]
  refine rtruthB_spec fun s2 hs2=>?_
  have hl2:s.next+2<s2.next:=by have:=hs2.1;(try simp only[Sn]at this);omega
  unfold vA at h ⊢
  simp only[↓Zd,Zp,Zs,simprocAttr,COpsR11,COpsR10,keep3OpsR1 (n:=s.next) hs2 oF,keep3OpsR1 (n:=s.next) hs1 (by first|omega|(simp only[nN];omega))]
  exact h _ oL
 ·have hb:binV 7 2 n x 2 n' x' most = .tuple #[vA 1 (boolN (!lessB 2 n' x' n x)) ⟨#[]⟩,.int .i64 0]:=by simp[binV,cmpOp,lessB,cmpI_7]
  rw[hb]at h
  simp only[↓Zd,Zp,Zs,simprocAttr,COpsR11,vA,COpsR10,co252]
  refine less_spec hx' hx fun s1 hs1=>?_
  have hl1:s.next+2<s1.next:=by have:=hs1.1;(try simp only[nN]at this);omega
  simp only[↓Zd,Zp,simprocAttr,vA,COpsR10,co243,beq_true,beq_false]
  refine rtruthB_spec fun s2 hs2=>?_
  have hl2:s.next+2<s2.next:=by have:=hs2.1;(try simp only[Sn]at this);omega
  unfold vA at h ⊢
  simp only[↓Zd,Zp,Zs,simprocAttr,COpsR11,COpsR10,keep3OpsR1 (n:=s.next) hs2 oF,keep3OpsR1 (n:=s.next) hs1 (by first|omega|(simp only[nN];omega))]
  exact h _ oL
 ·have hb:binV 8 2 n x 2 n' x' most = .tuple #[vA 1 (boolN (lessB 2 n' x' n x)) ⟨#[]⟩,.int .i64 0]:=by simp[binV,cmpOp,lessB,cmpI_8]
  rw[hb]at h
  simp only[↓Zd,Zp,Zs,simprocAttr,COpsR11,vA,COpsR10,co252]
  refine less_spec hx' hx fun s1 hs1=>?_
  have hl1:s.next+2<s1.next:=by have:=hs1.1;(try simp only[nN]at this);omega
  simp only[↓Zd,Zp,simprocAttr,vA,COpsR10,co243,beq_true,beq_false]
  refine rtruthB_spec fun s2 hs2=>?_
  have hl2:s.next+2<s2.next:=by have:=hs2.1;(try simp only[Sn]at this);omega
  unfold vA at h ⊢
  simp only[↓Zd,Zp,Zs,simprocAttr,COpsR11,COpsR10,keep3OpsR1 (n:=s.next) hs2 oF,keep3OpsR1 (n:=s.next) hs1 (by first|omega|(simp only[nN];omega))]
  exact h _ oL
 ·have hb:binV 9 2 n x 2 n' x' most = .tuple #[vA 1 (boolN (!lessB 2 n x n' x')) ⟨#[]⟩,.int .i64 0]:=by simp[binV,cmpOp,lessB,cmpI_9]
  rw[hb]at h
  simp only[↓Zd,Zp,Zs,simprocAttr,COpsR11,vA,COpsR10,co252]
  refine less_spec hx hx' fun s1 hs1=>?_
  have hl1:s.next+2<s1.next:=by have:=hs1.1;(try simp only[nN]at this);omega
  simp only[↓Zd,Zp,simprocAttr,vA,COpsR10,co243,beq_true,beq_false]
  refine rtruthB_spec fun s2 hs2=>?_
  have hl2:s.next+2<s2.next:=by have:=hs2.1;(try simp only[Sn]at this);omega
  unfold vA at h ⊢
  simp only[↓Zd,Zp,Zs,simprocAttr,COpsR11,COpsR10,keep3OpsR1 (n:=s.next) hs2 oF,keep3OpsR1 (n:=s.next) hs1 (by first|omega|(simp only[nN];omega))]
  exact h _ oL
end
theorem keep3OpsR2{M:Type}[Mem M]{s s1:St M}{n:Nat}(h:s.le s1)(hn:n+2<s.next):s1.at' n=s.at' n∧s1.at' (n+1)=s.at' (n+1)∧s1.at' (n+2)=s.at' (n+2):=⟨h.2 _ oM,h.2 _ oM,h.2 _ oM⟩
def COpsR20:=(aI (aI (aI (aI @is31 (aI @ag31 @ce31)) (aI (aI @fa31x0 @fa31x1) (aI @fa31x2 @ag3))) (aI (aI @ce3 (aI @ag9 @ce9)) (aI (aI @underlying3 @underlying4) (aI @underlying9 @underlying5)))) (aI (aI (aI @underlying38 (aI @underlying0 @be4)) (aI (aI @bn4 @bv0) (aI @bv1 @bv2))) (aI (aI (aI @bv3 @ze31) (aI @sz31 @sz3)) (aI (aI @underlying120 @underlying253) (aI @underlying75 @underlying115)))))
def COpsR21:=(aI (aI @underlying3 @underlying4) (aI @underlying9 @underlying31))
section
theorem rbin_R2{op k n k' n':Int}{x x':ByteArray}{most:Int}(hn:I64 n)(hx:x.size≤1000000)(hx':x'.size≤1000000)(k2:¬ k'=2)(h:∀ s',s.le s'→R (binV op 2 n x k' n' x' most) s') :
  QC prog w0 188 #[.int .i64 op,vA 2 n x,vA k' n' x',.int .i64 most] s R:=by
 refine wfun2 hmix ok188 func188 rfl ntmps188 results188 (by simp) ?_
 have k2':¬ 2=k':=fun e=>k2 e.symm
 simp only[↓Zd,Zp,Zs,simprocAttr,vA,COpsR20]
 rcases (show (op<1)∨(11<op)∨(op=10)∨(op=11)∨(op=1)∨(op=2)∨(op=3)∨(op=4)∨(op=5)∨(op=6)∨(op=7)∨(op=8)∨(op=9) by omega) with o1|o1|rfl|rfl|rfl|rfl|rfl|rfl|rfl|rfl|rfl|rfl|rfl
 ·have hb:binV op 2 n x k' n' x' most = .tuple #[vA 0 0 ⟨#[]⟩,.int .i64 2]:=by simp[binV,o1]
  rw[hb]at h
  unfold vA at h
  simp only[↓Zd,Zp,Zs,simprocAttr,vA,COpsR20,o1]
  exact h _ oL
 ·have o0:¬ op<1:=oM
  have hb:binV op 2 n x k' n' x' most = .tuple #[vA 0 0 ⟨#[]⟩,.int .i64 2]:=by simp[binV,o0,o1]
  rw[hb]at h
  unfold vA at h
  simp only[↓Zd,Zp,Zs,simprocAttr,vA,COpsR20,o0,o1]
  exact h _ oL
 ·have hb:binV 10 2 n x k' n' x' most = .tuple #[vA 1 (boolN (sameV 2 n x k' n' x')) ⟨#[]⟩,.int .i64 0]:=by simp[binV]
  rw[hb]at h
  simp only[↓Zd,Zp,Zs,simprocAttr,COpsR21,vA,COpsR20,co91]
  refine rsame_le fun s1 hs1=>?_
  have hl1:s.next+2<s1.next:=by have:=hs1.1;(try simp only[nN]at this);omega
  simp only[↓Zd,Zp,simprocAttr,vA,COpsR20,co243,beq_true,beq_false]
  refine rtruthB_spec fun s2 hs2=>?_
  have hl2:s.next+2<s2.next:=by have:=hs2.1;(try simp only[Sn]at this);omega
  unfold vA at h ⊢
  simp only[↓Zd,Zp,Zs,simprocAttr,COpsR21,COpsR20,keep3OpsR2 (n:=s.next) hs2 oF,keep3OpsR2 (n:=s.next) hs1 (by first|omega|(simp only[nN];omega))]
  exact h _ oL
 ·have hb:binV 11 2 n x k' n' x' most = .tuple #[vA 1 (boolN (!sameV 2 n x k' n' x')) ⟨#[]⟩,.int .i64 0]:=by simp[binV]
  rw[hb]at h
  simp only[↓Zd,Zp,Zs,simprocAttr,COpsR21,vA,COpsR20,co91]
  refine rsame_le fun s1 hs1=>?_
  have hl1:s.next+2<s1.next:=by have:=hs1.1;(try simp only[nN]at this);omega
  simp only[↓Zd,Zp,simprocAttr,vA,COpsR20,co243,beq_true,beq_false]
  refine rtruthB_spec fun s2 hs2=>?_
  have hl2:s.next+2<s2.next:=by have:=hs2.1;(try simp only[Sn]at this);omega
  unfold vA at h ⊢
  simp only[↓Zd,Zp,Zs,simprocAttr,COpsR21,COpsR20,keep3OpsR2 (n:=s.next) hs2 oF,keep3OpsR2 (n:=s.next) hs1 (by first|omega|(simp only[nN];omega))]
  exact h _ oL
 ·have hb:binV 1 2 n x k' n' x' most = .tuple #[vA 0 0 ⟨#[]⟩,.int .i64 30]:=by simp[binV,k2]
  rw[hb]at h
  unfold vA at h
  simp only[↓Zd,Zp,Zs,simprocAttr,vA,COpsR20,k2']
  exact h _ oL
 ·have hb:binV 2 2 n x k' n' x' most = .tuple #[vA 0 0 ⟨#[]⟩,.int .i64 30]:=by simp[binV,k2]
  rw[hb]at h
  unfold vA at h
  simp only[↓Zd,Zp,Zs,simprocAttr,vA,COpsR20,k2']
  exact h _ oL
 ·have hb:binV 3 2 n x k' n' x' most = .tuple #[vA 0 0 ⟨#[]⟩,.int .i64 30]:=by simp[binV,k2]
  rw[hb]at h
  unfold vA at h
  simp only[↓Zd,Zp,Zs,simprocAttr,vA,COpsR20,k2']
  exact h _ oL
 ·have hb:binV 4 2 n x k' n' x' most = .tuple #[vA 0 0 ⟨#[]⟩,.int .i64 30]:=by simp[binV,k2]
  rw[hb]at h
  unfold vA at h
  simp only[↓Zd,Zp,Zs,simprocAttr,vA,COpsR20,k2']
  exact h _ oL
 ·have hb:binV 5 2 n x k' n' x' most = .tuple #[vA 0 0 ⟨#[]⟩,.int .i64 30]:=by simp[binV,k2]
  rw[hb]at h
  unfold vA at h
  simp only[↓Zd,Zp,Zs,simprocAttr,vA,COpsR20,k2']
  exact h _ oL
 ·have hb:binV 6 2 n x k' n' x' most = .tuple #[vA 0 0 ⟨#[]⟩,.int .i64 30]:=by simp[binV,k2]
  rw[hb]at h
  unfold vA at h
  simp only[↓Zd,Zp,Zs,simprocAttr,vA,COpsR20,k2']
  exact h _ oL
 ·have hb:binV 7 2 n x k' n' x' most = .tuple #[vA 0 0 ⟨#[]⟩,.int .i64 30]:=by simp[binV,k2]
  rw[hb]at h
  unfold vA at h
  simp only[↓Zd,Zp,Zs,simprocAttr,vA,COpsR20,k2']
  exact h _ oL
 ·have hb:binV 8 2 n x k' n' x' most = .tuple #[vA 0 0 ⟨#[]⟩,.int .i64 30]:=by simp[binV,k2]
  rw[hb]at h
  unfold vA at h
  simp only[↓Zd,Zp,Zs,simprocAttr,vA,COpsR20,k2']
  exact h _ oL
 ·have hb:binV 9 2 n x k' n' x' most = .tuple #[vA 0 0 ⟨#[]⟩,.int .i64 30]:=by simp[binV,k2]
  rw[hb]at h
  unfold vA at h
  simp only[↓Zd,Zp,Zs,simprocAttr,vA,COpsR20,k2']
  exact h _ oL
end
theorem keep3OpsR3{M:Type}[Mem M]{s s1:St M}{n:Nat}(h:s.le s1)(hn:n+2<s.next):s1.at' n=s.at' n∧s1.at' (n+1)=s.at' (n+1)∧s1.at' (n+2)=s.at' (n+2):=⟨h.2 _ oM,h.2 _ oM,h.2 _ oM⟩
def COpsR30:=(aI (aI (aI (aI @is31 (aI @ag31 @ce31)) (aI (aI @fa31x0 @fa31x1) (aI @fa31x2 @ag3))) (aI (aI @ce3 (aI @ag9 @ce9)) (aI (aI @underlying3 @underlying4) (aI @underlying9 @underlying5)))) (aI (aI (aI @underlying38 (aI @underlying0 @be4)) (aI (aI @bn4 @bv0) (aI @bv1 @bv2))) (aI (aI (aI @bv3 @ze31) (aI @sz31 @sz3)) (aI (aI @underlying120 @underlying253) (aI @underlying75 @underlying115)))))
def COpsR31:=(aI (aI @underlying3 @underlying4) (aI @underlying9 @underlying31))
section
theorem rbin_R3{op k n k' n':Int}{x x':ByteArray}{most:Int}(hn:I64 n)(hx:x.size≤1000000)(hx':x'.size≤1000000)(h:∀ s',s.le s'→R (binV op 3 n x 3 n' x' most) s') :
  QC prog w0 188 #[.int .i64 op,vA 3 n x,vA 3 n' x',.int .i64 most] s R:=by
 refine wfun2 hmix ok188 func188 rfl ntmps188 results188 (by simp) ?_
 simp only[↓Zd,Zp,Zs,simprocAttr,vA,COpsR30]
 rcases (show (op<1)∨(11<op)∨(op=10)∨(op=11)∨(op=1)∨(op=2)∨(op=3)∨(op=4)∨(op=5)∨(op=6)∨(op=7)∨(op=8)∨(op=9) by omega) with o1|o1|rfl|rfl|rfl|rfl|rfl|rfl|rfl|rfl|rfl|rfl|rfl
 ·have hb:binV op 3 n x 3 n' x' most = .tuple #[vA 0 0 ⟨#[]⟩,.int .i64 2]:=by simp[binV,o1]
  rw[hb]at h
  unfold vA at h
  simp only[↓Zd,Zp,Zs,simprocAttr,vA,COpsR30,o1]
  exact h _ oL
 ·have o0:¬ op<1:=oM
  have hb:binV op 3 n x 3 n' x' most = .tuple #[vA 0 0 ⟨#[]⟩,.int .i64 2]:=by simp[binV,o0,o1]
  rw[hb]at h
  unfold vA at h
  simp only[↓Zd,Zp,Zs,simprocAttr,vA,COpsR30,o0,o1]
  exact h _ oL
 ·have hb:binV 10 3 n x 3 n' x' most = .tuple #[vA 1 (boolN (sameV 3 n x 3 n' x')) ⟨#[]⟩,.int .i64 0]:=by simp[binV]
  rw[hb]at h
  simp only[↓Zd,Zp,Zs,simprocAttr,COpsR31,vA,COpsR30,co91]
  refine rsame_le fun s1 hs1=>?_
  have hl1:s.next+2<s1.next:=by have:=hs1.1;(try simp only[nN]at this);omega
  simp only[↓Zd,Zp,simprocAttr,vA,COpsR30,co243,beq_true,beq_false]
  refine rtruthB_spec fun s2 hs2=>?_
  have hl2:s.next+2<s2.next:=by have:=hs2.1;(try simp only[Sn]at this);omega
  unfold vA at h ⊢
  simp only[↓Zd,Zp,Zs,simprocAttr,COpsR31,COpsR30,keep3OpsR3 (n:=s.next) hs2 oF,keep3OpsR3 (n:=s.next) hs1 (by first|omega|(simp only[nN];omega))]
  exact h _ oL
 ·have hb:binV 11 3 n x 3 n' x' most = .tuple #[vA 1 (boolN (!sameV 3 n x 3 n' x')) ⟨#[]⟩,.int .i64 0]:=by simp[binV]
  rw[hb]at h
  simp only[↓Zd,Zp,Zs,simprocAttr,COpsR31,vA,COpsR30,co91]
  refine rsame_le fun s1 hs1=>?_
  have hl1:s.next+2<s1.next:=by have:=hs1.1;(try simp only[nN]at this);omega
  simp only[↓Zd,Zp,simprocAttr,vA,COpsR30,co243,beq_true,beq_false]
  refine rtruthB_spec fun s2 hs2=>?_
  have hl2:s.next+2<s2.next:=by have:=hs2.1;(try simp only[Sn]at this);omega
  unfold vA at h ⊢
  simp only[↓Zd,Zp,Zs,simprocAttr,COpsR31,COpsR30,keep3OpsR3 (n:=s.next) hs2 oF,keep3OpsR3 (n:=s.next) hs1 (by first|omega|(simp only[nN];omega))]
  exact h _ oL
 ·have hb:binV 1 3 n x 3 n' x' most=joinV x x' most:=by simp[binV]
  rw[hb]at h
  have hsz:x.size+x'.size≤9223372036854775807:=oM
  have hsa:((x++x').size:Int)=(x.size:Int)+x'.size:=by rw[ByteArray.size_append];omega
  by_cases hj:most<(x.size:Int)+x'.size
  ·have e:joinV x x' most = .tuple #[vA 0 0 ⟨#[]⟩,.int .i64 43]:=by unfold joinV;rw[if_pos oM]
   rw[e]at h
   unfold vA at h
   simp only[↓Zd,Zp,Zs,simprocAttr,vA,COpsR30,hsz,hsa,hj]
   exact h _ oL
  ·have e:joinV x x' most = .tuple #[vA 3 0 (x++x'),.int .i64 0]:=by unfold joinV;rw[if_neg oM]
   rw[e]at h
   unfold vA at h
   simp only[↓Zd,Zp,Zs,simprocAttr,vA,COpsR30,hsz,hsa,hj]
   exact h _ oL
 ·have hb:binV 2 3 n x 3 n' x' most = .tuple #[vA 0 0 ⟨#[]⟩,.int .i64 30]:=by simp[binV]
  rw[hb]at h
  unfold vA at h
  simp only[↓Zd,Zp,Zs,simprocAttr,vA,COpsR30]
  exact h _ oL
 ·have hb:binV 3 3 n x 3 n' x' most = .tuple #[vA 0 0 ⟨#[]⟩,.int .i64 30]:=by simp[binV]
  rw[hb]at h
  unfold vA at h
  simp only[↓Zd,Zp,Zs,simprocAttr,vA,COpsR30]
  exact h _ oL
 ·have hb:binV 4 3 n x 3 n' x' most = .tuple #[vA 0 0 ⟨#[]⟩,.int .i64 30]:=by simp[binV]
  rw[hb]at h
  unfold vA at h
  simp only[↓Zd,Zp,Zs,simprocAttr,vA,COpsR30]
  exact h _ oL
 ·have hb:binV 5 3 n x 3 n' x' most = .tuple #[vA 0 0 ⟨#[]⟩,.int .i64 30]:=by simp[binV]
  rw[hb]at h
  unfold vA at h
  simp only[↓Zd,Zp,Zs,simprocAttr,vA,COpsR30]
  exact h _ oL
 ·have hb:binV 6 3 n x 3 n' x' most = .tuple #[vA 1 (boolN (lessB 3 n x n' x')) ⟨#[]⟩,.int .i64 0]:=by simp[binV,cmpOp,lessB,cmpL_6]
  rw[hb]at h
  simp only[↓Zd,Zp,Zs,simprocAttr,COpsR31,vA,COpsR30,co252]
  refine less_spec hx hx' fun s1 hs1=>?_
  have hl1:s.next+2<s1.next:=by have:=hs1.1;(try simp only[nN]at this);omega
  simp only[↓Zd,Zp,simprocAttr,vA,COpsR30,co243,beq_true,beq_false]
  refine rtruthB_spec fun s2 hs2=>?_
  have hl2:s.next+2<s2.next:=by have:=hs2.1;(try simp only[Sn]at this);omega
  unfold vA at h ⊢
  simp only[↓Zd,Zp,Zs,simprocAttr,COpsR31,COpsR30,keep3OpsR3 (n:=s.next) hs2 oF,keep3OpsR3 (n:=s.next) hs1 (by first|omega|(simp only[nN];omega))]
  exact h _ oL
 ·have hb:binV 7 3 n x 3 n' x' most = .tuple #[vA 1 (boolN (!lessB 3 n' x' n x)) ⟨#[]⟩,.int .i64 0]:=by simp[binV,cmpOp,lessB,cmpL_7]
  rw[hb]at h
  simp only[↓Zd,Zp,Zs,simprocAttr,COpsR31,vA,COpsR30,co252]
  refine less_spec hx' hx fun s1 hs1=>?_
  have hl1:s.next+2<s1.next:=by have:=hs1.1;(try simp only[nN]at this);omega
  simp only[↓Zd,Zp,simprocAttr,vA,COpsR30,co243,beq_true,beq_false]
  refine rtruthB_spec fun s2 hs2=>?_
  have hl2:s.next+2<s2.next:=by have:=hs2.1;(try simp only[Sn]at this);omega
  unfold vA at h ⊢
  simp only[↓Zd,Zp,Zs,simprocAttr,COpsR31,COpsR30,keep3OpsR3 (n:=s.next) hs2 oF,keep3OpsR3 (n:=s.next) hs1 (by first|omega|(simp only[nN];omega))]
  exact h _ oL
 ·have hb:binV 8 3 n x 3 n' x' most = .tuple #[vA 1 (boolN (lessB 3 n' x' n x)) ⟨#[]⟩,.int .i64 0]:=by simp[binV,cmpOp,lessB,cmpL_8]
  rw[hb]at h
  simp only[↓Zd,Zp,Zs,simprocAttr,COpsR31,vA,COpsR30,co252]
  refine less_spec hx' hx fun s1 hs1=>?_
  have hl1:s.next+2<s1.next:=by have:=hs1.1;(try simp only[nN]at this);omega
  simp only[↓Zd,Zp,simprocAttr,vA,COpsR30,co243,beq_true,beq_false]
  refine rtruthB_spec fun s2 hs2=>?_
  have hl2:s.next+2<s2.next:=by have:=hs2.1;(try simp only[Sn]at this);omega
  unfold vA at h ⊢
  simp only[↓Zd,Zp,Zs,simprocAttr,COpsR31,COpsR30,keep3OpsR3 (n:=s.next) hs2 oF,keep3OpsR3 (n:=s.next) hs1 (by first|omega|(simp only[nN];omega))]
  exact h _ oL
 ·have hb:binV 9 3 n x 3 n' x' most = .tuple #[vA 1 (boolN (!lessB 3 n x n' x')) ⟨#[]⟩,.int .i64 0]:=by simp[binV,cmpOp,lessB,cmpL_9]
  rw[hb]at h
  simp only[↓Zd,Zp,Zs,simprocAttr,COpsR31,vA,COpsR30,co252]
  refine less_spec hx hx' fun s1 hs1=>?_
  have hl1:s.next+2<s1.next:=by have:=hs1.1;(try simp only[nN]at this);omega
  simp only[↓Zd,Zp,simprocAttr,vA,COpsR30,co243,beq_true,beq_false]
  refine rtruthB_spec fun s2 hs2=>?_
  have hl2:s.next+2<s2.next:=by have:=hs2.1;(try simp only[Sn]at this);omega
  unfold vA at h ⊢
  simp only[↓Zd,Zp,Zs,simprocAttr,COpsR31,COpsR30,keep3OpsR3 (n:=s.next) hs2 oF,keep3OpsR3 (n:=s.next) hs1 (by first|omega|(simp only[nN];omega))]
  exact h _ oL
end
theorem keep3OpsR4{M:Type}[Mem M]{s s1:St M}{n:Nat}(h:s.le s1)(hn:n+2<s.next):s1.at' n=s.at' n∧s1.at' (n+1)=s.at' (n+1)∧s1.at' (n+2)=s.at' (n+2):=⟨h.2 _ oM,h.2 _ oM,h.2 _ oM⟩
def COpsR40:=(aI (aI (aI (aI @is31 (aI @ag31 @ce31)) (aI (aI @fa31x0 @fa31x1) (aI @fa31x2 @ag3))) (aI (aI @ce3 (aI @ag9 @ce9)) (aI (aI @underlying3 @underlying4) (aI @underlying9 @underlying5)))) (aI (aI (aI @underlying38 (aI @underlying0 @be4)) (aI (aI @bn4 @bv0) (aI @bv1 @bv2))) (aI (aI (aI @bv3 @ze31) (aI @sz31 @sz3)) (aI (aI @underlying120 @underlying253) (aI @underlying75 @underlying115)))))
def COpsR41:=(aI (aI @underlying3 @underlying4) (aI @underlying9 @underlying31))
section
theorem rbin_R4{op k n k' n':Int}{x x':ByteArray}{most:Int}(hn:I64 n)(hx:x.size≤1000000)(hx':x'.size≤1000000)(k2:¬ k'=3)(h:∀ s',s.le s'→R (binV op 3 n x k' n' x' most) s') :
  QC prog w0 188 #[.int .i64 op,vA 3 n x,vA k' n' x',.int .i64 most] s R:=by
 refine wfun2 hmix ok188 func188 rfl ntmps188 results188 (by simp) ?_
 have k2':¬ 3=k':=fun e=>k2 e.symm
 simp only[↓Zd,Zp,Zs,simprocAttr,vA,COpsR40]
 rcases (show (op<1)∨(11<op)∨(op=10)∨(op=11)∨(op=1)∨(op=2)∨(op=3)∨(op=4)∨(op=5)∨(op=6)∨(op=7)∨(op=8)∨(op=9) by omega) with o1|o1|rfl|rfl|rfl|rfl|rfl|rfl|rfl|rfl|rfl|rfl|rfl
 ·have hb:binV op 3 n x k' n' x' most = .tuple #[vA 0 0 ⟨#[]⟩,.int .i64 2]:=by simp[binV,o1]
  rw[hb]at h
  unfold vA at h
  simp only[↓Zd,Zp,Zs,simprocAttr,vA,COpsR40,o1]
  exact h _ oL
 ·have o0:¬ op<1:=oM
  have hb:binV op 3 n x k' n' x' most = .tuple #[vA 0 0 ⟨#[]⟩,.int .i64 2]:=by simp[binV,o0,o1]
  rw[hb]at h
  unfold vA at h
  simp only[↓Zd,Zp,Zs,simprocAttr,vA,COpsR40,o0,o1]
  exact h _ oL
 ·have hb:binV 10 3 n x k' n' x' most = .tuple #[vA 1 (boolN (sameV 3 n x k' n' x')) ⟨#[]⟩,.int .i64 0]:=by simp[binV]
  rw[hb]at h
  simp only[↓Zd,Zp,Zs,simprocAttr,COpsR41,vA,COpsR40,co91]
  refine rsame_le fun s1 hs1=>?_
  have hl1:s.next+2<s1.next:=by have:=hs1.1;(try simp only[nN]at this);omega
  simp only[↓Zd,Zp,simprocAttr,vA,COpsR40,co243,beq_true,beq_false]
  refine rtruthB_spec fun s2 hs2=>?_
  have hl2:s.next+2<s2.next:=by have:=hs2.1;(try simp only[Sn]at this);omega
  unfold vA at h ⊢
  simp only[↓Zd,Zp,Zs,simprocAttr,COpsR41,COpsR40,keep3OpsR4 (n:=s.next) hs2 oF,keep3OpsR4 (n:=s.next) hs1 (by first|omega|(simp only[nN];omega))]
  exact h _ oL
 ·have hb:binV 11 3 n x k' n' x' most = .tuple #[vA 1 (boolN (!sameV 3 n x k' n' x')) ⟨#[]⟩,.int .i64 0]:=by simp[binV]
  rw[hb]at h
  simp only[↓Zd,Zp,Zs,simprocAttr,COpsR41,vA,COpsR40,co91]
  refine rsame_le fun s1 hs1=>?_
  have hl1:s.next+2<s1.next:=by have:=hs1.1;(try simp only[nN]at this);omega
  simp only[↓Zd,Zp,simprocAttr,vA,COpsR40,co243,beq_true,beq_false]
  refine rtruthB_spec fun s2 hs2=>?_
  have hl2:s.next+2<s2.next:=by have:=hs2.1;(try simp only[Sn]at this);omega
  unfold vA at h ⊢
  simp only[↓Zd,Zp,Zs,simprocAttr,COpsR41,COpsR40,keep3OpsR4 (n:=s.next) hs2 oF,keep3OpsR4 (n:=s.next) hs1 (by first|omega|(simp only[nN];omega))]
  exact h _ oL
 ·have hb:binV 1 3 n x k' n' x' most = .tuple #[vA 0 0 ⟨#[]⟩,.int .i64 30]:=by simp[binV,k2]
  rw[hb]at h
  unfold vA at h
  simp only[↓Zd,Zp,Zs,simprocAttr,vA,COpsR40,k2']
  exact h _ oL
 ·have hb:binV 2 3 n x k' n' x' most = .tuple #[vA 0 0 ⟨#[]⟩,.int .i64 30]:=by simp[binV,k2]
  rw[hb]at h
  unfold vA at h
  simp only[↓Zd,Zp,Zs,simprocAttr,vA,COpsR40,k2']
  exact h _ oL
 ·have hb:binV 3 3 n x k' n' x' most = .tuple #[vA 0 0 ⟨#[]⟩,.int .i64 30]:=by simp[binV,k2]
  rw[hb]at h
  unfold vA at h
  simp only[↓Zd,Zp,Zs,simprocAttr,vA,COpsR40,k2']
  exact h _ oL
 ·have hb:binV 4 3 n x k' n' x' most = .tuple #[vA 0 0 ⟨#[]⟩,.int .i64 30]:=by simp[binV,k2]
  rw[hb]at h
  unfold vA at h
  simp only[↓Zd,Zp,Zs,simprocAttr,vA,COpsR40,k2']
  exact h _ oL
 ·have hb:binV 5 3 n x k' n' x' most = .tuple #[vA 0 0 ⟨#[]⟩,.int .i64 30]:=by simp[binV,k2]
  rw[hb]at h
  unfold vA at h
  simp only[↓Zd,Zp,Zs,simprocAttr,vA,COpsR40,k2']
  exact h _ oL
 ·have hb:binV 6 3 n x k' n' x' most = .tuple #[vA 0 0 ⟨#[]⟩,.int .i64 30]:=by simp[binV,k2]
  rw[hb]at h
  unfold vA at h
  simp only[↓Zd,Zp,Zs,simprocAttr,vA,COpsR40,k2']
  exact h _ oL
 ·have hb:binV 7 3 n x k' n' x' most = .tuple #[vA 0 0 ⟨#[]⟩,.int .i64 30]:=by simp[binV,k2]
  rw[hb]at h
  unfold vA at h
  simp only[↓Zd,Zp,Zs,simprocAttr,vA,COpsR40,k2']
  exact h _ oL
 ·have hb:binV 8 3 n x k' n' x' most = .tuple #[vA 0 0 ⟨#[]⟩,.int .i64 30]:=by simp[binV,k2]
  rw[hb]at h
  unfold vA at h
  simp only[↓Zd,Zp,Zs,simprocAttr,vA,COpsR40,k2']
  exact h _ oL
 ·have hb:binV 9 3 n x k' n' x' most = .tuple #[vA 0 0 ⟨#[]⟩,.int .i64 30]:=by simp[binV,k2]
  rw[hb]at h
  unfold vA at h
  simp only[↓Zd,Zp,Zs,simprocAttr,vA,COpsR40,k2']
  exact h _ oL
end
theorem keep3OpsR5{M:Type}[Mem M]{s s1:St M}{n:Nat}(h:s.le s1)(hn:n+2<s.next):s1.at' n=s.at' n∧s1.at' (n+1)=s.at' (n+1)∧s1.at' (n+2)=s.at' (n+2):=⟨h.2 _ oM,h.2 _ oM,h.2 _ oM⟩
def COpsR50:=(aI (aI (aI (aI @is31 (aI @ag31 @ce31)) (aI (aI @fa31x0 @fa31x1) (aI @fa31x2 @ag3))) (aI (aI @ce3 (aI @ag9 @ce9)) (aI (aI @underlying3 @underlying4) (aI @underlying9 @underlying5)))) (aI (aI (aI @underlying38 (aI @underlying0 @be4)) (aI (aI @bn4 @bv0) (aI @bv1 @bv2))) (aI (aI (aI @bv3 @ze31) (aI @sz31 @sz3)) (aI (aI @underlying120 @underlying253) (aI @underlying75 @underlying115)))))
def COpsR51:=(aI (aI @underlying3 @underlying4) (aI @underlying9 @underlying31))
section
theorem rbin_R5{op k n k' n':Int}{x x':ByteArray}{most:Int}(hn:I64 n)(hx:x.size≤1000000)(hx':x'.size≤1000000)(k1:¬ k=2)(k2:¬ k=3)(h:∀ s',s.le s'→R (binV op k n x k' n' x' most) s') :
  QC prog w0 188 #[.int .i64 op,vA k n x,vA k' n' x',.int .i64 most] s R:=by
 refine wfun2 hmix ok188 func188 rfl ntmps188 results188 (by simp) ?_
 simp only[↓Zd,Zp,Zs,simprocAttr,vA,COpsR50]
 rcases (show (op<1)∨(11<op)∨(op=10)∨(op=11)∨(op=1)∨(op=2)∨(op=3)∨(op=4)∨(op=5)∨(op=6)∨(op=7)∨(op=8)∨(op=9) by omega) with o1|o1|rfl|rfl|rfl|rfl|rfl|rfl|rfl|rfl|rfl|rfl|rfl
 ·have hb:binV op k n x k' n' x' most = .tuple #[vA 0 0 ⟨#[]⟩,.int .i64 2]:=by simp[binV,o1]
  rw[hb]at h
  unfold vA at h
  simp only[↓Zd,Zp,Zs,simprocAttr,vA,COpsR50,o1]
  exact h _ oL
 ·have o0:¬ op<1:=oM
  have hb:binV op k n x k' n' x' most = .tuple #[vA 0 0 ⟨#[]⟩,.int .i64 2]:=by simp[binV,o0,o1]
  rw[hb]at h
  unfold vA at h
  simp only[↓Zd,Zp,Zs,simprocAttr,vA,COpsR50,o0,o1]
  exact h _ oL
 ·have hb:binV 10 k n x k' n' x' most = .tuple #[vA 1 (boolN (sameV k n x k' n' x')) ⟨#[]⟩,.int .i64 0]:=by simp[binV]
  rw[hb]at h
  simp only[↓Zd,Zp,Zs,simprocAttr,COpsR51,vA,COpsR50,co91]
  refine rsame_le fun s1 hs1=>?_
  have hl1:s.next+2<s1.next:=by have:=hs1.1;(try simp only[nN]at this);omega
  simp only[↓Zd,Zp,simprocAttr,vA,COpsR50,co243,beq_true,beq_false]
  refine rtruthB_spec fun s2 hs2=>?_
  have hl2:s.next+2<s2.next:=by have:=hs2.1;(try simp only[Sn]at this);omega
  unfold vA at h ⊢
  simp only[↓Zd,Zp,Zs,simprocAttr,COpsR51,COpsR50,keep3OpsR5 (n:=s.next) hs2 oF,keep3OpsR5 (n:=s.next) hs1 (by first|omega|(simp only[nN];omega))]
  exact h _ oL
 ·have hb:binV 11 k n x k' n' x' most = .tuple #[vA 1 (boolN (!sameV k n x k' n' x')) ⟨#[]⟩,.int .i64 0]:=by simp[binV]
  rw[hb]at h
  simp only[↓Zd,Zp,Zs,simprocAttr,COpsR51,vA,COpsR50,co91]
  refine rsame_le fun s1 hs1=>?_
  have hl1:s.next+2<s1.next:=by have:=hs1.1;(try simp only[nN]at this);omega
  simp only[↓Zd,Zp,simprocAttr,vA,COpsR50,co243,beq_true,beq_false]
  refine rtruthB_spec fun s2 hs2=>?_
  have hl2:s.next+2<s2.next:=by have:=hs2.1;(try simp only[Sn]at this);omega
  unfold vA at h ⊢
  simp only[↓Zd,Zp,Zs,simprocAttr,COpsR51,COpsR50,keep3OpsR5 (n:=s.next) hs2 oF,keep3OpsR5 (n:=s.next) hs1 (by first|omega|(simp only[nN];omega))]
  exact h _ oL
 ·have hb:binV 1 k n x k' n' x' most = .tuple #[vA 0 0 ⟨#[]⟩,.int .i64 30]:=by simp[binV,k1,k2]
  rw[hb]at h
  unfold vA at h
  by_cases kk:k=k'
  ·have kk':¬ k'=2:=kk▸k1
   have kk3:¬ k'=3:=kk▸k2
   simp only[↓Zd,Zp,Zs,simprocAttr,vA,COpsR50,kk,kk',kk3]
   exact h _ oL
  ·simp only[↓Zd,Zp,Zs,simprocAttr,vA,COpsR50,kk]
   exact h _ oL
 ·have hb:binV 2 k n x k' n' x' most = .tuple #[vA 0 0 ⟨#[]⟩,.int .i64 30]:=by simp[binV,k1,k2]
  rw[hb]at h
  unfold vA at h
  by_cases kk:k=k'
  ·have kk':¬ k'=2:=kk▸k1
   have kk3:¬ k'=3:=kk▸k2
   simp only[↓Zd,Zp,Zs,simprocAttr,vA,COpsR50,kk,kk',kk3]
   exact h _ oL
  ·simp only[↓Zd,Zp,Zs,simprocAttr,vA,COpsR50,kk]
   exact h _ oL
 ·have hb:binV 3 k n x k' n' x' most = .tuple #[vA 0 0 ⟨#[]⟩,.int .i64 30]:=by simp[binV,k1,k2]
  rw[hb]at h
  unfold vA at h
  by_cases kk:k=k'
  ·have kk':¬ k'=2:=kk▸k1
   have kk3:¬ k'=3:=kk▸k2
   simp only[↓Zd,Zp,Zs,simprocAttr,vA,COpsR50,kk,kk',kk3]
   exact h _ oL
  ·simp only[↓Zd,Zp,Zs,simprocAttr,vA,COpsR50,kk]
   exact h _ oL
 ·have hb:binV 4 k n x k' n' x' most = .tuple #[vA 0 0 ⟨#[]⟩,.int .i64 30]:=by simp[binV,k1,k2]
  rw[hb]at h
  unfold vA at h
  by_cases kk:k=k'
  ·have kk':¬ k'=2:=kk▸k1
   have kk3:¬ k'=3:=kk▸k2
   simp only[↓Zd,Zp,Zs,simprocAttr,vA,COpsR50,kk,kk',kk3]
   exact h _ oL
  ·simp only[↓Zd,Zp,Zs,simprocAttr,vA,COpsR50,kk]
   exact h _ oL
 ·have hb:binV 5 k n x k' n' x' most = .tuple #[vA 0 0 ⟨#[]⟩,.int .i64 30]:=by simp[binV,k1,k2]
  rw[hb]at h
  unfold vA at h
  by_cases kk:k=k'
  ·have kk':¬ k'=2:=kk▸k1
   have kk3:¬ k'=3:=kk▸k2
   simp only[↓Zd,Zp,Zs,simprocAttr,vA,COpsR50,kk,kk',kk3]
   exact h _ oL
  ·simp only[↓Zd,Zp,Zs,simprocAttr,vA,COpsR50,kk]
   exact h _ oL
 ·have hb:binV 6 k n x k' n' x' most = .tuple #[vA 0 0 ⟨#[]⟩,.int .i64 30]:=by simp[binV,k1,k2]
  rw[hb]at h
  unfold vA at h
  by_cases kk:k=k'
  ·have kk':¬ k'=2:=kk▸k1
   have kk3:¬ k'=3:=kk▸k2
   simp only[↓Zd,Zp,Zs,simprocAttr,vA,COpsR50,kk,kk',kk3]
   exact h _ oL
  ·simp only[↓Zd,Zp,Zs,simprocAttr,vA,COpsR50,kk]
   exact h _ oL
 ·have hb:binV 7 k n x k' n' x' most = .tuple #[vA 0 0 ⟨#[]⟩,.int .i64 30]:=by simp[binV,k1,k2]
  rw[hb]at h
  unfold vA at h
  by_cases kk:k=k'
  ·have kk':¬ k'=2:=kk▸k1
   have kk3:¬ k'=3:=kk▸k2
   simp only[↓Zd,Zp,Zs,simprocAttr,vA,COpsR50,kk,kk',kk3]
   exact h _ oL
  ·simp only[↓Zd,Zp,Zs,simprocAttr,vA,COpsR50,kk]
   exact h _ oL
 ·have hb:binV 8 k n x k' n' x' most = .tuple #[vA 0 0 ⟨#[]⟩,.int .i64 30]:=by simp[binV,k1,k2]
  rw[hb]at h
  unfold vA at h
  by_cases kk:k=k'
  ·have kk':¬ k'=2:=kk▸k1
   have kk3:¬ k'=3:=kk▸k2
   simp only[↓Zd,Zp,Zs,simprocAttr,vA,COpsR50,kk,kk',kk3]
   exact h _ oL
  ·simp only[↓Zd,Zp,Zs,simprocAttr,vA,COpsR50,kk]
   exact h _ oL
 ·have hb:binV 9 k n x k' n' x' most = .tuple #[vA 0 0 ⟨#[]⟩,.int .i64 30]:=by simp[binV,k1,k2]
  rw[hb]at h
  unfold vA at h
  by_cases kk:k=k'
  ·have kk':¬ k'=2:=kk▸k1
   have kk3:¬ k'=3:=kk▸k2
   simp only[↓Zd,Zp,Zs,simprocAttr,vA,COpsR50,kk,kk',kk3]
   exact h _ oL
  ·simp only[↓Zd,Zp,Zs,simprocAttr,vA,COpsR50,kk]
   exact h _ oL
end
section
end
section
theorem rbin_spec{op k n k' n':Int}{x x':ByteArray}{most:Int}(hn:I64 n)(hx:x.size≤1000000)(hx':x'.size≤1000000)(h:∀ s',s.le s'→R (binV op k n x k' n' x' most) s') :
  QC prog w0 188 #[.int .i64 op,vA k n x,vA k' n' x',.int .i64 most] s R:=by
 by_cases h2:k=2
 ·subst h2
  by_cases h3:k'=2
  ·subst h3;exact rbin_R1 (k:=0) (k':=0) hn hx hx' h
  ·exact rbin_R2 (k:=0) hn hx hx' h3 h
 ·by_cases h4:k=3
  ·subst h4
   by_cases h3:k'=3
   ·subst h3;exact rbin_R3 (k:=0) (k':=0) hn hx hx' h
   ·exact rbin_R4 (k:=0) hn hx hx' h3 h
  ·exact rbin_R5 hn hx hx' h2 h4 h
end
theorem works18d:trial prog 8=(trial prog 8).dup:=oK
section
theorem works18_spec(h:R (.bool true) s):QC prog w0 8 #[] s R:=
 QC.mono (ccalls_of_closed fun w=>calls_true hmix works18d w) fun _ _ ⟨e1,e2⟩=>by rw[e1,e2];exact h
end
end Go.Proofs.Tryz
