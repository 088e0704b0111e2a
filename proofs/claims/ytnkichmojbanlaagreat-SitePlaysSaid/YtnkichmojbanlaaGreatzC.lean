/- Lemmas, laid one behind the other by squeeze2.py. -/
import Derived.Test.YtnkichmojbanlaaGreatzB
import Derived.Test.YtnkichmojbanlaaGreatChecked
set_option linter.unusedSimpArgs false
set_option linter.unusedVariables false
set_option linter.unusedSectionVars false
set_option linter.defProp false
section
namespace Go.Cs
section
variable {M:Type}[Mem M]{P:Program}{w0:World}{s:St M}{ev:Operand→Value}{d:Option Tmp}{ty t xt:TypeId}{pos:String}{af:Array Edge}{g:Option (Nat×Bool)}{x:Operand}{K:Value→St M→Prop}{F:Value→St M→Option Value→Prop}
theorem o_assert{ok:Bool}:wop P w0 ⟨d,.typeAssert x xt t ok,ty,pos,af,g⟩ ev s K=must (cassert P (ev x) t ok) fun v=>K v s:=rfl
theorem f_assert{ok:Bool}:wfop P ⟨d,.typeAssert x xt t ok,ty,pos,af,g⟩ ev s F=must (cassert P (ev x) t ok) fun v=>F v s none:=rfl
def cmkI(P:Program)(t:TypeId)(v:Value):Option Value:=match P.underlying t with
  |some (.interface _)=>none
  |some _=>some (.iface t v)
  |none=>none
theorem o_mkIface:wop P w0 ⟨d,.makeInterface t x,ty,pos,af,g⟩ ev s K=must (cmkI P t (ev x)) fun v=>K v s:=rfl
theorem f_mkIface:wfop P ⟨d,.makeInterface t x,ty,pos,af,g⟩ ev s F=must (cmkI P t (ev x)) fun v=>F v s none:=rfl
theorem mkI_p{t e:TypeId}{v:Value}(h:P.underlying t=some (.pointer e)):cmkI P t v=some (.iface t v):=by unfold cmkI;rw[h]
theorem mkI_s{t:TypeId}{fs:Array Field}{v:Value}(h:P.underlying t=some (.struct fs)):cmkI P t v=some (.iface t v):=by unfold cmkI;rw[h]
theorem o_min{args:Array Operand}{ats:Array TypeId}:wop P w0 ⟨d,.call ⟨.builtin .min,args,ats⟩,ty,pos,af,g⟩ ev s K=must (cbuiltin P .min ats ty (args.map ev)) fun v=>K v s:=rfl
theorem o_max{args:Array Operand}{ats:Array TypeId}:wop P w0 ⟨d,.call ⟨.builtin .max,args,ats⟩,ty,pos,af,g⟩ ev s K=must (cbuiltin P .max ats ty (args.map ev)) fun v=>K v s:=rfl
theorem bi_min{ats:Array TypeId}{ty:TypeId}{k k2:IntKind}{a b:Int}:cbuiltin P .min ats ty #[.int k a,.int k2 b]=some (.int k (if b<a then b else a)):=rfl
theorem bi_max{ats:Array TypeId}{ty:TypeId}{k k2:IntKind}{a b:Int}:cbuiltin P .max ats ty #[.int k a,.int k2 b]=some (.int k (if b>a then b else a)):=rfl
end
end Go.Cs
end
section
namespace Go.Cs
def decL(n:Nat):List UInt8:=if n<10 then [UInt8.ofNat (48+n)] else decL (n / 10) ++ [UInt8.ofNat (48+n % 10)]
termination_by n
decreasing_by omega
theorem decL_lt{n:Nat}(h:n<10):decL n=[UInt8.ofNat (48+n)]:=by rw[decL,if_pos h]
theorem decL_ge{n:Nat}(h:10≤n):decL n=decL (n / 10) ++ [UInt8.ofNat (48+n % 10)]:=by rw[decL,if_neg (by omega)]
def digL(n:Int):List UInt8:=if n<0 then 45::decL n.natAbs else decL n.natAbs
def digS(n:Int):ByteArray:=⟨(digL n).toArray⟩
theorem ba_append(a b:List UInt8):(⟨a.toArray⟩:ByteArray)++⟨b.toArray⟩=⟨(a++b).toArray⟩:=by
 apply ByteArray.ext
 simp[ByteArray.data_append]
theorem ba_size(a:List UInt8):(⟨a.toArray⟩:ByteArray).size=a.length:=rfl
theorem decL_len_pow:∀ (k n:Nat),n<10 ^ (k+1)→(decL n).length≤k+1:=by
 intro k
 induction k with
 |zero=>intro n h;rw[decL_lt (by simpa using h)];simp
 |succ k ih =>
  intro n h
  by_cases h10:n<10
  ·rw[decL_lt h10];simp
  ·rw[decL_ge (by omega)]
   have:=ih (n / 10) (by rw[Nat.div_lt_iff_lt_mul (by omega)];rw[Nat.pow_succ]at h;omega)
   simp;omega
theorem drop_set_self{vs:List Value}{o:Nat}{v:Value}(h:o<vs.length):(vs.set o v).drop o=v::vs.drop (o+1):=by
 rw[List.drop_eq_getElem_cons (by simpa using h)]
 simp[List.drop_set]
end Go.Cs
end
namespace Go.Proofs.Tryz
open Go.Cs
open Go.RowKit (Below)
set_option maxRecDepth 100000
attribute [local irreducible] QC WLoop WScope CRound WRange
set_option maxHeartbeats 32000000
variable {M:Type}[Mem M]{w0:World}{s:St M}{R:Value→St M→Prop}
theorem hmix:prog.follows .mixedOrders=true:=by kernel_rfl
def ord5:Ord:=[]
theorem ok5:qF prog 5 ord5=true:=by kernel_rfl
def ord6:Ord:=[(1,[⟨0,false,[]⟩,⟨3,false,[]⟩,⟨4,false,[]⟩,⟨6,false,[]⟩,⟨7,false,[]⟩,⟨1,true,[7,6,4,3]⟩,⟨2,true,[7,6,4,3]⟩,⟨5,true,[7,6]⟩,⟨8,true,[]⟩,⟨9,false,[]⟩,⟨10,false,[]⟩,⟨11,true,[]⟩])]
theorem ok6:qF prog 6 ord6=true:=by kernel_rfl
def co6:=qO ok6
def ord7:Ord:=[(1,[⟨0,false,[]⟩,⟨1,false,[]⟩,⟨3,false,[]⟩,⟨4,false,[]⟩,⟨6,false,[]⟩,⟨2,true,[6,4,3]⟩,⟨5,true,[6]⟩,⟨7,true,[]⟩,⟨8,false,[]⟩,⟨9,false,[]⟩,⟨10,true,[]⟩])]
theorem ok7:qF prog 7 ord7=true:=by kernel_rfl
def co7:=qO ok7
def ord8:Ord:=[(5,[⟨0,false,[]⟩,⟨1,false,[]⟩,⟨2,false,[]⟩,⟨3,false,[]⟩,⟨4,false,[]⟩,⟨5,false,[]⟩,⟨6,false,[]⟩,⟨7,false,[]⟩,⟨8,false,[]⟩,⟨9,false,[]⟩,⟨10,true,[0]⟩,⟨11,false,[]⟩,⟨12,false,[]⟩,⟨13,true,[]⟩])]
theorem ok8:qF prog 8 ord8=true:=by kernel_rfl
def co8:=qO ok8
def ord9:Ord:=[]
theorem ok9:qF prog 9 ord9=true:=by kernel_rfl
def co9:=qO ok9
def ord10:Ord:=[]
theorem ok10:qF prog 10 ord10=true:=by kernel_rfl
def co10:=qO ok10
def ord11:Ord:=[]
theorem ok11:qF prog 11 ord11=true:=by kernel_rfl
def co11:=qO ok11
def ord12:Ord:=[]
theorem ok12:qF prog 12 ord12=true:=by kernel_rfl
def co12:=qO ok12
def ord13:Ord:=[]
theorem ok13:qF prog 13 ord13=true:=by kernel_rfl
def co13:=qO ok13
def ord14:Ord:=[(7,[⟨0,false,[]⟩,⟨1,false,[]⟩,⟨2,false,[]⟩,⟨3,false,[]⟩,⟨4,false,[]⟩,⟨5,false,[]⟩,⟨6,false,[]⟩,⟨7,false,[]⟩,⟨8,false,[]⟩,⟨9,false,[]⟩,⟨11,false,[]⟩,⟨12,false,[]⟩,⟨13,false,[]⟩,⟨14,false,[]⟩,⟨15,false,[]⟩,⟨16,false,[]⟩,⟨17,false,[]⟩,⟨18,false,[]⟩,⟨19,false,[]⟩,⟨20,false,[]⟩,⟨10,true,[20,19,18,17,16,15,14,13,12,11]⟩,⟨21,true,[]⟩,⟨22,false,[]⟩,⟨23,true,[]⟩]),(9,[⟨0,false,[]⟩,⟨1,false,[]⟩,⟨2,false,[]⟩,⟨3,false,[]⟩,⟨4,false,[]⟩,⟨5,false,[]⟩,⟨6,false,[]⟩,⟨7,false,[]⟩,⟨8,false,[]⟩,⟨9,false,[]⟩,⟨10,false,[]⟩,⟨11,false,[]⟩,⟨13,false,[]⟩,⟨14,false,[]⟩,⟨15,false,[]⟩,⟨16,false,[]⟩,⟨17,false,[]⟩,⟨18,false,[]⟩,⟨19,false,[]⟩,⟨20,false,[]⟩,⟨21,false,[]⟩,⟨22,false,[]⟩,⟨23,false,[]⟩,⟨24,false,[]⟩,⟨12,true,[24,23,22,21,20,19,18,17,16,15,14,13]⟩,⟨25,true,[]⟩,⟨26,false,[]⟩,⟨27,true,[]⟩]),(11,[⟨0,false,[]⟩,⟨1,false,[]⟩,⟨2,false,[]⟩,⟨3,false,[]⟩,⟨4,false,[]⟩,⟨5,false,[]⟩,⟨6,false,[]⟩,⟨8,false,[]⟩,⟨9,false,[]⟩,⟨10,false,[]⟩,⟨11,false,[]⟩,⟨12,false,[]⟩,⟨13,false,[]⟩,⟨14,false,[]⟩,⟨7,true,[14,13,12,11,10,9,8]⟩,⟨15,true,[]⟩,⟨16,false,[]⟩,⟨17,true,[]⟩]),(13,[⟨0,false,[]⟩,⟨1,false,[]⟩,⟨2,false,[]⟩,⟨3,false,[]⟩,⟨4,false,[]⟩,⟨6,false,[]⟩,⟨7,false,[]⟩,⟨8,false,[]⟩,⟨9,false,[]⟩,⟨10,false,[]⟩,⟨5,true,[10,9,8,7,6]⟩,⟨11,true,[]⟩,⟨12,false,[]⟩,⟨13,true,[]⟩]),(15,[⟨0,false,[]⟩,⟨1,false,[]⟩,⟨2,false,[]⟩,⟨3,false,[]⟩,⟨4,false,[]⟩,⟨6,false,[]⟩,⟨7,false,[]⟩,⟨8,false,[]⟩,⟨9,false,[]⟩,⟨10,false,[]⟩,⟨5,true,[10,9,8,7,6]⟩,⟨11,true,[]⟩,⟨12,false,[]⟩,⟨13,true,[]⟩])]
theorem ok14:qF prog 14 ord14=true:=by kernel_rfl
def co14:=qO ok14
def ord15:Ord:=[(10,[⟨0,false,[]⟩,⟨1,false,[]⟩,⟨2,false,[]⟩,⟨3,false,[]⟩,⟨4,false,[]⟩,⟨5,false,[]⟩,⟨6,false,[]⟩,⟨7,false,[]⟩,⟨8,true,[0]⟩,⟨9,false,[]⟩,⟨10,false,[]⟩,⟨11,true,[]⟩])]
theorem ok15:qF prog 15 ord15=true:=by kernel_rfl
def co15:=qO ok15
def ord17:Ord:=[(3,[⟨0,false,[]⟩,⟨1,false,[]⟩,⟨2,false,[]⟩,⟨3,false,[]⟩,⟨4,false,[]⟩,⟨5,false,[]⟩,⟨6,false,[]⟩,⟨7,false,[]⟩,⟨8,false,[]⟩,⟨9,false,[]⟩,⟨10,true,[]⟩])]
theorem ok17:qF prog 17 ord17=true:=by kernel_rfl
def co17:=qO ok17
def ord18:Ord:=[]
theorem ok18:qF prog 18 ord18=true:=by kernel_rfl
def co18:=qO ok18
def ord19:Ord:=[]
theorem ok19:qF prog 19 ord19=true:=by kernel_rfl
def co19:=qO ok19
def ord20:Ord:=[(11,[⟨0,false,[]⟩,⟨1,false,[]⟩,⟨2,false,[]⟩,⟨3,false,[]⟩,⟨4,false,[]⟩,⟨5,false,[]⟩,⟨6,false,[]⟩,⟨7,true,[]⟩,⟨8,true,[]⟩]),(12,[⟨0,false,[]⟩,⟨1,false,[]⟩,⟨2,false,[]⟩,⟨3,false,[]⟩,⟨4,false,[]⟩,⟨5,false,[]⟩,⟨6,false,[]⟩,⟨7,true,[]⟩])]
theorem ok20:qF prog 20 ord20=true:=by kernel_rfl
def co20:=qO ok20
def ord21:Ord:=[(10,[⟨0,false,[]⟩,⟨2,false,[]⟩,⟨3,false,[]⟩,⟨4,false,[]⟩,⟨5,false,[]⟩,⟨1,true,[5,4,3,2]⟩,⟨6,false,[]⟩]),(17,[⟨0,false,[]⟩,⟨1,false,[]⟩,⟨2,false,[]⟩,⟨3,false,[]⟩,⟨4,false,[]⟩,⟨5,false,[]⟩,⟨6,false,[]⟩,⟨7,false,[]⟩,⟨8,false,[]⟩,⟨9,true,[2,1,0]⟩,⟨10,false,[]⟩,⟨11,false,[]⟩,⟨12,true,[1]⟩,⟨13,false,[]⟩,⟨14,false,[]⟩,⟨15,true,[]⟩]),(19,[⟨0,false,[]⟩,⟨1,false,[]⟩,⟨3,false,[]⟩,⟨4,false,[]⟩,⟨2,true,[4,3]⟩,⟨5,true,[]⟩])]
theorem ok21:qF prog 21 ord21=true:=by kernel_rfl
def co21:=qO ok21
def ord22:Ord:=[]
theorem ok22:qF prog 22 ord22=true:=by kernel_rfl
def co22:=qO ok22
def ord23:Ord:=[(12,[⟨0,false,[]⟩,⟨1,false,[]⟩,⟨2,false,[]⟩,⟨3,false,[]⟩,⟨4,false,[]⟩,⟨5,false,[]⟩,⟨6,false,[]⟩,⟨7,false,[]⟩,⟨8,false,[]⟩,⟨9,true,[]⟩,⟨10,true,[]⟩])]
theorem ok23:qF prog 23 ord23=true:=by kernel_rfl
def co23:=qO ok23
def ord24:Ord:=[(4,[⟨0,false,[]⟩,⟨1,false,[]⟩,⟨2,false,[]⟩,⟨3,false,[]⟩,⟨4,false,[]⟩,⟨5,false,[]⟩,⟨6,false,[]⟩,⟨7,false,[]⟩,⟨8,false,[]⟩,⟨9,false,[]⟩,⟨10,false,[]⟩,⟨11,false,[]⟩,⟨12,false,[]⟩,⟨13,false,[]⟩,⟨14,false,[]⟩,⟨15,false,[]⟩,⟨16,false,[]⟩,⟨17,false,[]⟩,⟨18,false,[]⟩,⟨19,false,[]⟩,⟨20,false,[]⟩,⟨21,true,[]⟩])]
theorem ok24:qF prog 24 ord24=true:=by kernel_rfl
def co24:=qO ok24
def ord25:Ord:=[]
theorem ok25:qF prog 25 ord25=true:=by kernel_rfl
def co25:=qO ok25
def ord26:Ord:=[]
theorem ok26:qF prog 26 ord26=true:=by kernel_rfl
def co26:=qO ok26
def ord27:Ord:=[(19,[⟨0,false,[]⟩,⟨1,false,[]⟩,⟨2,false,[]⟩,⟨3,false,[]⟩,⟨4,false,[]⟩,⟨5,false,[]⟩,⟨6,false,[]⟩,⟨7,false,[]⟩,⟨8,false,[]⟩,⟨9,false,[]⟩,⟨10,true,[7,6,5,4]⟩,⟨11,true,[]⟩]),(25,[⟨0,false,[]⟩,⟨1,false,[]⟩,⟨2,false,[]⟩,⟨3,false,[]⟩,⟨4,false,[]⟩,⟨5,false,[]⟩,⟨6,false,[]⟩,⟨7,false,[]⟩,⟨8,false,[]⟩,⟨9,false,[]⟩,⟨10,false,[]⟩,⟨11,false,[]⟩,⟨12,false,[]⟩,⟨13,false,[]⟩,⟨14,false,[]⟩,⟨15,false,[]⟩,⟨16,false,[]⟩,⟨17,false,[]⟩,⟨18,false,[]⟩,⟨19,false,[]⟩,⟨20,false,[]⟩,⟨21,false,[]⟩,⟨22,false,[]⟩,⟨23,false,[]⟩,⟨24,false,[]⟩,⟨25,false,[]⟩,⟨26,false,[]⟩,⟨27,false,[]⟩])]
theorem ok27:qF prog 27 ord27=true:=by kernel_rfl
def co27:=qO ok27
def ord28:Ord:=[(6,[⟨0,false,[]⟩,⟨1,false,[]⟩,⟨2,false,[]⟩,⟨3,false,[]⟩,⟨7,false,[]⟩,⟨8,false,[]⟩,⟨9,false,[]⟩,⟨10,false,[]⟩,⟨4,true,[10,9,8,7,1,0]⟩,⟨5,false,[]⟩,⟨6,false,[]⟩,⟨11,true,[6,5,1,0]⟩,⟨12,false,[]⟩,⟨13,true,[]⟩]),(10,[⟨0,false,[]⟩,⟨1,false,[]⟩,⟨2,false,[]⟩,⟨3,false,[]⟩,⟨4,false,[]⟩,⟨5,false,[]⟩,⟨6,false,[]⟩,⟨7,false,[]⟩,⟨8,false,[]⟩,⟨9,false,[]⟩,⟨10,false,[]⟩,⟨11,false,[]⟩,⟨12,false,[]⟩,⟨13,false,[]⟩,⟨14,false,[]⟩,⟨15,false,[]⟩,⟨16,false,[]⟩,⟨17,false,[]⟩,⟨18,false,[]⟩,⟨19,false,[]⟩,⟨20,true,[11,10,9,8,7,6,5,4,3,2,1,0]⟩,⟨21,false,[]⟩,⟨22,true,[]⟩])]
theorem ok28:qF prog 28 ord28=true:=by kernel_rfl
def co28:=qO ok28
def ord29:Ord:=[]
theorem ok29:qF prog 29 ord29=true:=by kernel_rfl
def co29:=qO ok29
def ord30:Ord:=[]
theorem ok30:qF prog 30 ord30=true:=by kernel_rfl
def co30:=qO ok30
def ord31:Ord:=[]
theorem ok31:qF prog 31 ord31=true:=by kernel_rfl
def co31:=qO ok31
def ord32:Ord:=[]
theorem ok32:qF prog 32 ord32=true:=by kernel_rfl
def co32:=qO ok32
def ord33:Ord:=[]
theorem ok33:qF prog 33 ord33=true:=by kernel_rfl
def co33:=qO ok33
def ord34:Ord:=[(3,[⟨0,false,[]⟩,⟨1,false,[]⟩,⟨2,false,[]⟩,⟨3,false,[]⟩,⟨4,false,[]⟩,⟨5,false,[]⟩,⟨6,false,[]⟩,⟨7,false,[]⟩,⟨8,true,[7,6,5,4]⟩,⟨9,true,[]⟩])]
theorem ok34:qF prog 34 ord34=true:=by kernel_rfl
def co34:=qO ok34
def ord35:Ord:=[]
theorem ok35:qF prog 35 ord35=true:=by kernel_rfl
def co35:=qO ok35
def ord36:Ord:=[]
theorem ok36:qF prog 36 ord36=true:=by kernel_rfl
def co36:=qO ok36
def ord37:Ord:=[]
theorem ok37:qF prog 37 ord37=true:=by kernel_rfl
def co37:=qO ok37
def ord38:Ord:=[(1,[⟨0,false,[]⟩,⟨1,false,[]⟩,⟨2,false,[]⟩,⟨3,false,[]⟩,⟨4,false,[]⟩,⟨5,false,[]⟩,⟨6,false,[]⟩,⟨7,false,[]⟩,⟨8,false,[]⟩,⟨9,false,[]⟩]),(3,[⟨0,false,[]⟩,⟨1,false,[]⟩,⟨2,false,[]⟩,⟨3,false,[]⟩,⟨4,false,[]⟩,⟨5,false,[]⟩,⟨6,false,[]⟩,⟨7,false,[]⟩,⟨8,false,[]⟩,⟨9,true,[4,3,2,1,0]⟩,⟨10,false,[]⟩,⟨11,false,[]⟩,⟨12,false,[]⟩,⟨13,true,[0]⟩,⟨14,false,[]⟩,⟨15,false,[]⟩,⟨16,true,[]⟩])]
theorem ok38:qF prog 38 ord38=true:=by kernel_rfl
def co38:=qO ok38
def ord39:Ord:=[(5,[⟨0,false,[]⟩,⟨1,false,[]⟩,⟨2,false,[]⟩,⟨3,false,[]⟩,⟨4,false,[]⟩,⟨5,false,[]⟩,⟨6,false,[]⟩,⟨7,false,[]⟩,⟨8,false,[]⟩,⟨9,false,[]⟩,⟨10,false,[]⟩,⟨11,false,[]⟩,⟨12,false,[]⟩,⟨13,true,[10,9,8,7,6,5,4,3,2,1,0]⟩,⟨14,true,[]⟩,⟨15,true,[]⟩])]
theorem ok39:qF prog 39 ord39=true:=by kernel_rfl
def co39:=qO ok39
def ord40:Ord:=[]
theorem ok40:qF prog 40 ord40=true:=by kernel_rfl
def co40:=qO ok40
def ord41:Ord:=[(5,[⟨0,false,[]⟩,⟨1,false,[]⟩,⟨2,false,[]⟩,⟨3,false,[]⟩,⟨4,false,[]⟩,⟨5,false,[]⟩,⟨6,false,[]⟩,⟨7,false,[]⟩,⟨8,false,[]⟩,⟨9,false,[]⟩,⟨10,false,[]⟩,⟨11,false,[]⟩,⟨12,false,[]⟩,⟨13,false,[]⟩,⟨14,false,[]⟩]),(10,[⟨0,false,[]⟩,⟨1,false,[]⟩,⟨2,false,[]⟩,⟨3,false,[]⟩,⟨4,false,[]⟩,⟨5,true,[]⟩])]
theorem ok41:qF prog 41 ord41=true:=by kernel_rfl
def co41:=qO ok41
def ord42:Ord:=[]
theorem ok42:qF prog 42 ord42=true:=by kernel_rfl
def co42:=qO ok42
def ord43:Ord:=[(14,[⟨0,false,[]⟩,⟨1,false,[]⟩,⟨2,false,[]⟩,⟨3,false,[]⟩,⟨4,false,[]⟩,⟨5,false,[]⟩,⟨6,false,[]⟩,⟨7,false,[]⟩,⟨8,false,[]⟩,⟨9,false,[]⟩,⟨10,true,[0]⟩,⟨11,false,[]⟩,⟨12,false,[]⟩,⟨13,true,[]⟩])]
theorem ok43:qF prog 43 ord43=true:=by kernel_rfl
def co43:=qO ok43
def ord44:Ord:=[(3,[⟨0,false,[]⟩,⟨1,false,[]⟩,⟨2,false,[]⟩,⟨3,false,[]⟩,⟨4,false,[]⟩,⟨5,false,[]⟩,⟨6,false,[]⟩,⟨7,false,[]⟩,⟨8,false,[]⟩,⟨9,false,[]⟩,⟨10,false,[]⟩,⟨11,false,[]⟩,⟨12,false,[]⟩,⟨13,false,[]⟩,⟨14,false,[]⟩,⟨15,false,[]⟩,⟨16,false,[]⟩,⟨17,false,[]⟩,⟨18,false,[]⟩,⟨19,false,[]⟩,⟨20,false,[]⟩,⟨21,false,[]⟩,⟨22,false,[]⟩,⟨23,false,[]⟩,⟨24,true,[]⟩])]
theorem ok44:qF prog 44 ord44=true:=by kernel_rfl
def co44:=qO ok44
def ord45:Ord:=[]
theorem ok45:qF prog 45 ord45=true:=by kernel_rfl
def co45:=qO ok45
def ord46:Ord:=[]
theorem ok46:qF prog 46 ord46=true:=by kernel_rfl
def co46:=qO ok46
def ord47:Ord:=[]
theorem ok47:qF prog 47 ord47=true:=by kernel_rfl
def co47:=qO ok47
def ord48:Ord:=[]
theorem ok48:qF prog 48 ord48=true:=by kernel_rfl
def co48:=qO ok48
def ord49:Ord:=[]
theorem ok49:qF prog 49 ord49=true:=by kernel_rfl
def co49:=qO ok49
def ord50:Ord:=[]
theorem ok50:qF prog 50 ord50=true:=by kernel_rfl
def co50:=qO ok50
def ord51:Ord:=[]
theorem ok51:qF prog 51 ord51=true:=by kernel_rfl
def co51:=qO ok51
def ord52:Ord:=[]
theorem ok52:qF prog 52 ord52=true:=by kernel_rfl
def co52:=qO ok52
def ord53:Ord:=[]
theorem ok53:qF prog 53 ord53=true:=by kernel_rfl
def co53:=qO ok53
def ord54:Ord:=[]
theorem ok54:qF prog 54 ord54=true:=by kernel_rfl
def co54:=qO ok54
def ord55:Ord:=[]
theorem ok55:qF prog 55 ord55=true:=by kernel_rfl
def co55:=qO ok55
def ord56:Ord:=[(10,[⟨0,false,[]⟩,⟨1,false,[]⟩,⟨2,false,[]⟩,⟨3,false,[]⟩,⟨4,false,[]⟩,⟨5,true,[2,1,0]⟩,⟨6,false,[]⟩,⟨7,false,[]⟩,⟨8,true,[]⟩,⟨9,false,[]⟩,⟨10,true,[]⟩])]
theorem ok56:qF prog 56 ord56=true:=by kernel_rfl
def co56:=qO ok56
def ord57:Ord:=[(3,[⟨0,false,[]⟩,⟨1,false,[]⟩,⟨2,false,[]⟩,⟨3,false,[]⟩,⟨4,false,[]⟩,⟨5,false,[]⟩,⟨6,false,[]⟩,⟨7,true,[]⟩]),(4,[⟨0,false,[]⟩,⟨1,false,[]⟩,⟨2,false,[]⟩,⟨3,false,[]⟩,⟨4,false,[]⟩,⟨5,true,[]⟩,⟨6,false,[]⟩,⟨7,false,[]⟩,⟨8,false,[]⟩,⟨9,true,[8]⟩,⟨10,true,[]⟩])]
theorem ok57:qF prog 57 ord57=true:=by kernel_rfl
def co57:=qO ok57
def ord58:Ord:=[]
theorem ok58:qF prog 58 ord58=true:=by kernel_rfl
def co58:=qO ok58
def ord59:Ord:=[]
theorem ok59:qF prog 59 ord59=true:=by kernel_rfl
def co59:=qO ok59
def ord60:Ord:=[(7,[⟨0,false,[]⟩,⟨1,false,[]⟩,⟨2,false,[]⟩,⟨3,false,[]⟩,⟨4,false,[]⟩,⟨5,false,[]⟩,⟨6,false,[]⟩,⟨7,false,[]⟩,⟨9,false,[]⟩,⟨10,false,[]⟩,⟨11,false,[]⟩,⟨12,false,[]⟩,⟨8,true,[12,11,10,9]⟩,⟨13,false,[]⟩,⟨14,false,[]⟩]),(9,[⟨0,false,[]⟩,⟨1,false,[]⟩,⟨2,false,[]⟩,⟨3,false,[]⟩,⟨4,false,[]⟩,⟨5,false,[]⟩,⟨6,false,[]⟩,⟨7,false,[]⟩,⟨8,false,[]⟩,⟨9,false,[]⟩]),(11,[⟨0,false,[]⟩,⟨1,false,[]⟩,⟨2,false,[]⟩,⟨3,false,[]⟩,⟨4,false,[]⟩,⟨5,false,[]⟩,⟨6,false,[]⟩,⟨7,false,[]⟩,⟨8,false,[]⟩,⟨9,true,[2,1,0]⟩,⟨10,false,[]⟩,⟨11,false,[]⟩,⟨12,true,[1]⟩,⟨13,false,[]⟩,⟨14,false,[]⟩,⟨15,true,[]⟩])]
theorem ok60:qF prog 60 ord60=true:=by kernel_rfl
def co60:=qO ok60
def ord61:Ord:=[(4,[⟨0,false,[]⟩,⟨1,false,[]⟩,⟨2,false,[]⟩,⟨3,false,[]⟩,⟨4,false,[]⟩,⟨5,false,[]⟩,⟨6,false,[]⟩,⟨7,true,[]⟩])]
theorem ok61:qF prog 61 ord61=true:=by kernel_rfl
def co61:=qO ok61
def ord62:Ord:=[]
theorem ok62:qF prog 62 ord62=true:=by kernel_rfl
def co62:=qO ok62
def ord63:Ord:=[(3,[⟨0,false,[]⟩,⟨1,false,[]⟩,⟨2,false,[]⟩,⟨3,false,[]⟩,⟨4,false,[]⟩,⟨5,false,[]⟩,⟨6,false,[]⟩,⟨7,false,[]⟩,⟨8,false,[]⟩,⟨9,false,[]⟩,⟨11,false,[]⟩,⟨10,true,[11,3,2,1,0]⟩,⟨12,false,[]⟩,⟨13,true,[]⟩]),(4,[⟨0,false,[]⟩,⟨1,false,[]⟩,⟨3,false,[]⟩,⟨4,false,[]⟩,⟨2,true,[4,3]⟩,⟨5,true,[]⟩])]
theorem ok63:qF prog 63 ord63=true:=by kernel_rfl
def co63:=qO ok63
def ord64:Ord:=[]
theorem ok64:qF prog 64 ord64=true:=by kernel_rfl
def co64:=qO ok64
def ord65:Ord:=[(6,[⟨0,false,[]⟩,⟨1,false,[]⟩,⟨2,false,[]⟩,⟨3,false,[]⟩,⟨4,false,[]⟩,⟨5,false,[]⟩,⟨6,false,[]⟩,⟨7,false,[]⟩,⟨8,false,[]⟩,⟨9,false,[]⟩,⟨10,true,[4,3,2,1,0]⟩,⟨11,true,[]⟩,⟨12,true,[]⟩])]
theorem ok65:qF prog 65 ord65=true:=by kernel_rfl
def co65:=qO ok65
def ord66:Ord:=[]
theorem ok66:qF prog 66 ord66=true:=by kernel_rfl
def co66:=qO ok66
def ord67:Ord:=[(5,[⟨0,false,[]⟩,⟨1,false,[]⟩,⟨2,false,[]⟩,⟨3,false,[]⟩,⟨4,false,[]⟩,⟨5,false,[]⟩,⟨6,false,[]⟩,⟨7,false,[]⟩,⟨8,true,[]⟩]),(7,[⟨0,false,[]⟩,⟨1,false,[]⟩,⟨2,false,[]⟩,⟨3,false,[]⟩,⟨4,false,[]⟩,⟨5,false,[]⟩,⟨6,false,[]⟩,⟨7,false,[]⟩,⟨8,false,[]⟩,⟨9,false,[]⟩,⟨10,true,[]⟩]),(8,[⟨0,false,[]⟩,⟨1,false,[]⟩,⟨2,false,[]⟩,⟨3,false,[]⟩,⟨4,false,[]⟩,⟨5,false,[]⟩,⟨6,false,[]⟩,⟨7,false,[]⟩,⟨8,false,[]⟩,⟨9,true,[0]⟩,⟨10,false,[]⟩,⟨11,false,[]⟩,⟨12,true,[]⟩])]
theorem ok67:qF prog 67 ord67=true:=by kernel_rfl
def co67:=qO ok67
def ord68:Ord:=[]
theorem ok68:qF prog 68 ord68=true:=by kernel_rfl
def co68:=qO ok68
def ord69:Ord:=[]
theorem ok69:qF prog 69 ord69=true:=by kernel_rfl
def co69:=qO ok69
def ord70:Ord:=[]
theorem ok70:qF prog 70 ord70=true:=by kernel_rfl
def co70:=qO ok70
def ord71:Ord:=[]
theorem ok71:qF prog 71 ord71=true:=by kernel_rfl
def co71:=qO ok71
def ord72:Ord:=[]
theorem ok72:qF prog 72 ord72=true:=by kernel_rfl
def co72:=qO ok72
def ord73:Ord:=[]
theorem ok73:qF prog 73 ord73=true:=by kernel_rfl
def co73:=qO ok73
def ord74:Ord:=[]
theorem ok74:qF prog 74 ord74=true:=by kernel_rfl
def co74:=qO ok74
def ord75:Ord:=[]
theorem ok75:qF prog 75 ord75=true:=by kernel_rfl
def co75:=qO ok75
def ord76:Ord:=[]
theorem ok76:qF prog 76 ord76=true:=by kernel_rfl
def co76:=qO ok76
def ord77:Ord:=[]
theorem ok77:qF prog 77 ord77=true:=by kernel_rfl
def co77:=qO ok77
def ord78:Ord:=[]
theorem ok78:qF prog 78 ord78=true:=by kernel_rfl
def co78:=qO ok78
def ord79:Ord:=[(1,[⟨0,false,[]⟩,⟨1,false,[]⟩,⟨2,false,[]⟩,⟨3,false,[]⟩,⟨4,false,[]⟩,⟨5,false,[]⟩,⟨6,false,[]⟩,⟨7,false,[]⟩,⟨8,false,[]⟩,⟨9,false,[]⟩,⟨10,true,[]⟩,⟨11,true,[]⟩])]
theorem ok79:qF prog 79 ord79=true:=by kernel_rfl
def co79:=qO ok79
def ord80:Ord:=[(7,[⟨0,false,[]⟩,⟨1,false,[]⟩,⟨2,true,[1,0]⟩,⟨3,true,[]⟩]),(8,[⟨0,false,[]⟩,⟨1,false,[]⟩,⟨2,false,[]⟩,⟨3,false,[]⟩,⟨4,false,[]⟩,⟨5,true,[4,3]⟩,⟨6,true,[]⟩])]
theorem ok80:qF prog 80 ord80=true:=by kernel_rfl
def co80:=qO ok80
def ord81:Ord:=[(4,[⟨0,false,[]⟩,⟨1,false,[]⟩,⟨2,false,[]⟩,⟨3,false,[]⟩,⟨4,false,[]⟩,⟨5,false,[]⟩,⟨6,false,[]⟩,⟨7,false,[]⟩,⟨8,true,[7,6,5,4]⟩,⟨9,true,[]⟩,⟨10,true,[]⟩])]
theorem ok81:qF prog 81 ord81=true:=by kernel_rfl
def co81:=qO ok81
def ord82:Ord:=[(3,[⟨0,false,[]⟩,⟨1,false,[]⟩,⟨2,false,[]⟩,⟨3,false,[]⟩,⟨4,false,[]⟩,⟨5,false,[]⟩,⟨6,false,[]⟩,⟨7,false,[]⟩,⟨8,false,[]⟩,⟨9,false,[]⟩,⟨10,false,[]⟩,⟨11,false,[]⟩,⟨12,false,[]⟩,⟨13,false,[]⟩,⟨14,false,[]⟩,⟨15,false,[]⟩,⟨16,false,[]⟩,⟨17,false,[]⟩,⟨18,false,[]⟩,⟨19,false,[]⟩,⟨20,false,[]⟩,⟨21,false,[]⟩,⟨22,false,[]⟩,⟨23,true,[22,21,20,19,18,17,16,15,14,13,12,11]⟩,⟨24,true,[]⟩,⟨25,true,[]⟩])]
theorem ok82:qF prog 82 ord82=true:=by kernel_rfl
def co82:=qO ok82
def ord83:Ord:=[]
theorem ok83:qF prog 83 ord83=true:=by kernel_rfl
def co83:=qO ok83
def ord84:Ord:=[]
theorem ok84:qF prog 84 ord84=true:=by kernel_rfl
def co84:=qO ok84
def ord85:Ord:=[]
theorem ok85:qF prog 85 ord85=true:=by kernel_rfl
def co85:=qO ok85
def ord86:Ord:=[]
theorem ok86:qF prog 86 ord86=true:=by kernel_rfl
def co86:=qO ok86
def ord87:Ord:=[]
theorem ok87:qF prog 87 ord87=true:=by kernel_rfl
def co87:=qO ok87
def ord88:Ord:=[]
theorem ok88:qF prog 88 ord88=true:=by kernel_rfl
def co88:=qO ok88
def ord89:Ord:=[]
theorem ok89:qF prog 89 ord89=true:=by kernel_rfl
def co89:=qO ok89
def ord90:Ord:=[(4,[⟨0,false,[]⟩,⟨1,false,[]⟩,⟨2,false,[]⟩,⟨3,false,[]⟩,⟨4,false,[]⟩,⟨5,false,[]⟩,⟨6,false,[]⟩,⟨7,false,[]⟩,⟨8,false,[]⟩,⟨9,false,[]⟩,⟨10,false,[]⟩,⟨11,false,[]⟩,⟨12,false,[]⟩,⟨13,false,[]⟩,⟨14,false,[]⟩,⟨15,false,[]⟩,⟨16,false,[]⟩,⟨17,false,[]⟩,⟨18,false,[]⟩,⟨19,false,[]⟩,⟨20,false,[]⟩,⟨21,false,[]⟩,⟨22,false,[]⟩])]
theorem ok90:qF prog 90 ord90=true:=by kernel_rfl
def co90:=qO ok90
def ord91:Ord:=[(12,[⟨0,false,[]⟩,⟨1,false,[]⟩,⟨2,false,[]⟩,⟨3,false,[]⟩,⟨4,false,[]⟩,⟨5,false,[]⟩,⟨6,false,[]⟩,⟨7,false,[]⟩,⟨8,false,[]⟩,⟨9,false,[]⟩,⟨10,false,[]⟩,⟨11,false,[]⟩,⟨12,false,[]⟩,⟨13,false,[]⟩,⟨14,false,[]⟩,⟨15,false,[]⟩,⟨16,true,[]⟩,⟨17,false,[]⟩,⟨18,true,[]⟩])]
theorem ok91:qF prog 91 ord91=true:=by kernel_rfl
def co91:=qO ok91
def ord92:Ord:=[(2,[⟨0,false,[]⟩,⟨1,false,[]⟩,⟨2,false,[]⟩,⟨3,false,[]⟩,⟨4,false,[]⟩,⟨5,false,[]⟩,⟨6,true,[]⟩,⟨7,true,[]⟩]),(4,[⟨0,false,[]⟩,⟨1,false,[]⟩,⟨2,false,[]⟩,⟨3,false,[]⟩,⟨4,false,[]⟩,⟨5,false,[]⟩,⟨6,false,[]⟩,⟨7,true,[]⟩]),(8,[⟨0,false,[]⟩,⟨1,false,[]⟩,⟨2,false,[]⟩,⟨3,false,[]⟩,⟨4,false,[]⟩,⟨5,false,[]⟩,⟨6,false,[]⟩,⟨7,true,[0]⟩,⟨8,false,[]⟩,⟨9,false,[]⟩,⟨10,true,[]⟩])]
theorem ok92:qF prog 92 ord92=true:=by kernel_rfl
def co92:=qO ok92
def ord93:Ord:=[]
theorem ok93:qF prog 93 ord93=true:=by kernel_rfl
def co93:=qO ok93
def ord94:Ord:=[]
theorem ok94:qF prog 94 ord94=true:=by kernel_rfl
def co94:=qO ok94
def ord95:Ord:=[]
theorem ok95:qF prog 95 ord95=true:=by kernel_rfl
def co95:=qO ok95
def ord96:Ord:=[(3,[⟨0,false,[]⟩,⟨1,false,[]⟩,⟨2,false,[]⟩,⟨3,false,[]⟩,⟨4,false,[]⟩,⟨5,false,[]⟩,⟨6,false,[]⟩,⟨7,false,[]⟩,⟨8,false,[]⟩,⟨9,true,[4,3,2,1,0]⟩,⟨10,true,[]⟩,⟨11,true,[]⟩])]
theorem ok96:qF prog 96 ord96=true:=by kernel_rfl
def co96:=qO ok96
def ord97:Ord:=[(3,[⟨0,false,[]⟩,⟨1,false,[]⟩,⟨2,false,[]⟩,⟨3,false,[]⟩,⟨4,false,[]⟩,⟨5,false,[]⟩,⟨6,false,[]⟩,⟨7,true,[]⟩]),(6,[⟨0,false,[]⟩,⟨1,false,[]⟩,⟨2,false,[]⟩,⟨3,false,[]⟩,⟨4,false,[]⟩,⟨5,false,[]⟩,⟨6,false,[]⟩,⟨7,true,[0]⟩,⟨8,false,[]⟩,⟨9,false,[]⟩,⟨10,true,[]⟩])]
theorem ok97:qF prog 97 ord97=true:=by kernel_rfl
def co97:=qO ok97
def ord98:Ord:=[]
theorem ok98:qF prog 98 ord98=true:=by kernel_rfl
def co98:=qO ok98
def ord99:Ord:=[]
theorem ok99:qF prog 99 ord99=true:=by kernel_rfl
def co99:=qO ok99
def ord100:Ord:=[]
theorem ok100:qF prog 100 ord100=true:=by kernel_rfl
def co100:=qO ok100
def ord101:Ord:=[]
theorem ok101:qF prog 101 ord101=true:=by kernel_rfl
def co101:=qO ok101
def ord102:Ord:=[(1,[⟨0,false,[]⟩,⟨1,false,[]⟩,⟨2,false,[]⟩,⟨3,false,[]⟩,⟨4,false,[]⟩,⟨5,false,[]⟩,⟨6,false,[]⟩,⟨7,false,[]⟩,⟨8,false,[]⟩,⟨9,false,[]⟩]),(3,[⟨0,false,[]⟩,⟨1,false,[]⟩,⟨2,false,[]⟩,⟨3,false,[]⟩,⟨4,false,[]⟩,⟨5,false,[]⟩,⟨6,false,[]⟩,⟨7,true,[0]⟩,⟨8,false,[]⟩,⟨9,false,[]⟩,⟨10,true,[]⟩])]
theorem ok102:qF prog 102 ord102=true:=by kernel_rfl
def co102:=qO ok102
def ord103:Ord:=[]
theorem ok103:qF prog 103 ord103=true:=by kernel_rfl
def co103:=qO ok103
def ord104:Ord:=[]
theorem ok104:qF prog 104 ord104=true:=by kernel_rfl
def co104:=qO ok104
def ord105:Ord:=[]
theorem ok105:qF prog 105 ord105=true:=by kernel_rfl
def co105:=qO ok105
def ord106:Ord:=[(1,[⟨0,false,[]⟩,⟨1,false,[]⟩,⟨2,false,[]⟩,⟨4,false,[]⟩,⟨5,false,[]⟩,⟨3,true,[5,4]⟩,⟨6,false,[]⟩,⟨7,true,[]⟩])]
theorem ok106:qF prog 106 ord106=true:=by kernel_rfl
def co106:=qO ok106
def ord107:Ord:=[]
theorem ok107:qF prog 107 ord107=true:=by kernel_rfl
def co107:=qO ok107
def ord108:Ord:=[(3,[⟨0,false,[]⟩,⟨2,false,[]⟩,⟨3,false,[]⟩,⟨1,true,[3,2]⟩,⟨4,true,[]⟩,⟨5,true,[]⟩,⟨6,true,[]⟩])]
theorem ok108:qF prog 108 ord108=true:=by kernel_rfl
def co108:=qO ok108
def ord109:Ord:=[]
theorem ok109:qF prog 109 ord109=true:=by kernel_rfl
def co109:=qO ok109
def ord110:Ord:=[]
theorem ok110:qF prog 110 ord110=true:=by kernel_rfl
def co110:=qO ok110
def ord111:Ord:=[]
theorem ok111:qF prog 111 ord111=true:=by kernel_rfl
def co111:=qO ok111
def ord112:Ord:=[]
theorem ok112:qF prog 112 ord112=true:=by kernel_rfl
def co112:=qO ok112
def ord113:Ord:=[]
theorem ok113:qF prog 113 ord113=true:=by kernel_rfl
def co113:=qO ok113
def ord114:Ord:=[]
theorem ok114:qF prog 114 ord114=true:=by kernel_rfl
def co114:=qO ok114
def ord115:Ord:=[]
theorem ok115:qF prog 115 ord115=true:=by kernel_rfl
def co115:=qO ok115
def ord116:Ord:=[]
theorem ok116:qF prog 116 ord116=true:=by kernel_rfl
def co116:=qO ok116
def ord117:Ord:=[(7,[⟨0,false,[]⟩,⟨1,false,[]⟩,⟨2,false,[]⟩,⟨3,false,[]⟩,⟨4,false,[]⟩,⟨5,false,[]⟩,⟨6,false,[]⟩,⟨7,false,[]⟩,⟨8,false,[]⟩,⟨9,false,[]⟩,⟨10,false,[]⟩,⟨11,false,[]⟩,⟨12,false,[]⟩,⟨13,true,[]⟩,⟨14,true,[]⟩])]
theorem ok117:qF prog 117 ord117=true:=by kernel_rfl
def co117:=qO ok117
def ord118:Ord:=[]
theorem ok118:qF prog 118 ord118=true:=by kernel_rfl
def co118:=qO ok118
def ord119:Ord:=[(1,[⟨0,false,[]⟩,⟨1,false,[]⟩,⟨2,false,[]⟩,⟨3,false,[]⟩,⟨4,false,[]⟩,⟨5,false,[]⟩,⟨6,false,[]⟩,⟨7,false,[]⟩,⟨8,true,[]⟩,⟨9,true,[]⟩]),(4,[⟨0,false,[]⟩,⟨1,false,[]⟩,⟨2,false,[]⟩,⟨3,false,[]⟩,⟨4,false,[]⟩,⟨5,false,[]⟩,⟨6,false,[]⟩,⟨7,false,[]⟩,⟨8,true,[]⟩,⟨9,false,[]⟩,⟨10,false,[]⟩,⟨11,true,[]⟩,⟨12,true,[]⟩])]
theorem ok119:qF prog 119 ord119=true:=by kernel_rfl
def co119:=qO ok119
def ord120:Ord:=[]
theorem ok120:qF prog 120 ord120=true:=by kernel_rfl
def co120:=qO ok120
def ord121:Ord:=[(0,[⟨0,false,[]⟩,⟨1,false,[]⟩,⟨2,false,[]⟩,⟨3,false,[]⟩,⟨4,false,[]⟩,⟨5,false,[]⟩,⟨6,false,[]⟩,⟨7,false,[]⟩,⟨8,false,[]⟩,⟨9,false,[]⟩,⟨10,false,[]⟩,⟨11,false,[]⟩,⟨12,false,[]⟩,⟨13,false,[]⟩,⟨14,false,[]⟩,⟨15,false,[]⟩,⟨16,false,[]⟩,⟨17,false,[]⟩,⟨18,false,[]⟩,⟨19,false,[]⟩]),(5,[⟨0,false,[]⟩,⟨1,false,[]⟩,⟨2,false,[]⟩,⟨3,false,[]⟩,⟨4,false,[]⟩,⟨5,false,[]⟩,⟨6,false,[]⟩,⟨7,true,[]⟩])]
theorem ok121:qF prog 121 ord121=true:=by kernel_rfl
def co121:=qO ok121
def ord122:Ord:=[]
theorem ok122:qF prog 122 ord122=true:=by kernel_rfl
def co122:=qO ok122
def ord123:Ord:=[]
theorem ok123:qF prog 123 ord123=true:=by kernel_rfl
def co123:=qO ok123
def ord124:Ord:=[]
theorem ok124:qF prog 124 ord124=true:=by kernel_rfl
def co124:=qO ok124
def ord125:Ord:=[]
theorem ok125:qF prog 125 ord125=true:=by kernel_rfl
def co125:=qO ok125
def ord126:Ord:=[]
theorem ok126:qF prog 126 ord126=true:=by kernel_rfl
def co126:=qO ok126
def ord127:Ord:=[]
theorem ok127:qF prog 127 ord127=true:=by kernel_rfl
def co127:=qO ok127
def ord128:Ord:=[]
theorem ok128:qF prog 128 ord128=true:=by kernel_rfl
def co128:=qO ok128
def ord129:Ord:=[]
theorem ok129:qF prog 129 ord129=true:=by kernel_rfl
def co129:=qO ok129
def ord130:Ord:=[(12,[⟨0,false,[]⟩,⟨1,false,[]⟩,⟨2,false,[]⟩,⟨3,false,[]⟩,⟨4,false,[]⟩,⟨5,false,[]⟩,⟨6,false,[]⟩,⟨7,false,[]⟩,⟨8,false,[]⟩,⟨9,false,[]⟩,⟨10,true,[]⟩,⟨11,true,[]⟩])]
theorem ok130:qF prog 130 ord130=true:=by kernel_rfl
def co130:=qO ok130
def ord131:Ord:=[]
theorem ok131:qF prog 131 ord131=true:=by kernel_rfl
def co131:=qO ok131
def ord132:Ord:=[(4,[⟨0,false,[]⟩,⟨1,false,[]⟩,⟨2,false,[]⟩,⟨3,false,[]⟩,⟨4,false,[]⟩,⟨5,false,[]⟩,⟨6,false,[]⟩,⟨7,false,[]⟩,⟨8,false,[]⟩,⟨9,false,[]⟩,⟨10,false,[]⟩,⟨11,false,[]⟩,⟨12,false,[]⟩,⟨13,false,[]⟩,⟨14,false,[]⟩,⟨15,false,[]⟩,⟨16,false,[]⟩,⟨17,false,[]⟩,⟨18,false,[]⟩,⟨19,false,[]⟩,⟨20,false,[]⟩,⟨21,false,[]⟩,⟨22,true,[]⟩,⟨23,false,[]⟩]),(6,[⟨0,false,[]⟩,⟨1,false,[]⟩,⟨2,false,[]⟩,⟨3,false,[]⟩,⟨4,false,[]⟩,⟨5,false,[]⟩,⟨6,false,[]⟩,⟨7,false,[]⟩,⟨8,false,[]⟩,⟨9,false,[]⟩]),(8,[⟨0,false,[]⟩,⟨1,false,[]⟩,⟨2,false,[]⟩,⟨3,false,[]⟩,⟨4,false,[]⟩,⟨5,false,[]⟩,⟨6,false,[]⟩,⟨7,true,[0]⟩,⟨8,false,[]⟩,⟨9,false,[]⟩,⟨10,true,[]⟩])]
theorem ok132:qF prog 132 ord132=true:=by kernel_rfl
def co132:=qO ok132
def ord133:Ord:=[]
theorem ok133:qF prog 133 ord133=true:=by kernel_rfl
def co133:=qO ok133
def ord134:Ord:=[]
theorem ok134:qF prog 134 ord134=true:=by kernel_rfl
def co134:=qO ok134
def ord135:Ord:=[]
theorem ok135:qF prog 135 ord135=true:=by kernel_rfl
def co135:=qO ok135
def ord136:Ord:=[]
theorem ok136:qF prog 136 ord136=true:=by kernel_rfl
def co136:=qO ok136
def ord137:Ord:=[(4,[⟨0,false,[]⟩,⟨1,false,[]⟩,⟨2,false,[]⟩,⟨3,false,[]⟩,⟨4,false,[]⟩,⟨5,false,[]⟩,⟨6,false,[]⟩,⟨7,false,[]⟩,⟨8,false,[]⟩,⟨9,false,[]⟩,⟨10,false,[]⟩,⟨11,false,[]⟩,⟨12,false,[]⟩,⟨13,true,[9,8,7,6,5,4,3,2,1,0]⟩,⟨14,false,[]⟩,⟨15,true,[]⟩,⟨16,true,[]⟩])]
theorem ok137:qF prog 137 ord137=true:=by kernel_rfl
def co137:=qO ok137
def ord138:Ord:=[]
theorem ok138:qF prog 138 ord138=true:=by kernel_rfl
def co138:=qO ok138
def ord139:Ord:=[]
theorem ok139:qF prog 139 ord139=true:=by kernel_rfl
def co139:=qO ok139
def ord140:Ord:=[]
theorem ok140:qF prog 140 ord140=true:=by kernel_rfl
def co140:=qO ok140
def ord141:Ord:=[]
theorem ok141:qF prog 141 ord141=true:=by kernel_rfl
def co141:=qO ok141
def ord142:Ord:=[]
theorem ok142:qF prog 142 ord142=true:=by kernel_rfl
def co142:=qO ok142
def ord143:Ord:=[]
theorem ok143:qF prog 143 ord143=true:=by kernel_rfl
def co143:=qO ok143
def ord144:Ord:=[]
theorem ok144:qF prog 144 ord144=true:=by kernel_rfl
def co144:=qO ok144
def ord145:Ord:=[]
theorem ok145:qF prog 145 ord145=true:=by kernel_rfl
def co145:=qO ok145
def ord146:Ord:=[]
theorem ok146:qF prog 146 ord146=true:=by kernel_rfl
def co146:=qO ok146
def ord147:Ord:=[]
theorem ok147:qF prog 147 ord147=true:=by kernel_rfl
def co147:=qO ok147
def ord148:Ord:=[(3,[⟨0,false,[]⟩,⟨1,false,[]⟩,⟨2,false,[]⟩,⟨3,false,[]⟩,⟨4,false,[]⟩,⟨5,false,[]⟩,⟨6,false,[]⟩,⟨7,false,[]⟩,⟨8,false,[]⟩,⟨9,false,[]⟩,⟨10,false,[]⟩,⟨11,false,[]⟩,⟨12,false,[]⟩,⟨13,true,[3,2]⟩,⟨14,false,[]⟩,⟨15,true,[]⟩])]
theorem ok148:qF prog 148 ord148=true:=by kernel_rfl
def co148:=qO ok148
theorem no149:qK prog 149=false:=by kernel_rfl
def ord150:Ord:=[]
theorem ok150:qF prog 150 ord150=true:=by kernel_rfl
def co150:=qO ok150
def ord151:Ord:=[]
theorem ok151:qF prog 151 ord151=true:=by kernel_rfl
def co151:=qO ok151
def ord152:Ord:=[]
theorem ok152:qF prog 152 ord152=true:=by kernel_rfl
def co152:=qO ok152
def ord153:Ord:=[(6,[⟨0,false,[]⟩,⟨1,false,[]⟩,⟨2,false,[]⟩,⟨3,false,[]⟩,⟨4,false,[]⟩,⟨5,false,[]⟩,⟨6,false,[]⟩,⟨7,false,[]⟩,⟨8,false,[]⟩])]
theorem ok153:qF prog 153 ord153=true:=by kernel_rfl
def co153:=qO ok153
def ord154:Ord:=[(2,[⟨0,false,[]⟩,⟨1,false,[]⟩,⟨2,false,[]⟩,⟨3,false,[]⟩,⟨4,false,[]⟩,⟨5,true,[]⟩,⟨6,true,[]⟩])]
theorem ok154:qF prog 154 ord154=true:=by kernel_rfl
def co154:=qO ok154
def ord155:Ord:=[]
theorem ok155:qF prog 155 ord155=true:=by kernel_rfl
def co155:=qO ok155
theorem sz3:szOf prog 3=some 1:=by kernel_rfl
theorem is3:(prog.info? 3).isSome=true:=by kernel_rfl
theorem ce3:prog.cellsOf 3=1:=by kernel_rfl
theorem ag3:aggT prog 3=some false:=by kernel_rfl
theorem ze3:czero prog 3=some (.int .i64 0):=by kernel_rfl
theorem sz4:szOf prog 4=some 1:=by kernel_rfl
theorem is4:(prog.info? 4).isSome=true:=by kernel_rfl
theorem ce4:prog.cellsOf 4=1:=by kernel_rfl
theorem ag4:aggT prog 4=some false:=by kernel_rfl
theorem ze4:czero prog 4=some (.bool false):=by kernel_rfl
theorem be4{x y:Operand}{a b:Bool}:cbin prog .eql 4 x y (.bool a) (.bool b)=some (.bool (a == b)):=by kernel_rfl
theorem bn4{x y:Operand}{a b:Bool}:cbin prog .neq 4 x y (.bool a) (.bool b)=some (.bool (!(a == b))):=by kernel_rfl
theorem sz5:szOf prog 5=some 1:=by kernel_rfl
theorem is5:(prog.info? 5).isSome=true:=by kernel_rfl
theorem ce5:prog.cellsOf 5=1:=by kernel_rfl
theorem ag5:aggT prog 5=some false:=by kernel_rfl
theorem ze5:czero prog 5=some (.int .u8 0):=by kernel_rfl
theorem sz9:szOf prog 9=some 1:=by kernel_rfl
theorem is9:(prog.info? 9).isSome=true:=by kernel_rfl
theorem ce9:prog.cellsOf 9=1:=by kernel_rfl
theorem ag9:aggT prog 9=some false:=by kernel_rfl
theorem ze9:czero prog 9=some (.string ByteArray.empty):=by kernel_rfl
theorem sz22:szOf prog 22=some 1:=by kernel_rfl
theorem is22:(prog.info? 22).isSome=true:=by kernel_rfl
theorem ce22:prog.cellsOf 22=1:=by kernel_rfl
theorem ag22:aggT prog 22=some false:=by kernel_rfl
theorem ze22:czero prog 22=some (.slice none 0 0):=by kernel_rfl
theorem sz23:szOf prog 23=some 1:=by kernel_rfl
theorem is23:(prog.info? 23).isSome=true:=by kernel_rfl
theorem ce23:prog.cellsOf 23=1:=by kernel_rfl
theorem ag23:aggT prog 23=some false:=by kernel_rfl
theorem ze23:czero prog 23=some (.pointer none):=by kernel_rfl
theorem nt23{x y:Operand}:cbin prog .eql 23 x y (.pointer none) (.pointer none)=some (.bool true):=by kernel_rfl
theorem nn23{x y:Operand}:cbin prog .neq 23 x y (.pointer none) (.pointer none)=some (.bool false):=by kernel_rfl
theorem nf23{x y:Operand}{a:Addr}:cbin prog .eql 23 x y (.pointer (some a)) (.pointer none)=some (.bool false):=by kernel_rfl
theorem ng23{x y:Operand}{a:Addr}:cbin prog .neq 23 x y (.pointer (some a)) (.pointer none)=some (.bool true):=by kernel_rfl
theorem sz26:szOf prog 26=some 4:=by kernel_rfl
theorem is26:(prog.info? 26).isSome=true:=by kernel_rfl
theorem ce26:prog.cellsOf 26=4:=by kernel_rfl
theorem ag26:aggT prog 26=some true:=by kernel_rfl
theorem ze26:czero prog 26=some (.agg #[.int .i64 0,.int .i64 0,.int .i64 0,.int .i64 0]):=by kernel_rfl
theorem fa26x0:faOk prog 26 0=some 0:=by kernel_rfl
theorem fa26x1:faOk prog 26 1=some 1:=by kernel_rfl
theorem fa26x2:faOk prog 26 2=some 2:=by kernel_rfl
theorem fa26x3:faOk prog 26 3=some 3:=by kernel_rfl
theorem sz27:szOf prog 27=some 1:=by kernel_rfl
theorem is27:(prog.info? 27).isSome=true:=by kernel_rfl
theorem ce27:prog.cellsOf 27=1:=by kernel_rfl
theorem ag27:aggT prog 27=some false:=by kernel_rfl
theorem ze27:czero prog 27=some (.pointer none):=by kernel_rfl
theorem nt27{x y:Operand}:cbin prog .eql 27 x y (.pointer none) (.pointer none)=some (.bool true):=by kernel_rfl
theorem nn27{x y:Operand}:cbin prog .neq 27 x y (.pointer none) (.pointer none)=some (.bool false):=by kernel_rfl
theorem nf27{x y:Operand}{a:Addr}:cbin prog .eql 27 x y (.pointer (some a)) (.pointer none)=some (.bool false):=by kernel_rfl
theorem ng27{x y:Operand}{a:Addr}:cbin prog .neq 27 x y (.pointer (some a)) (.pointer none)=some (.bool true):=by kernel_rfl
theorem sz29:szOf prog 29=some 1:=by kernel_rfl
theorem is29:(prog.info? 29).isSome=true:=by kernel_rfl
theorem ce29:prog.cellsOf 29=1:=by kernel_rfl
theorem ag29:aggT prog 29=some false:=by kernel_rfl
theorem ze29:czero prog 29=some (.pointer none):=by kernel_rfl
theorem nt29{x y:Operand}:cbin prog .eql 29 x y (.pointer none) (.pointer none)=some (.bool true):=by kernel_rfl
theorem nn29{x y:Operand}:cbin prog .neq 29 x y (.pointer none) (.pointer none)=some (.bool false):=by kernel_rfl
theorem nf29{x y:Operand}{a:Addr}:cbin prog .eql 29 x y (.pointer (some a)) (.pointer none)=some (.bool false):=by kernel_rfl
theorem ng29{x y:Operand}{a:Addr}:cbin prog .neq 29 x y (.pointer (some a)) (.pointer none)=some (.bool true):=by kernel_rfl
theorem sz31:szOf prog 31=some 1:=by kernel_rfl
theorem is31:(prog.info? 31).isSome=true:=by kernel_rfl
theorem ce31:prog.cellsOf 31=1:=by kernel_rfl
theorem ag31:aggT prog 31=some false:=by kernel_rfl
theorem ze31:czero prog 31=some (.slice none 0 0):=by kernel_rfl
theorem sz33:szOf prog 33=some 1:=by kernel_rfl
theorem is33:(prog.info? 33).isSome=true:=by kernel_rfl
theorem ce33:prog.cellsOf 33=1:=by kernel_rfl
theorem ag33:aggT prog 33=some false:=by kernel_rfl
theorem ze33:czero prog 33=some (.slice none 0 0):=by kernel_rfl
theorem sz36:szOf prog 36=some 3:=by kernel_rfl
theorem is36:(prog.info? 36).isSome=true:=by kernel_rfl
theorem ce36:prog.cellsOf 36=3:=by kernel_rfl
theorem ag36:aggT prog 36=some true:=by kernel_rfl
theorem ze36:czero prog 36=some (.agg #[.int .i64 0,.int .i64 0,.string ByteArray.empty]):=by kernel_rfl
theorem fa36x0:faOk prog 36 0=some 0:=by kernel_rfl
theorem fa36x1:faOk prog 36 1=some 1:=by kernel_rfl
theorem fa36x2:faOk prog 36 2=some 2:=by kernel_rfl
theorem sz38:szOf prog 38=some 9:=by kernel_rfl
theorem is38:(prog.info? 38).isSome=true:=by kernel_rfl
theorem ce38:prog.cellsOf 38=9:=by kernel_rfl
theorem ag38:aggT prog 38=some true:=by kernel_rfl
theorem ze38:czero prog 38=some (.agg #[.int .i64 0,.int .i64 0,.int .i64 0,.int .i64 0,.int .i64 0,.string ByteArray.empty,.int .i64 0,.int .i64 0,.string ByteArray.empty]):=by kernel_rfl
theorem fa38x0:faOk prog 38 0=some 0:=by kernel_rfl
theorem fa38x1:faOk prog 38 1=some 1:=by kernel_rfl
theorem fa38x2:faOk prog 38 2=some 2:=by kernel_rfl
theorem fa38x3:faOk prog 38 3=some 3:=by kernel_rfl
theorem fa38x4:faOk prog 38 4=some 4:=by kernel_rfl
theorem fa38x5:faOk prog 38 5=some 5:=by kernel_rfl
theorem fa38x6:faOk prog 38 6=some 6:=by kernel_rfl
theorem sz42:szOf prog 42=some 1:=by kernel_rfl
theorem is42:(prog.info? 42).isSome=true:=by kernel_rfl
theorem ce42:prog.cellsOf 42=1:=by kernel_rfl
theorem ag42:aggT prog 42=some false:=by kernel_rfl
theorem ze42:czero prog 42=some (.slice none 0 0):=by kernel_rfl
theorem sz43:szOf prog 43=some 1:=by kernel_rfl
theorem is43:(prog.info? 43).isSome=true:=by kernel_rfl
theorem ce43:prog.cellsOf 43=1:=by kernel_rfl
theorem ag43:aggT prog 43=some false:=by kernel_rfl
theorem sz46:szOf prog 46=some 1:=by kernel_rfl
theorem is46:(prog.info? 46).isSome=true:=by kernel_rfl
theorem ce46:prog.cellsOf 46=1:=by kernel_rfl
theorem ag46:aggT prog 46=some false:=by kernel_rfl
theorem ze46:czero prog 46=some (.pointer none):=by kernel_rfl
theorem nt46{x y:Operand}:cbin prog .eql 46 x y (.pointer none) (.pointer none)=some (.bool true):=by kernel_rfl
theorem nn46{x y:Operand}:cbin prog .neq 46 x y (.pointer none) (.pointer none)=some (.bool false):=by kernel_rfl
theorem nf46{x y:Operand}{a:Addr}:cbin prog .eql 46 x y (.pointer (some a)) (.pointer none)=some (.bool false):=by kernel_rfl
theorem ng46{x y:Operand}{a:Addr}:cbin prog .neq 46 x y (.pointer (some a)) (.pointer none)=some (.bool true):=by kernel_rfl
theorem sz49:szOf prog 49=some 1:=by kernel_rfl
theorem is49:(prog.info? 49).isSome=true:=by kernel_rfl
theorem ce49:prog.cellsOf 49=1:=by kernel_rfl
theorem ag49:aggT prog 49=some false:=by kernel_rfl
theorem ze49:czero prog 49=some (.slice none 0 0):=by kernel_rfl
theorem sz51:szOf prog 51=some 5:=by kernel_rfl
theorem is51:(prog.info? 51).isSome=true:=by kernel_rfl
theorem ce51:prog.cellsOf 51=5:=by kernel_rfl
theorem ag51:aggT prog 51=some true:=by kernel_rfl
theorem ze51:czero prog 51=some (.agg #[.int .i64 0,.int .i64 0,.int .i64 0,.int .i64 0,.slice none 0 0]):=by kernel_rfl
theorem fa51x0:faOk prog 51 0=some 0:=by kernel_rfl
theorem fa51x1:faOk prog 51 1=some 1:=by kernel_rfl
theorem fa51x2:faOk prog 51 2=some 2:=by kernel_rfl
theorem fa51x3:faOk prog 51 3=some 3:=by kernel_rfl
theorem fa51x4:faOk prog 51 4=some 4:=by kernel_rfl
theorem sz53:szOf prog 53=some 1:=by kernel_rfl
theorem is53:(prog.info? 53).isSome=true:=by kernel_rfl
theorem ce53:prog.cellsOf 53=1:=by kernel_rfl
theorem ag53:aggT prog 53=some false:=by kernel_rfl
theorem ze53:czero prog 53=some (.int .i64 0):=by kernel_rfl
theorem sz54:szOf prog 54=some 1:=by kernel_rfl
theorem is54:(prog.info? 54).isSome=true:=by kernel_rfl
theorem ce54:prog.cellsOf 54=1:=by kernel_rfl
theorem ag54:aggT prog 54=some false:=by kernel_rfl
theorem sz67:szOf prog 67=some 1:=by kernel_rfl
theorem is67:(prog.info? 67).isSome=true:=by kernel_rfl
theorem ce67:prog.cellsOf 67=1:=by kernel_rfl
theorem ag67:aggT prog 67=some false:=by kernel_rfl
theorem ze67:czero prog 67=some (.pointer none):=by kernel_rfl
theorem nt67{x y:Operand}:cbin prog .eql 67 x y (.pointer none) (.pointer none)=some (.bool true):=by kernel_rfl
theorem nn67{x y:Operand}:cbin prog .neq 67 x y (.pointer none) (.pointer none)=some (.bool false):=by kernel_rfl
theorem nf67{x y:Operand}{a:Addr}:cbin prog .eql 67 x y (.pointer (some a)) (.pointer none)=some (.bool false):=by kernel_rfl
theorem ng67{x y:Operand}{a:Addr}:cbin prog .neq 67 x y (.pointer (some a)) (.pointer none)=some (.bool true):=by kernel_rfl
theorem sz69:szOf prog 69=some 1:=by kernel_rfl
theorem is69:(prog.info? 69).isSome=true:=by kernel_rfl
theorem ce69:prog.cellsOf 69=1:=by kernel_rfl
theorem ag69:aggT prog 69=some false:=by kernel_rfl
theorem ze69:czero prog 69=some (.pointer none):=by kernel_rfl
theorem nt69{x y:Operand}:cbin prog .eql 69 x y (.pointer none) (.pointer none)=some (.bool true):=by kernel_rfl
theorem nn69{x y:Operand}:cbin prog .neq 69 x y (.pointer none) (.pointer none)=some (.bool false):=by kernel_rfl
theorem nf69{x y:Operand}{a:Addr}:cbin prog .eql 69 x y (.pointer (some a)) (.pointer none)=some (.bool false):=by kernel_rfl
theorem ng69{x y:Operand}{a:Addr}:cbin prog .neq 69 x y (.pointer (some a)) (.pointer none)=some (.bool true):=by kernel_rfl
theorem sz72:szOf prog 72=some 1:=by kernel_rfl
theorem is72:(prog.info? 72).isSome=true:=by kernel_rfl
theorem ce72:prog.cellsOf 72=1:=by kernel_rfl
theorem ag72:aggT prog 72=some false:=by kernel_rfl
theorem ze72:czero prog 72=some (.slice none 0 0):=by kernel_rfl
theorem sz74:szOf prog 74=some 5:=by kernel_rfl
theorem is74:(prog.info? 74).isSome=true:=by kernel_rfl
theorem ce74:prog.cellsOf 74=5:=by kernel_rfl
theorem ag74:aggT prog 74=some true:=by kernel_rfl
theorem ze74:czero prog 74=some (.agg #[.slice none 0 0,.pointer none,.pointer none,.int .i64 0,.int .i64 0]):=by kernel_rfl
theorem fa74x0:faOk prog 74 0=some 0:=by kernel_rfl
theorem fa74x1:faOk prog 74 1=some 1:=by kernel_rfl
theorem fa74x2:faOk prog 74 2=some 2:=by kernel_rfl
theorem fa74x3:faOk prog 74 3=some 3:=by kernel_rfl
theorem fa74x4:faOk prog 74 4=some 4:=by kernel_rfl
theorem sz75:szOf prog 75=some 1:=by kernel_rfl
theorem is75:(prog.info? 75).isSome=true:=by kernel_rfl
theorem ce75:prog.cellsOf 75=1:=by kernel_rfl
theorem ag75:aggT prog 75=some false:=by kernel_rfl
theorem ze75:czero prog 75=some (.pointer none):=by kernel_rfl
theorem nt75{x y:Operand}:cbin prog .eql 75 x y (.pointer none) (.pointer none)=some (.bool true):=by kernel_rfl
theorem nn75{x y:Operand}:cbin prog .neq 75 x y (.pointer none) (.pointer none)=some (.bool false):=by kernel_rfl
theorem nf75{x y:Operand}{a:Addr}:cbin prog .eql 75 x y (.pointer (some a)) (.pointer none)=some (.bool false):=by kernel_rfl
theorem ng75{x y:Operand}{a:Addr}:cbin prog .neq 75 x y (.pointer (some a)) (.pointer none)=some (.bool true):=by kernel_rfl
theorem sz77:szOf prog 77=some 1:=by kernel_rfl
theorem is77:(prog.info? 77).isSome=true:=by kernel_rfl
theorem ce77:prog.cellsOf 77=1:=by kernel_rfl
theorem ag77:aggT prog 77=some false:=by kernel_rfl
theorem ze77:czero prog 77=some (.slice none 0 0):=by kernel_rfl
theorem sz79:szOf prog 79=some 1:=by kernel_rfl
theorem is79:(prog.info? 79).isSome=true:=by kernel_rfl
theorem ce79:prog.cellsOf 79=1:=by kernel_rfl
theorem ag79:aggT prog 79=some true:=by kernel_rfl
theorem ze79:czero prog 79=some (.agg #[.slice none 0 0]):=by kernel_rfl
theorem fa79x0:faOk prog 79 0=some 0:=by kernel_rfl
theorem sz81:szOf prog 81=some 5:=by kernel_rfl
theorem is81:(prog.info? 81).isSome=true:=by kernel_rfl
theorem ce81:prog.cellsOf 81=5:=by kernel_rfl
theorem ag81:aggT prog 81=some true:=by kernel_rfl
theorem ze81:czero prog 81=some (.agg #[.slice none 0 0,.int .i64 0,.int .i64 0,.pointer none,.slice none 0 0]):=by kernel_rfl
theorem fa81x0:faOk prog 81 0=some 0:=by kernel_rfl
theorem fa81x1:faOk prog 81 1=some 1:=by kernel_rfl
theorem fa81x2:faOk prog 81 2=some 2:=by kernel_rfl
theorem fa81x3:faOk prog 81 3=some 3:=by kernel_rfl
theorem fa81x4:faOk prog 81 4=some 4:=by kernel_rfl
theorem sz82:szOf prog 82=some 1:=by kernel_rfl
theorem is82:(prog.info? 82).isSome=true:=by kernel_rfl
theorem ce82:prog.cellsOf 82=1:=by kernel_rfl
theorem ag82:aggT prog 82=some false:=by kernel_rfl
theorem ze82:czero prog 82=some (.slice none 0 0):=by kernel_rfl
theorem sz84:szOf prog 84=some 3:=by kernel_rfl
theorem is84:(prog.info? 84).isSome=true:=by kernel_rfl
theorem ce84:prog.cellsOf 84=3:=by kernel_rfl
theorem ag84:aggT prog 84=some true:=by kernel_rfl
theorem ze84:czero prog 84=some (.agg #[.slice none 0 0,.int .i64 0,.int .i64 0]):=by kernel_rfl
theorem fa84x0:faOk prog 84 0=some 0:=by kernel_rfl
theorem fa84x1:faOk prog 84 1=some 1:=by kernel_rfl
theorem fa84x2:faOk prog 84 2=some 2:=by kernel_rfl
theorem sz85:szOf prog 85=some 1:=by kernel_rfl
theorem is85:(prog.info? 85).isSome=true:=by kernel_rfl
theorem ce85:prog.cellsOf 85=1:=by kernel_rfl
theorem ag85:aggT prog 85=some false:=by kernel_rfl
theorem ze85:czero prog 85=some (.slice none 0 0):=by kernel_rfl
theorem sz86:szOf prog 86=some 1:=by kernel_rfl
theorem is86:(prog.info? 86).isSome=true:=by kernel_rfl
theorem ce86:prog.cellsOf 86=1:=by kernel_rfl
theorem ag86:aggT prog 86=some false:=by kernel_rfl
theorem sz88:szOf prog 88=some 1:=by kernel_rfl
theorem is88:(prog.info? 88).isSome=true:=by kernel_rfl
theorem ce88:prog.cellsOf 88=1:=by kernel_rfl
theorem ag88:aggT prog 88=some false:=by kernel_rfl
theorem ze88:czero prog 88=some (.pointer none):=by kernel_rfl
theorem nt88{x y:Operand}:cbin prog .eql 88 x y (.pointer none) (.pointer none)=some (.bool true):=by kernel_rfl
theorem nn88{x y:Operand}:cbin prog .neq 88 x y (.pointer none) (.pointer none)=some (.bool false):=by kernel_rfl
theorem nf88{x y:Operand}{a:Addr}:cbin prog .eql 88 x y (.pointer (some a)) (.pointer none)=some (.bool false):=by kernel_rfl
theorem ng88{x y:Operand}{a:Addr}:cbin prog .neq 88 x y (.pointer (some a)) (.pointer none)=some (.bool true):=by kernel_rfl
theorem sz90:szOf prog 90=some 1:=by kernel_rfl
theorem is90:(prog.info? 90).isSome=true:=by kernel_rfl
theorem ce90:prog.cellsOf 90=1:=by kernel_rfl
theorem ag90:aggT prog 90=some false:=by kernel_rfl
theorem ze90:czero prog 90=some (.slice none 0 0):=by kernel_rfl
theorem sz92:szOf prog 92=some 2:=by kernel_rfl
theorem is92:(prog.info? 92).isSome=true:=by kernel_rfl
theorem ce92:prog.cellsOf 92=2:=by kernel_rfl
theorem ag92:aggT prog 92=some true:=by kernel_rfl
theorem ze92:czero prog 92=some (.agg #[.int .i64 0,.slice none 0 0]):=by kernel_rfl
theorem fa92x0:faOk prog 92 0=some 0:=by kernel_rfl
theorem fa92x1:faOk prog 92 1=some 1:=by kernel_rfl
theorem sz93:szOf prog 93=some 1:=by kernel_rfl
theorem is93:(prog.info? 93).isSome=true:=by kernel_rfl
theorem ce93:prog.cellsOf 93=1:=by kernel_rfl
theorem ag93:aggT prog 93=some false:=by kernel_rfl
theorem ze93:czero prog 93=some (.pointer none):=by kernel_rfl
theorem nt93{x y:Operand}:cbin prog .eql 93 x y (.pointer none) (.pointer none)=some (.bool true):=by kernel_rfl
theorem nn93{x y:Operand}:cbin prog .neq 93 x y (.pointer none) (.pointer none)=some (.bool false):=by kernel_rfl
theorem nf93{x y:Operand}{a:Addr}:cbin prog .eql 93 x y (.pointer (some a)) (.pointer none)=some (.bool false):=by kernel_rfl
theorem ng93{x y:Operand}{a:Addr}:cbin prog .neq 93 x y (.pointer (some a)) (.pointer none)=some (.bool true):=by kernel_rfl
theorem sz96:szOf prog 96=some 5:=by kernel_rfl
theorem is96:(prog.info? 96).isSome=true:=by kernel_rfl
theorem ce96:prog.cellsOf 96=5:=by kernel_rfl
theorem ag96:aggT prog 96=some true:=by kernel_rfl
theorem ze96:czero prog 96=some (.agg #[.bool false,.bool false,.bool false,.string ByteArray.empty,.slice none 0 0]):=by kernel_rfl
theorem fa96x0:faOk prog 96 0=some 0:=by kernel_rfl
theorem fa96x1:faOk prog 96 1=some 1:=by kernel_rfl
theorem fa96x2:faOk prog 96 2=some 2:=by kernel_rfl
theorem fa96x3:faOk prog 96 3=some 3:=by kernel_rfl
theorem fa96x4:faOk prog 96 4=some 4:=by kernel_rfl
theorem sz99:szOf prog 99=some 2:=by kernel_rfl
theorem is99:(prog.info? 99).isSome=true:=by kernel_rfl
theorem ce99:prog.cellsOf 99=2:=by kernel_rfl
theorem ag99:aggT prog 99=some true:=by kernel_rfl
theorem ze99:czero prog 99=some (.agg #[.int .i64 0,.int .i64 0]):=by kernel_rfl
theorem fa99x0:faOk prog 99 0=some 0:=by kernel_rfl
theorem fa99x1:faOk prog 99 1=some 1:=by kernel_rfl
theorem sz104:szOf prog 104=some 1:=by kernel_rfl
theorem is104:(prog.info? 104).isSome=true:=by kernel_rfl
theorem ce104:prog.cellsOf 104=1:=by kernel_rfl
theorem ag104:aggT prog 104=some false:=by kernel_rfl
theorem ze104:czero prog 104=some (.slice none 0 0):=by kernel_rfl
theorem sz106:szOf prog 106=some 3:=by kernel_rfl
theorem is106:(prog.info? 106).isSome=true:=by kernel_rfl
theorem ce106:prog.cellsOf 106=3:=by kernel_rfl
theorem ag106:aggT prog 106=some true:=by kernel_rfl
theorem ze106:czero prog 106=some (.agg #[.slice none 0 0,.int .i64 0,.int .i64 0]):=by kernel_rfl
theorem fa106x0:faOk prog 106 0=some 0:=by kernel_rfl
theorem fa106x1:faOk prog 106 1=some 1:=by kernel_rfl
theorem fa106x2:faOk prog 106 2=some 2:=by kernel_rfl
theorem sz107:szOf prog 107=some 1:=by kernel_rfl
theorem is107:(prog.info? 107).isSome=true:=by kernel_rfl
theorem ce107:prog.cellsOf 107=1:=by kernel_rfl
theorem ag107:aggT prog 107=some false:=by kernel_rfl
theorem ze107:czero prog 107=some (.slice none 0 0):=by kernel_rfl
theorem sz109:szOf prog 109=some 1:=by kernel_rfl
theorem is109:(prog.info? 109).isSome=true:=by kernel_rfl
theorem ce109:prog.cellsOf 109=1:=by kernel_rfl
theorem ag109:aggT prog 109=some false:=by kernel_rfl
theorem sz111:szOf prog 111=some 1:=by kernel_rfl
theorem is111:(prog.info? 111).isSome=true:=by kernel_rfl
theorem ce111:prog.cellsOf 111=1:=by kernel_rfl
theorem ag111:aggT prog 111=some false:=by kernel_rfl
theorem ze111:czero prog 111=some (.pointer none):=by kernel_rfl
theorem nt111{x y:Operand}:cbin prog .eql 111 x y (.pointer none) (.pointer none)=some (.bool true):=by kernel_rfl
theorem nn111{x y:Operand}:cbin prog .neq 111 x y (.pointer none) (.pointer none)=some (.bool false):=by kernel_rfl
theorem nf111{x y:Operand}{a:Addr}:cbin prog .eql 111 x y (.pointer (some a)) (.pointer none)=some (.bool false):=by kernel_rfl
theorem ng111{x y:Operand}{a:Addr}:cbin prog .neq 111 x y (.pointer (some a)) (.pointer none)=some (.bool true):=by kernel_rfl
theorem sz112:szOf prog 112=some 1:=by kernel_rfl
theorem is112:(prog.info? 112).isSome=true:=by kernel_rfl
theorem ce112:prog.cellsOf 112=1:=by kernel_rfl
theorem ag112:aggT prog 112=some false:=by kernel_rfl
theorem ze112:czero prog 112=some (.pointer none):=by kernel_rfl
theorem nt112{x y:Operand}:cbin prog .eql 112 x y (.pointer none) (.pointer none)=some (.bool true):=by kernel_rfl
theorem nn112{x y:Operand}:cbin prog .neq 112 x y (.pointer none) (.pointer none)=some (.bool false):=by kernel_rfl
theorem nf112{x y:Operand}{a:Addr}:cbin prog .eql 112 x y (.pointer (some a)) (.pointer none)=some (.bool false):=by kernel_rfl
theorem ng112{x y:Operand}{a:Addr}:cbin prog .neq 112 x y (.pointer (some a)) (.pointer none)=some (.bool true):=by kernel_rfl
theorem sz115:szOf prog 115=some 1:=by kernel_rfl
theorem is115:(prog.info? 115).isSome=true:=by kernel_rfl
theorem ce115:prog.cellsOf 115=1:=by kernel_rfl
theorem ag115:aggT prog 115=some true:=by kernel_rfl
theorem ze115:czero prog 115=some (.agg #[.pointer none]):=by kernel_rfl
theorem fa115x0:faOk prog 115 0=some 0:=by kernel_rfl
theorem sz117:szOf prog 117=some 1:=by kernel_rfl
theorem is117:(prog.info? 117).isSome=true:=by kernel_rfl
theorem ce117:prog.cellsOf 117=1:=by kernel_rfl
theorem ag117:aggT prog 117=some false:=by kernel_rfl
theorem ze117:czero prog 117=some (.nilIface):=by kernel_rfl
theorem sz119:szOf prog 119=some 3:=by kernel_rfl
theorem is119:(prog.info? 119).isSome=true:=by kernel_rfl
theorem ce119:prog.cellsOf 119=3:=by kernel_rfl
theorem ag119:aggT prog 119=some true:=by kernel_rfl
theorem ze119:czero prog 119=some (.agg #[.nilIface,.int .i64 0,.int .i64 0]):=by kernel_rfl
theorem fa119x0:faOk prog 119 0=some 0:=by kernel_rfl
theorem fa119x1:faOk prog 119 1=some 1:=by kernel_rfl
theorem fa119x2:faOk prog 119 2=some 2:=by kernel_rfl
theorem sz121:szOf prog 121=some 1:=by kernel_rfl
theorem is121:(prog.info? 121).isSome=true:=by kernel_rfl
theorem ce121:prog.cellsOf 121=1:=by kernel_rfl
theorem ag121:aggT prog 121=some false:=by kernel_rfl
theorem ze121:czero prog 121=some (.pointer none):=by kernel_rfl
theorem nt121{x y:Operand}:cbin prog .eql 121 x y (.pointer none) (.pointer none)=some (.bool true):=by kernel_rfl
theorem nn121{x y:Operand}:cbin prog .neq 121 x y (.pointer none) (.pointer none)=some (.bool false):=by kernel_rfl
theorem nf121{x y:Operand}{a:Addr}:cbin prog .eql 121 x y (.pointer (some a)) (.pointer none)=some (.bool false):=by kernel_rfl
theorem ng121{x y:Operand}{a:Addr}:cbin prog .neq 121 x y (.pointer (some a)) (.pointer none)=some (.bool true):=by kernel_rfl
theorem sz125:szOf prog 125=some 1:=by kernel_rfl
theorem is125:(prog.info? 125).isSome=true:=by kernel_rfl
theorem ce125:prog.cellsOf 125=1:=by kernel_rfl
theorem ag125:aggT prog 125=some false:=by kernel_rfl
theorem sz135:szOf prog 135=some 1:=by kernel_rfl
theorem is135:(prog.info? 135).isSome=true:=by kernel_rfl
theorem ce135:prog.cellsOf 135=1:=by kernel_rfl
theorem ag135:aggT prog 135=some false:=by kernel_rfl
theorem sz140:szOf prog 140=some 1:=by kernel_rfl
theorem is140:(prog.info? 140).isSome=true:=by kernel_rfl
theorem ce140:prog.cellsOf 140=1:=by kernel_rfl
theorem ag140:aggT prog 140=some false:=by kernel_rfl
theorem ze140:czero prog 140=some (.pointer none):=by kernel_rfl
theorem nt140{x y:Operand}:cbin prog .eql 140 x y (.pointer none) (.pointer none)=some (.bool true):=by kernel_rfl
theorem nn140{x y:Operand}:cbin prog .neq 140 x y (.pointer none) (.pointer none)=some (.bool false):=by kernel_rfl
theorem nf140{x y:Operand}{a:Addr}:cbin prog .eql 140 x y (.pointer (some a)) (.pointer none)=some (.bool false):=by kernel_rfl
theorem ng140{x y:Operand}{a:Addr}:cbin prog .neq 140 x y (.pointer (some a)) (.pointer none)=some (.bool true):=by kernel_rfl
theorem sz141:szOf prog 141=some 1:=by kernel_rfl
theorem ag141:aggT prog 141=some false:=by kernel_rfl
theorem sz143:szOf prog 143=some 2:=by kernel_rfl
theorem is143:(prog.info? 143).isSome=true:=by kernel_rfl
theorem ce143:prog.cellsOf 143=2:=by kernel_rfl
theorem ag143:aggT prog 143=some true:=by kernel_rfl
theorem ze143:czero prog 143=some (.agg #[.pointer none,.slice none 0 0]):=by kernel_rfl
theorem fa143x0:faOk prog 143 0=some 0:=by kernel_rfl
theorem fa143x1:faOk prog 143 1=some 1:=by kernel_rfl
theorem sz145:szOf prog 145=some 1:=by kernel_rfl
theorem is145:(prog.info? 145).isSome=true:=by kernel_rfl
theorem ce145:prog.cellsOf 145=1:=by kernel_rfl
theorem ag145:aggT prog 145=some false:=by kernel_rfl
theorem ze145:czero prog 145=some (.nilIface):=by kernel_rfl
theorem sz146:szOf prog 146=some 1:=by kernel_rfl
theorem is146:(prog.info? 146).isSome=true:=by kernel_rfl
theorem ce146:prog.cellsOf 146=1:=by kernel_rfl
theorem ag146:aggT prog 146=some false:=by kernel_rfl
theorem sz149:szOf prog 149=some 1:=by kernel_rfl
theorem is149:(prog.info? 149).isSome=true:=by kernel_rfl
theorem ce149:prog.cellsOf 149=1:=by kernel_rfl
theorem ag149:aggT prog 149=some false:=by kernel_rfl
theorem sz154:szOf prog 154=some 1:=by kernel_rfl
theorem is154:(prog.info? 154).isSome=true:=by kernel_rfl
theorem ce154:prog.cellsOf 154=1:=by kernel_rfl
theorem ag154:aggT prog 154=some false:=by kernel_rfl
theorem ze154:czero prog 154=some (.slice none 0 0):=by kernel_rfl
theorem sz155:szOf prog 155=some 1:=by kernel_rfl
theorem is155:(prog.info? 155).isSome=true:=by kernel_rfl
theorem ce155:prog.cellsOf 155=1:=by kernel_rfl
theorem ag155:aggT prog 155=some false:=by kernel_rfl
theorem sz157:szOf prog 157=some 1:=by kernel_rfl
theorem is157:(prog.info? 157).isSome=true:=by kernel_rfl
theorem ce157:prog.cellsOf 157=1:=by kernel_rfl
theorem ag157:aggT prog 157=some false:=by kernel_rfl
theorem sz159:szOf prog 159=some 1:=by kernel_rfl
theorem is159:(prog.info? 159).isSome=true:=by kernel_rfl
theorem ce159:prog.cellsOf 159=1:=by kernel_rfl
theorem ag159:aggT prog 159=some false:=by kernel_rfl
theorem ze159:czero prog 159=some (.slice none 0 0):=by kernel_rfl
theorem sz161:szOf prog 161=some 5:=by kernel_rfl
theorem is161:(prog.info? 161).isSome=true:=by kernel_rfl
theorem ce161:prog.cellsOf 161=5:=by kernel_rfl
theorem ag161:aggT prog 161=some true:=by kernel_rfl
theorem ze161:czero prog 161=some (.agg #[.int .i64 0,.int .i64 0,.int .i64 0,.int .i64 0,.slice none 0 0]):=by kernel_rfl
theorem fa161x0:faOk prog 161 0=some 0:=by kernel_rfl
theorem fa161x1:faOk prog 161 1=some 1:=by kernel_rfl
theorem fa161x2:faOk prog 161 2=some 2:=by kernel_rfl
theorem fa161x3:faOk prog 161 3=some 3:=by kernel_rfl
theorem fa161x4:faOk prog 161 4=some 4:=by kernel_rfl
theorem sz162:szOf prog 162=some 2:=by kernel_rfl
theorem is162:(prog.info? 162).isSome=true:=by kernel_rfl
theorem ce162:prog.cellsOf 162=2:=by kernel_rfl
theorem ag162:aggT prog 162=some true:=by kernel_rfl
theorem ze162:czero prog 162=some (.agg #[.int .i64 0,.int .i64 0]):=by kernel_rfl
theorem fa162x0:faOk prog 162 0=some 0:=by kernel_rfl
theorem fa162x1:faOk prog 162 1=some 1:=by kernel_rfl
theorem sz163:szOf prog 163=some 1:=by kernel_rfl
theorem is163:(prog.info? 163).isSome=true:=by kernel_rfl
theorem ce163:prog.cellsOf 163=1:=by kernel_rfl
theorem ag163:aggT prog 163=some false:=by kernel_rfl
theorem ze163:czero prog 163=some (.pointer none):=by kernel_rfl
theorem nt163{x y:Operand}:cbin prog .eql 163 x y (.pointer none) (.pointer none)=some (.bool true):=by kernel_rfl
theorem nn163{x y:Operand}:cbin prog .neq 163 x y (.pointer none) (.pointer none)=some (.bool false):=by kernel_rfl
theorem nf163{x y:Operand}{a:Addr}:cbin prog .eql 163 x y (.pointer (some a)) (.pointer none)=some (.bool false):=by kernel_rfl
theorem ng163{x y:Operand}{a:Addr}:cbin prog .neq 163 x y (.pointer (some a)) (.pointer none)=some (.bool true):=by kernel_rfl
theorem sz165:szOf prog 165=some 2:=by kernel_rfl
theorem is165:(prog.info? 165).isSome=true:=by kernel_rfl
theorem ce165:prog.cellsOf 165=2:=by kernel_rfl
theorem ag165:aggT prog 165=some true:=by kernel_rfl
theorem ze165:czero prog 165=some (.agg #[.slice none 0 0,.slice none 0 0]):=by kernel_rfl
theorem fa165x0:faOk prog 165 0=some 0:=by kernel_rfl
theorem fa165x1:faOk prog 165 1=some 1:=by kernel_rfl
theorem sz167:szOf prog 167=some 5:=by kernel_rfl
theorem is167:(prog.info? 167).isSome=true:=by kernel_rfl
theorem ce167:prog.cellsOf 167=5:=by kernel_rfl
theorem ag167:aggT prog 167=some true:=by kernel_rfl
theorem ze167:czero prog 167=some (.agg #[.int .i64 0,.slice none 0 0,.slice none 0 0,.int .i64 0,.int .i64 0]):=by kernel_rfl
theorem fa167x0:faOk prog 167 0=some 0:=by kernel_rfl
theorem fa167x1:faOk prog 167 1=some 1:=by kernel_rfl
theorem fa167x2:faOk prog 167 2=some 3:=by kernel_rfl
theorem fa167x3:faOk prog 167 3=some 4:=by kernel_rfl
theorem sz168:szOf prog 168=some 1:=by kernel_rfl
theorem is168:(prog.info? 168).isSome=true:=by kernel_rfl
theorem ce168:prog.cellsOf 168=1:=by kernel_rfl
theorem ag168:aggT prog 168=some false:=by kernel_rfl
theorem ze168:czero prog 168=some (.map none):=by kernel_rfl
theorem nt168{x y:Operand}:cbin prog .eql 168 x y (.map none) (.map none)=some (.bool true):=by kernel_rfl
theorem nn168{x y:Operand}:cbin prog .neq 168 x y (.map none) (.map none)=some (.bool false):=by kernel_rfl
theorem nf168{x y:Operand}{a:Nat}:cbin prog .eql 168 x y (.map (some a)) (.map none)=some (.bool false):=by kernel_rfl
theorem ng168{x y:Operand}{a:Nat}:cbin prog .neq 168 x y (.map (some a)) (.map none)=some (.bool true):=by kernel_rfl
theorem sz169:szOf prog 169=some 1:=by kernel_rfl
theorem ag169:aggT prog 169=some false:=by kernel_rfl
theorem sz171:szOf prog 171=some 3:=by kernel_rfl
theorem is171:(prog.info? 171).isSome=true:=by kernel_rfl
theorem ce171:prog.cellsOf 171=3:=by kernel_rfl
theorem ag171:aggT prog 171=some true:=by kernel_rfl
theorem ze171:czero prog 171=some (.agg #[.slice none 0 0,.map none,.int .i64 0]):=by kernel_rfl
theorem fa171x0:faOk prog 171 0=some 0:=by kernel_rfl
theorem fa171x1:faOk prog 171 1=some 1:=by kernel_rfl
theorem fa171x2:faOk prog 171 2=some 2:=by kernel_rfl
theorem sz172:szOf prog 172=some 1:=by kernel_rfl
theorem is172:(prog.info? 172).isSome=true:=by kernel_rfl
theorem ce172:prog.cellsOf 172=1:=by kernel_rfl
theorem ag172:aggT prog 172=some false:=by kernel_rfl
theorem ze172:czero prog 172=some (.map none):=by kernel_rfl
theorem nt172{x y:Operand}:cbin prog .eql 172 x y (.map none) (.map none)=some (.bool true):=by kernel_rfl
theorem nn172{x y:Operand}:cbin prog .neq 172 x y (.map none) (.map none)=some (.bool false):=by kernel_rfl
theorem nf172{x y:Operand}{a:Nat}:cbin prog .eql 172 x y (.map (some a)) (.map none)=some (.bool false):=by kernel_rfl
theorem ng172{x y:Operand}{a:Nat}:cbin prog .neq 172 x y (.map (some a)) (.map none)=some (.bool true):=by kernel_rfl
theorem sz174:szOf prog 174=some 2:=by kernel_rfl
theorem is174:(prog.info? 174).isSome=true:=by kernel_rfl
theorem ce174:prog.cellsOf 174=2:=by kernel_rfl
theorem ag174:aggT prog 174=some true:=by kernel_rfl
theorem ze174:czero prog 174=some (.agg #[.map none,.slice none 0 0]):=by kernel_rfl
theorem fa174x0:faOk prog 174 0=some 0:=by kernel_rfl
theorem fa174x1:faOk prog 174 1=some 1:=by kernel_rfl
theorem sz175:szOf prog 175=some 1:=by kernel_rfl
theorem is175:(prog.info? 175).isSome=true:=by kernel_rfl
theorem ce175:prog.cellsOf 175=1:=by kernel_rfl
theorem ag175:aggT prog 175=some false:=by kernel_rfl
theorem ze175:czero prog 175=some (.slice none 0 0):=by kernel_rfl
theorem sz177:szOf prog 177=some 2:=by kernel_rfl
theorem is177:(prog.info? 177).isSome=true:=by kernel_rfl
theorem ce177:prog.cellsOf 177=2:=by kernel_rfl
theorem ag177:aggT prog 177=some true:=by kernel_rfl
theorem ze177:czero prog 177=some (.agg #[.slice none 0 0,.int .i64 0]):=by kernel_rfl
theorem fa177x0:faOk prog 177 0=some 0:=by kernel_rfl
theorem fa177x1:faOk prog 177 1=some 1:=by kernel_rfl
theorem sz182:szOf prog 182=some 4:=by kernel_rfl
theorem is182:(prog.info? 182).isSome=true:=by kernel_rfl
theorem ce182:prog.cellsOf 182=4:=by kernel_rfl
theorem ag182:aggT prog 182=some true:=by kernel_rfl
theorem ze182:czero prog 182=some (.agg #[.int .i64 0,.string ByteArray.empty,.slice none 0 0,.bool false]):=by kernel_rfl
theorem fa182x0:faOk prog 182 0=some 0:=by kernel_rfl
theorem fa182x1:faOk prog 182 1=some 1:=by kernel_rfl
theorem fa182x2:faOk prog 182 2=some 2:=by kernel_rfl
theorem fa182x3:faOk prog 182 3=some 3:=by kernel_rfl
theorem sz184:szOf prog 184=some 1:=by kernel_rfl
theorem is184:(prog.info? 184).isSome=true:=by kernel_rfl
theorem ce184:prog.cellsOf 184=1:=by kernel_rfl
theorem ag184:aggT prog 184=some false:=by kernel_rfl
theorem sz189:szOf prog 189=some 1:=by kernel_rfl
theorem ag189:aggT prog 189=some false:=by kernel_rfl
theorem is191:(prog.info? 191).isSome=true:=by kernel_rfl
theorem fa191x0:faOk prog 191 0=some 0:=by kernel_rfl
theorem fa191x1:faOk prog 191 1=some 1:=by kernel_rfl
theorem sz192:szOf prog 192=some 1:=by kernel_rfl
theorem is192:(prog.info? 192).isSome=true:=by kernel_rfl
theorem ce192:prog.cellsOf 192=1:=by kernel_rfl
theorem ag192:aggT prog 192=some false:=by kernel_rfl
theorem sz195:szOf prog 195=some 5:=by kernel_rfl
theorem is195:(prog.info? 195).isSome=true:=by kernel_rfl
theorem ce195:prog.cellsOf 195=5:=by kernel_rfl
theorem ag195:aggT prog 195=some true:=by kernel_rfl
theorem ze195:czero prog 195=some (.agg #[.int .i64 0,.int .i64 0,.int .i64 0,.int .i64 0,.map none]):=by kernel_rfl
theorem fa195x0:faOk prog 195 0=some 0:=by kernel_rfl
theorem fa195x1:faOk prog 195 1=some 1:=by kernel_rfl
theorem fa195x2:faOk prog 195 2=some 2:=by kernel_rfl
theorem fa195x3:faOk prog 195 3=some 3:=by kernel_rfl
theorem fa195x4:faOk prog 195 4=some 4:=by kernel_rfl
theorem sz200:szOf prog 200=some 1:=by kernel_rfl
theorem is200:(prog.info? 200).isSome=true:=by kernel_rfl
theorem ce200:prog.cellsOf 200=1:=by kernel_rfl
theorem ag200:aggT prog 200=some false:=by kernel_rfl
theorem sz206:szOf prog 206=some 1:=by kernel_rfl
theorem is206:(prog.info? 206).isSome=true:=by kernel_rfl
theorem ce206:prog.cellsOf 206=1:=by kernel_rfl
theorem ag206:aggT prog 206=some false:=by kernel_rfl
theorem sz209:szOf prog 209=some 5:=by kernel_rfl
theorem is209:(prog.info? 209).isSome=true:=by kernel_rfl
theorem ce209:prog.cellsOf 209=5:=by kernel_rfl
theorem ag209:aggT prog 209=some true:=by kernel_rfl
theorem ze209:czero prog 209=some (.agg #[.string ByteArray.empty,.int .i64 0,.int .i64 0,.string ByteArray.empty,.bool false]):=by kernel_rfl
theorem fa209x0:faOk prog 209 0=some 0:=by kernel_rfl
theorem fa209x1:faOk prog 209 1=some 1:=by kernel_rfl
theorem fa209x2:faOk prog 209 2=some 4:=by kernel_rfl
theorem nt210{x y:Operand}:cbin prog .eql 210 x y (.pointer none) (.pointer none)=some (.bool true):=by kernel_rfl
theorem nn210{x y:Operand}:cbin prog .neq 210 x y (.pointer none) (.pointer none)=some (.bool false):=by kernel_rfl
theorem nf210{x y:Operand}{a:Addr}:cbin prog .eql 210 x y (.pointer (some a)) (.pointer none)=some (.bool false):=by kernel_rfl
theorem ng210{x y:Operand}{a:Addr}:cbin prog .neq 210 x y (.pointer (some a)) (.pointer none)=some (.bool true):=by kernel_rfl
theorem ze213:czero prog 213=some (.agg #[.int .u8 0,.int .u8 0,.int .u8 0,.int .u8 0,.int .u8 0,.int .u8 0,.int .u8 0,.int .u8 0,.int .u8 0,.int .u8 0,.int .u8 0,.int .u8 0,.int .u8 0,.int .u8 0,.int .u8 0,.int .u8 0,.int .u8 0,.int .u8 0,.int .u8 0,.int .u8 0]):=by kernel_rfl
theorem sz219:szOf prog 219=some 2:=by kernel_rfl
theorem is219:(prog.info? 219).isSome=true:=by kernel_rfl
theorem ce219:prog.cellsOf 219=2:=by kernel_rfl
theorem ag219:aggT prog 219=some true:=by kernel_rfl
theorem ze219:czero prog 219=some (.agg #[.int .i64 0,.slice none 0 0]):=by kernel_rfl
theorem fa219x0:faOk prog 219 0=some 0:=by kernel_rfl
theorem fa219x1:faOk prog 219 1=some 1:=by kernel_rfl
theorem sz220:szOf prog 220=some 1:=by kernel_rfl
theorem is220:(prog.info? 220).isSome=true:=by kernel_rfl
theorem ce220:prog.cellsOf 220=1:=by kernel_rfl
theorem ag220:aggT prog 220=some false:=by kernel_rfl
theorem ze220:czero prog 220=some (.pointer none):=by kernel_rfl
theorem nt220{x y:Operand}:cbin prog .eql 220 x y (.pointer none) (.pointer none)=some (.bool true):=by kernel_rfl
theorem nn220{x y:Operand}:cbin prog .neq 220 x y (.pointer none) (.pointer none)=some (.bool false):=by kernel_rfl
theorem nf220{x y:Operand}{a:Addr}:cbin prog .eql 220 x y (.pointer (some a)) (.pointer none)=some (.bool false):=by kernel_rfl
theorem ng220{x y:Operand}{a:Addr}:cbin prog .neq 220 x y (.pointer (some a)) (.pointer none)=some (.bool true):=by kernel_rfl
theorem sz221:szOf prog 221=some 1:=by kernel_rfl
theorem is221:(prog.info? 221).isSome=true:=by kernel_rfl
theorem ce221:prog.cellsOf 221=1:=by kernel_rfl
theorem ag221:aggT prog 221=some false:=by kernel_rfl
theorem ze221:czero prog 221=some (.pointer none):=by kernel_rfl
theorem nt221{x y:Operand}:cbin prog .eql 221 x y (.pointer none) (.pointer none)=some (.bool true):=by kernel_rfl
theorem nn221{x y:Operand}:cbin prog .neq 221 x y (.pointer none) (.pointer none)=some (.bool false):=by kernel_rfl
theorem nf221{x y:Operand}{a:Addr}:cbin prog .eql 221 x y (.pointer (some a)) (.pointer none)=some (.bool false):=by kernel_rfl
theorem ng221{x y:Operand}{a:Addr}:cbin prog .neq 221 x y (.pointer (some a)) (.pointer none)=some (.bool true):=by kernel_rfl
section
def vA(k n:Int)(x:ByteArray):Value := .agg #[.int .i64 k,.int .i64 n,.string x]
end
def idxOf:List ByteArray→ByteArray→Option Nat
 | [],_=>none
 |y::T,x=>if y=x then some 0 else (idxOf T x).map (·+1)
def entsFrom:List ByteArray→Nat→List MapEntry
 | [],_=>[]
 |y::T,i=>{ key := .string y,val := .int .i64 ((i+1:Nat):Int),born:=i }::entsFrom T (i+1)
theorem ents_app:∀ (T:List ByteArray) (x:ByteArray) (i:Nat),entsFrom (T ++ [x]) i=entsFrom T i ++ [{ key := .string x,val := .int .i64 ((i+T.length+1:Nat):Int),born:=i+T.length }]:=by
 intro T;induction T with
 |nil=>intro x i;rfl
 |cons y T ih=>intro x i;simp only[List.cons_append,entsFrom,ih,List.length_cons];rw[show i+1+T.length=i+(T.length+1) from by omega]
theorem find_ents:∀ (T:List ByteArray) (x:ByteArray) (i:Nat),Instr.findNow .string (.string x) (entsFrom T i) i=some ((idxOf T x).map fun j=>(i+j,.int .i64 ((i+j+1:Nat):Int))):=by
 intro T;induction T with
 |nil=>intro x i;rfl
 |cons y T ih =>
  intro x i
  simp only[entsFrom,Instr.findNow,Instr.sameNow,idxOf]
  by_cases e:y=x
  ·subst e
   have:(y == y)=true:=ba_beq_iff.2 rfl
   rw[this]
   simp
  ·have:(x == y)=false:=by rw[Bool.eq_false_iff];intro h;exact e (ba_beq_iff.1 h).symm
   rw[this]
   simp only[if_neg e,ih]
   cases idxOf T x with
   |none=>rfl
   |some j=>simp;omega
theorem cfind_ents(T:List ByteArray)(x:ByteArray):cfind prog 9 (.string x) (entsFrom T 0)=some ((idxOf T x).map fun j=>(j,.int .i64 ((j+1:Nat):Int))):=by
 unfold cfind
 rw[if_pos (show plain 6 (Value.string x)=true from rfl),underlying9]
 simp only[find_ents,Nat.zero_add]
theorem idx_lt:∀ {T:List ByteArray}{x:ByteArray}{j:Nat},idxOf T x=some j→j<T.length∧T[j]?=some x:=by
 intro T;induction T with
 |nil=>intro x j h;cases h
 |cons y T ih =>
  intro x j h
  unfold idxOf at h
  split at h
  ·rename_i e;cases h;simp[e]
  ·obtain⟨i,hi,rfl⟩:=Option.map_eq_some_iff.1 h
   have:=ih hi
   simpa using this
def ofT(T:List ByteArray)(x:ByteArray):List ByteArray:=match idxOf T x with
 |some _=>T
 |none=>T ++ [x]
def ofN(T:List ByteArray)(x:ByteArray):Int:=match idxOf T x with
 |some j=>((j+1:Nat):Int)
 |none=>((T.length+1:Nat):Int)
theorem infoStr:∃ ie,prog.info? 9=some ie∧ie.size=1∧ie.bytes=16:=by
 obtain⟨ie,h⟩:=Option.isSome_iff_exists.1 is9
 have h1:=ce9
 have h2:prog.bytesOf 9=16:=by kernel_rfl
 rw[cellsOf_info h]at h1
 simp only[Program.bytesOf,h]at h2
 exact⟨ie,h,h1,h2⟩
theorem rowStr(x:ByteArray):crow prog 33 1 #[(0,.string x)]=some (.cells [.string x] 9 true):=by kernel_rfl
section
theorem app_str{s:St M}{sl:Value}{T:List ByteArray}{x:ByteArray}(hlen:T.length≤1099511627776)(hsl:SlC 9 1 s sl (T.map .string) T.length)(hfr:∀ q m c,sl = .slice (some q) m c→q.block<s.next) :
  ∃ s',capp prog #[33,33] #[sl,.slice (some ⟨s.next,0,none⟩) 1 1] (s.new (.cells [.string x] 9 true))=some (.slice (some ⟨s.next+1,0,none⟩) (T.length+1) UNK,s')∧s'.next=s.next+2 ∧
   s'.at' (s.next+1)=some (.cells ((T ++ [x]).map .string) 9 true)∧(∀ b,b<s.next→(∀ q m c,sl = .slice (some q) m c→b≠q.block)→s'.at' b=s.at' b):=by
 obtain⟨ie,hie,h1,h2⟩:=infoStr
 have hcapp:capp prog #[33,33] #[sl,.slice (some ⟨s.next,0,none⟩) 1 1] (s.new (.cells [.string x] 9 true))=capp3 prog 9 ie sl (s.new (.cells [.string x] 9 true)) (cmore ie.size (.slice (some ⟨s.next,0,none⟩) 1 1) (s.new (.cells [.string x] 9 true))):=
  app_eq underlying33 underlying33 hie
 have hv:cmore ie.size (.slice (some ⟨s.next,0,none⟩) 1 1) (s.new (.cells [.string x] 9 true))=some (1,[.string x]):=by
  simp only[more_at,St.at_new,if_true,more2,h1];rfl
 obtain⟨s',h3,h4,h5,h6⟩:=app_row (n:=T.length) (k:=1) hie ze9 (by rw[h1];rfl) (by omega) hcapp (by omega) (by rw[h2];omega) rfl hv (by rw[h1];exact hsl.same fun q m c e=>by rw[St.at_new,if_neg (by have:=hfr q m c e;omega)])
 refine⟨s',by simpa using h3,by simp at h4;omega,by simpa using h5,fun b hb hq=>?_⟩
 rw[h6 b (by simp;omega) hq,St.at_new,if_neg (by omega)]
structure TabAt(lo:Nat)(s:St M)(p:Nat)(T:List ByteArray)(O:Nat→Prop):Prop where
 own:∀ b,O b→lo≤b∧b<s.next
 pin:O p
 bl:∃ m sl,s.at' p=some (.cells [.map (some m),sl] 174 true)∧s.at' m=some (.map (entsFrom T 0) T.length)∧O m∧m≠p∧SlC 9 1 s sl (T.map .string) T.length∧(∀ q n c,sl = .slice (some q) n c→O q.block∧q.block≠p∧q.block≠m)
theorem TabAt.same{lo:Nat}{s s':St M}{p:Nat}{T:List ByteArray}{O:Nat→Prop}(h:TabAt lo s p T O)(hn:s.next≤s'.next)(hs:∀ b,O b→s'.at' b=s.at' b):TabAt lo s' p T O:=by
 obtain⟨h1,h2,m,sl,h3,h4,h5,h6,h7,h8⟩:=h
 exact⟨fun b hb=>⟨(h1 b hb).1,by have:=(h1 b hb).2;omega⟩,h2,m,sl,by rw[hs _ h2];exact h3,by rw[hs _ h5];exact h4,h5,h6,h7.same fun q n c e=>hs _ (h8 q n c e).1,h8⟩
theorem dead_spec{p:Nat}{m:Nat}{sl:Value}(h0:s.at' p=some (.cells [.map (some m),sl] 174 true))(h:R (.bool false) s):QC prog w0 142 #[.pointer (some ⟨p,0,none⟩)] s R:=by
 refine wfun2 hmix ok142 func142 rfl ntmps142 results142 (by simp) ?_
 simp -implicitDefEqProofs only[↓Zd,(Zp),simprocAttr,cld2,underlying172,h0,nf69,nf172,fa174x0,ag172]
 exact h
theorem find_spec{lo p:Nat}{T:List ByteArray}{x:ByteArray}{O:Nat→Prop}(hT:TabAt lo s p T O)(h:R (match idxOf T x with|some j => .tuple #[.int .i64 ((j+1:Nat):Int),.bool true]|none => .tuple #[.int .i64 0,.bool false]) s) :
  QC prog w0 112 #[.pointer (some ⟨p,0,none⟩),.string x] s R:=by
 refine wfun2 hmix ok112 func112 rfl ntmps112 results112 (by simp) ?_
 obtain⟨h1,h2,m,sl,h3,h4,h5,h6,h7,h8⟩:=hT
 simp -implicitDefEqProofs only[↓Zd,(Zp),simprocAttr,co142]
 refine dead_spec h3 ?_
 cases hi:idxOf T x with
 |none =>
  rw[hi]at h
  simp -implicitDefEqProofs only[↓Zd,(Zp),simprocAttr,cld2,underlying4,underlying172,underlying192,h3,h4,cfind_ents,hi,ze3,fa174x0,ag172]
  exact h
 |some j =>
  rw[hi]at h
  simp -implicitDefEqProofs only[↓Zd,(Zp),simprocAttr,cld2,underlying4,underlying172,underlying192,h3,h4,cfind_ents,hi,ze3,fa174x0,ag172]
  exact h
theorem of_spec{lo p:Nat}{T:List ByteArray}{x:ByteArray}{O:Nat→Prop}(hT:TabAt lo s p T O)(hlo:lo≤s.next)(hlen:T.length≤1099511627776)
  (h:∀ s' O',TabAt lo s' p (ofT T x) O'→s.next≤s'.next→(∀ b,b<s.next→¬ O b→s'.at' b=s.at' b)→(∀ b,O' b→O b∨s.next≤b)→R (.int .i64 (ofN T x)) s') :
  QC prog w0 118 #[.pointer (some ⟨p,0,none⟩),.string x] s R:=by
 refine wfun2 hmix ok118 func118 rfl ntmps118 results118 (by simp) ?_
 have hT0:=hT
 obtain⟨h1,h2,m,sl,h3,h4,h5,h6,h7,h8⟩:=hT
 simp -implicitDefEqProofs only[↓Zd,(Zp),simprocAttr,co142]
 refine dead_spec h3 ?_
 cases hi:idxOf T x with
 |some j =>
  unfold ofT ofN at h
  simp only[hi]at h
  simp -implicitDefEqProofs only[↓Zd,(Zp),simprocAttr,cld2,underlying4,underlying172,underlying192,h3,h4,cfind_ents,hi,ze3,fa174x0,ag172]
  exact h s O hT0 (Nat.le_refl _) (fun _ _ _=>rfl) (fun b hb => .inl hb)
 |none =>
  unfold ofT ofN at h
  simp only[hi]at h
  obtain⟨s3,happ,hn3,hat3,hk3⟩:=app_str (x:=x) hlen h7 (fun q n c e=>(h1 _ (h8 q n c e).1).2)
  have hp3:s3.at' p=some (.cells [.map (some m),sl] 174 true):=by rw[hk3 p (h1 p h2).2 (fun q n c e=>(h8 q n c e).2.1.symm)];exact h3
  have hm3:s3.at' m=some (.map (entsFrom T 0) T.length):=by rw[hk3 m (h1 m h5).2 (fun q n c e=>(h8 q n c e).2.2.symm)];exact h4
  have hmp:¬ m=p:=h6
  have hpm:¬ p=m:=fun e=>h6 e.symm
  have hpn:p<s.next:=(h1 p h2).2
  have hmn:m<s.next:=(h1 m h5).2
  simp -implicitDefEqProofs only[↓Zd,(Zp),simprocAttr,qP,Value.cells,qC,cld2,underlying4,underlying172,underlying33,underlying192,h3,h4,cfind_ents,hi,ze3,fa174x0,fa174x1,ag172,ag33,sz33,rowStr,happ,hp3,hm3,hmp]
  refine h _ (fun b=>b=p∨b=m∨b=s.next+1) ⟨?_,.inl rfl,m,.slice (some ⟨s.next+1,0,none⟩) (T.length+1) UNK,?_,?_,.inr (.inl rfl),h6,?_,?_⟩ ?_ ?_ ?_
  ·rintro b (rfl|rfl|rfl)
   ·exact⟨(h1 _ h2).1,by simp only[St.next_put];omega⟩
   ·exact⟨(h1 _ h5).1,by simp only[St.next_put];omega⟩
   ·exact⟨by omega,by simp only[St.next_put];omega⟩
  ·rw[St.at_put,if_neg hpm,St.at_put,if_pos rfl]
  ·rw[St.at_put,if_pos rfl,ents_app]
   simp
  ·refine .inr ⟨s.next+1,UNK,by simp,.inl rfl,?_,by simp⟩
   rw[St.at_put,if_neg (by omega),St.at_put,if_neg (by omega)]
   exact hat3
  ·intro q n c e
   cases e
   exact⟨.inr (.inr rfl),by show s.next+1≠p;omega,by show s.next+1≠m;omega⟩
  ·simp only[St.next_put];omega
  ·intro b hb ho
   rw[St.at_put,if_neg (fun e:b=m=>ho (e▸h5)),St.at_put,if_neg (fun e:b=p=>ho (e▸h2))]
   exact hk3 b hb (fun q n c e e2=>ho (e2▸(h8 q n c e).1))
  ·rintro b (rfl|rfl|rfl)
   ·exact .inl h2
   ·exact .inl h5
   ·exact .inr (by omega)
def txtV(T:List ByteArray)(i:Int):Value:=if 1≤i∧i≤T.length then .tuple #[.string (T.getD (i.toNat - 1) ⟨#[]⟩),.bool true] else .tuple #[.string ⟨#[]⟩,.bool false]
theorem text_spec{lo p:Nat}{T:List ByteArray}{O:Nat→Prop}{i:Int}(hi : -9223372036854775808≤i∧i≤9223372036854775807)(hT:TabAt lo s p T O)(h:R (txtV T i) s):QC prog w0 145 #[.pointer (some ⟨p,0,none⟩),.int .i64 i] s R:=by
 refine wfun2 hmix ok145 func145 rfl ntmps145 results145 (by simp) ?_
 obtain⟨h1,h2,m,sl,h3,h4,h5,h6,h7,h8⟩:=hT
 unfold txtV at h
 simp -implicitDefEqProofs only[↓Zd,(Zp),simprocAttr,co142]
 refine dead_spec h3 ?_
 by_cases i1:i<1
 ·rw[if_neg (by omega)]at h
  simp -implicitDefEqProofs only[↓Zd,(Zp),simprocAttr,underlying4,i1]
  exact h
 ·rcases h7 with ⟨e1,_,rfl⟩|⟨b,c,rfl,_,h9,_⟩
  ·have i2:0<i:=by omega
   rw[if_neg (by omega)]at h
   simp -implicitDefEqProofs only[↓Zd,(Zp),simprocAttr,cld2,underlying4,underlying33,h3,fa174x1,ag33,i1,i2]
   exact h
  ·by_cases i2:(T.length:Int)<i
   ·rw[if_neg (by omega)]at h
    simp -implicitDefEqProofs only[↓Zd,(Zp),simprocAttr,cld2,underlying4,underlying33,h3,fa174x1,ag33,i1,i2]
    exact h
   ·rw[if_pos (by omega)]at h
    obtain⟨j,rfl⟩:∃ j:Nat,i=((j+1:Nat):Int):=⟨(i - 1).toNat,by omega⟩
    have w1:IntKind.i64.wrap (((j+1:Nat):Int) - 1)=(j:Int):=by rw[wrap_i64 (by omega)];omega
    have hj:(0:Int)≤(j:Int)∧(j:Int)<(T.length:Int):=by omega
    have hx:(T.map Value.string)[j]?=some (.string (T.getD j ⟨#[]⟩)):=by
     have:j<T.length:=by omega
     simp[this]
    simp -implicitDefEqProofs only[↓Zd,(Zp),simprocAttr,cld2,underlying4,underlying9,underlying33,h3,h9,fa174x1,ag33,ag9,sz9,i1,i2,w1,hj,hx]
    simpa using h
end
section
theorem infoU8:∃ ie,prog.info? 5=some ie∧ie.size=1∧ie.bytes=1:=by
 obtain⟨ie,h⟩:=Option.isSome_iff_exists.1 is5
 have h1:=ce5
 have h2:prog.bytesOf 5=1:=by kernel_rfl
 rw[cellsOf_info h]at h1
 simp only[Program.bytesOf,h]at h2
 exact⟨ie,h,h1,h2⟩
theorem zeroU8:czero prog 5=some (.int .u8 0):=by kernel_rfl
theorem app_bytes{s:St M}{sl v:Value}{l new:List UInt8}{t2 e2:TypeId}(ht2:prog.underlying t2=some (.slice e2)∨prog.underlying t2=some .string)(hne:new ≠ [])(hlen:l.length+new.length≤140737488355328)
  (hsl:SlC 5 1 s sl (l.map toV) l.length)(hv:cmore 1 v s=some (new.length,new.map toV)) :
  ∃ s',capp prog #[141,t2] #[sl,v] s=some (.slice (some ⟨s.next,0,none⟩) (l++new).length UNK,s')∧s'.next=s.next+1∧s'.at' s.next=some (.cells ((l++new).map toV) 5 true) ∧
   (∀ b,b≠s.next→(∀ q n c,sl = .slice (some q) n c→b≠q.block)→s'.at' b=s.at' b):=by
 obtain⟨ie,hie,h1,h2⟩:=infoU8
 have hok:(new.map toV).all qC=true:=by simp[toV,qC]
 have hn0:new.length≠0:=by simpa using hne
 have hcapp:capp prog #[141,t2] #[sl,v] s=capp3 prog 5 ie sl s (cmore ie.size v s):=by
  rcases ht2 with ht2|ht2
  ·exact app_eq underlying141 ht2 hie
  ·exact app_eq_str underlying141 ht2 hie
 have:=app_row (n:=l.length) (k:=new.length) hie zeroU8 (by rw[h1];rfl) (by omega) hcapp hn0 (by rw[h2];omega) hok (by rw[h1];exact hv) (by rw[h1];exact hsl)
 simpa only[List.length_append,List.map_append] using this
theorem rowB(v:Int):crow prog 141 1 #[(0,.int .u8 v)]=some (.cells [.int .u8 v] 5 true):=by kernel_rfl
end
def plainB(c:UInt8):Bool:=decide (32≤(c.toNat:Int)) && (decide ((c.toNat:Int)≤126) && (!decide ((c.toNat:Int)=34) && !decide ((c.toNat:Int)=92)))
def hexS:ByteArray:=⟨#[48,49,50,51,52,53,54,55,56,57,97,98,99,100,101,102]⟩
def hexB(n:Nat):UInt8:=hexS.data.getD n 0
def escB(c:UInt8):List UInt8:=if plainB c=true then [c] else if (c.toNat:Int)=34∨(c.toNat:Int)=92 then [92,c] else [92,120,hexB (c.toNat / 16),hexB (c.toNat % 16)]
def quoteL(l:List UInt8):List UInt8:=34::(l.flatMap escB ++ [34])
def quoteS(x:ByteArray):ByteArray:=⟨(quoteL x.data.toList).toArray⟩
theorem byte_at'{x:ByteArray}{i:Nat}(h:i<x.size):∃ b,x[i]?=some b∧x.data.toList.take (i+1)=x.data.toList.take i ++ [b]:=by
 have h':i<x.data.toList.length:=by simpa using h
 refine⟨x.data.toList[i],?_,List.take_succ_eq_append_getElem h'⟩
 simp only[Array.getElem_toList]
 rw[getElem?_pos x i h]
 rfl
theorem hex_at{n:Nat}(h:n<16):hexS[n]?=some (hexB n):=by
 have:∀ n:Fin 16,hexS[n.val]?=some (hexB n.val):=by decide
 exact this ⟨n,h⟩
theorem escB_len(c:UInt8):(escB c).length≤4:=by
 unfold escB;split<;>try split
 all_goals simp
theorem flat_len:∀ l:List UInt8,(l.flatMap escB).length≤4*l.length:=by
 intro l
 induction l with
 |nil=>simp
 |cons c l ih=>have:=escB_len c;simp only[List.flatMap_cons,List.length_append,List.length_cons];omega
theorem and15(c:UInt8){x y:Operand}:cbin prog .and 5 x y (.int .u8 c.toNat) (.int .u8 15)=some (.int .u8 ((c.toNat % 16:Nat):Int)):=by
 have:∀ n:Fin 256,(match pure6 prog (Go.binOp .and 5 (.int .u8 (n.val:Int)) (.int .u8 15)) with|some (.int .u8 m)=>m == ((n.val % 16:Nat):Int)|_=>false)=true:=by decide +kernel
 have h:=this ⟨c.toNat,c.toNat_lt⟩
 simp only[cbin,if_true]
 split at h
 ·rename_i m hm
  rw[show ((⟨c.toNat,c.toNat_lt⟩:Fin 256).val)=c.toNat from rfl]at hm h
  rw[hm,eq_of_beq h]
 ·cases h
section
theorem rPlain_spec{c:UInt8}(h:R (.bool (plainB c)) s):QC prog w0 152 #[.int .u8 c.toNat] s R:=by
 refine wfun2 hmix ok152 func152 rfl ntmps152 results152 (by simp) ?_
 unfold plainB at h
 by_cases h1:32≤(c.toNat:Int)<;>by_cases h2:(c.toNat:Int)≤126<;>by_cases h3:(c.toNat:Int)=34<;>by_cases h4:(c.toNat:Int)=92
 all_goals
  simp only[h1,h2,h3,h4,decide_true,decide_false,Bool.false_and,Bool.not_true,Bool.not_false,Bool.and_true,Bool.and_false]at h
  simp -implicitDefEqProofs only[↓Zd,(Zp),simprocAttr,h1,h2,h3,h4]
  exact h
structure RB(s0 s:St M)(sl:Value)(l:List UInt8):Prop where
 le:s0.le s
 sc:SlC 5 1 s sl (l.map toV) l.length
 at':∀ q n c,sl = .slice (some q) n c→s0.next≤q.block∧q.block<s.next
theorem RB.app{s0 s1:St M}{sl:Value}{l new:List UInt8}(hB:RB s0 s1 sl l)(hne:new ≠ [])(hlen:l.length+new.length≤140737488355328) :
  ∃ s3,capp prog #[141,141] #[sl,.slice (some ⟨s1.next,0,none⟩) new.length new.length] (s1.new (.cells (new.map toV) 5 true))=some (.slice (some ⟨s1.next+1,0,none⟩) (l++new).length UNK,s3) ∧
   RB s0 s3 (.slice (some ⟨s1.next+1,0,none⟩) (l++new).length UNK) (l++new):=by
 have hsl:SlC 5 1 (s1.new (.cells (new.map toV) 5 true)) sl (l.map toV) l.length:=hB.sc.same fun q m c e=>by
  rw[St.at_new,if_neg (by have:=hB.at' q m c e;omega)]
 obtain⟨s3,h1,h2,h3,h4⟩:=app_bytes (s:=s1.new (.cells (new.map toV) 5 true)) (v := .slice (some ⟨s1.next,0,none⟩) new.length new.length) (new:=new) (.inl underlying141) hne hlen hsl
  (by simp only[more_at,St.at_new,if_true,more2];rw[cut_all (by simp)];rfl)
 simp only[St.next_new]at h1 h2 h3 h4
 refine⟨s3,h1,⟨⟨by have:=hB.le.1;omega,fun b hb=>?_⟩,.inr ⟨_,_,rfl,.inl rfl,h3,by simp⟩,fun q n c e=>?_⟩⟩
 ·rw[h4 b (by have:=hB.le.1;omega) (fun q n c e=>by have:=hB.at' q n c e;omega),St.at_new,if_neg (by have:=hB.le.1;omega)]
  exact hB.le.2 b hb
 ·cases e
  have:=hB.le.1
  exact⟨by show _≤s1.next+1;omega,by show s1.next+1<_;omega⟩
theorem rowB3(a b c:Int):crow prog 141 3 #[(0,.int .u8 a),(1,.int .u8 b),(2,.int .u8 c)]=some (.cells [.int .u8 a,.int .u8 b,.int .u8 c] 5 true):=by kernel_rfl
theorem toV34:toV 34 = .int .u8 34:=rfl
theorem toV92:toV 92 = .int .u8 92:=rfl
theorem toV120:toV 120 = .int .u8 120:=rfl
theorem toV_def(c:UInt8):toV c = .int .u8 c.toNat:=rfl
def rquoteI(x:ByteArray)(s:St M)(k:Nat)(env:Env)(s':St M):Prop:=∃ i:Nat,k=x.size - i∧i≤x.size∧env 5 = .int .i64 i∧RB s s' (env 4) (34::(x.data.toList.take i).flatMap escB)
theorem rQuote_spec{x:ByteArray}(hx:x.size≤1000000)(h:∀ s',s.le s'→R (.string (quoteS x)) s'):QC prog w0 130 #[.string x] s R:=by
 refine wfun2 hmix ok130 func130 rfl ntmps130 results130 (by simp) ?_
 simp -implicitDefEqProofs only[↓Zd,(Zp),simprocAttr,rowB]
 refine wloop_fix hmix [8,9,10,11,14,15,16,6,17,18,19,20,21,22,4,23,24,25,26,27,28,29,30,31,32,33,34,35,36,37,38,39,40,41,42,43,44,45,46,12,13,5] (rquoteI x s) (x.size - 0) ?_ ?_
 ·refine⟨0,rfl,by omega,rfl,⟨lN (lR s),.inr ⟨s.next,1,rfl,.inr ⟨rfl,by decide⟩,by simp[toV],by simp⟩,fun q n c e=>?_⟩⟩
  cases e
  exact⟨Nat.le_refl _,by simp⟩
 ·rintro k env s' hF ⟨i,rfl,hi,e5,hB⟩
  have e0:env 0 = .string x:=by rw[hF 0 rfl];rfl
  have e3:env 3 = .string hexS:=by rw[hF 3 rfl];rfl
  obtain⟨sl,e4⟩:∃ sl,env 4=sl:=⟨_,rfl⟩
  rw[e4]at hB
  have hlen:(34::(x.data.toList.take i).flatMap escB).length≤4000001:=by
   have h1:=flat_len (x.data.toList.take i)
   have h2:(x.data.toList.take i).length≤i:=List.length_take_le _ _
   simp only[List.length_cons];omega
  by_cases hlt:i<x.size
  ·obtain⟨c,hc,ht⟩:=byte_at' hlt
   have hlt':(i:Int)<(x.size:Int):=by omega
   have h0:(0:Int)≤(i:Int):=by omega
   have w7:IntKind.i64.wrap ((i:Int)+1)=((i+1:Nat):Int):=by rw[wrap_i64 (by omega)];omega
   have hnext:∀ {env':Env}{s2:St M},env' 5 = .int .i64 ((i+1:Nat):Int)→RB s s2 (env' 4) ((34::(x.data.toList.take i).flatMap escB)++escB c)→∃ m,m<x.size - i∧rquoteI x s m env' s2:=by
    intro env' s2 h9 hB2
    refine⟨x.size - (i+1),by omega,i+1,rfl,by omega,h9,?_⟩
    rw[ht,List.flatMap_append]
    simpa using hB2
   simp -implicitDefEqProofs only[↓Zd,(Zp),simprocAttr,underlying9,e0,e5,hlt',h0,hc,co152]
   refine rPlain_spec ?_
   by_cases hp:plainB c=true
   ·have he:escB c=[c]:=by simp[escB,hp]
    rw[hp]
    obtain⟨s3,happ,hB3⟩:=hB.app (new:=[c]) (by simp) (by simp only[List.length_cons,List.length_nil]at hlen ⊢;omega)
    simp only[List.length_cons,List.length_nil,List.map_cons,List.map_nil,Nat.zero_add]at happ
    try simp only[toV34,toV92,toV120]at happ
    try simp only[toV_def]at happ
    simp -implicitDefEqProofs only[↓Zd,(Zp),simprocAttr,underlying4,e4,e5,rowB,happ,w7]
    refine⟨?_,hnext rfl (by rw[he];exact hB3)⟩
    repeat (first|exact hF|refine Fix.upd (by decide) ?_)
   ·have hp':plainB c=false:=by simpa using hp
    rw[hp']
    obtain⟨s3,happ,hB3⟩:=hB.app (new:=[92]) (by simp) (by simp only[List.length_cons,List.length_nil]at hlen ⊢;omega)
    simp only[List.length_cons,List.length_nil,List.map_cons,List.map_nil,Nat.zero_add]at happ
    try simp only[toV92]at happ
    try simp only[toV_def]at happ
    by_cases hq:(c.toNat:Int)=34∨(c.toNat:Int)=92
    ·have he:escB c=[92,c]:=by simp only[escB,hp',Bool.false_eq_true,if_false,if_pos hq]
     obtain⟨s4,happ2,hB4⟩:=hB3.app (new:=[c]) (by simp) (by simp only[List.length_append,List.length_cons,List.length_nil]at hlen ⊢;omega)
     simp only[List.length_append,List.length_cons,List.length_nil,List.map_cons,List.map_nil,Nat.zero_add]at happ2
     try simp only[toV34,toV92,toV120]at happ2
     try simp only[toV_def]at happ2
     have hq':decide ((c.toNat:Int)=34)=true∨(decide ((c.toNat:Int)=34)=false∧decide ((c.toNat:Int)=92)=true):=by
      by_cases h1:(c.toNat:Int)=34
      ·exact .inl (by simpa using h1)
      ·exact .inr ⟨by simpa using h1,by rcases hq with h2|h2;exact absurd h2 h1;simpa using h2⟩
     rcases hq' with h1|⟨h1,h2⟩
     all_goals
      simp -implicitDefEqProofs only[↓Zd,(Zp),simprocAttr,underlying4,e4,e5,rowB,happ,happ2,h1,w7,List.length_append]
      try simp -implicitDefEqProofs only[↓Zd,(Zp),simprocAttr,e5,rowB,happ2,h2,w7]
      refine⟨?_,hnext rfl (by rw[he];have:=hB4;simp only[List.length_append,List.length_cons,List.length_nil,Nat.zero_add]at this;rw[List.append_assoc]at this;exact this)⟩
      repeat (first|exact hF|refine Fix.upd (by decide) ?_)
    ·have h1:¬ (c.toNat:Int)=34:=fun e=>hq (.inl e)
     have h2:¬ (c.toNat:Int)=92:=fun e=>hq (.inr e)
     have he:escB c=[92,120,hexB (c.toNat / 16),hexB (c.toNat % 16)]:=by simp only[escB,hp',Bool.false_eq_true,if_false,if_neg hq]
     have hc255:c.toNat≤255:=by have:=c.toNat_lt;omega
     have w8:(c.toNat:Int).tdiv 16=((c.toNat / 16:Nat):Int):=by rw[Int.tdiv_eq_ediv_of_nonneg (by omega)];omega
     have w9:(c.toNat:Int).tmod 16=((c.toNat % 16:Nat):Int):=by rw[Int.tmod_eq_emod_of_nonneg (by omega)];omega
     have w10:IntKind.u8.wrap ((c.toNat / 16:Nat):Int)=((c.toNat / 16:Nat):Int):=wrap_u8 (by omega)
     have hx1:=hex_at (n:=c.toNat / 16) (by omega)
     have hx2:=hex_at (n:=c.toNat % 16) (by omega)
     have h3:(0:Int)≤((c.toNat / 16:Nat):Int):=by omega
     have h4:(0:Int)≤((c.toNat % 16:Nat):Int):=by omega
     obtain⟨s4,happ2,hB4⟩:=hB3.app (new:=[120,hexB (c.toNat / 16),hexB (c.toNat % 16)]) (by simp) (by simp only[List.length_append,List.length_cons,List.length_nil]at hlen ⊢;omega)
     simp only[List.length_append,List.length_cons,List.length_nil,List.map_cons,List.map_nil,Nat.zero_add]at happ2
     try simp only[toV120]at happ2
     try simp only[toV_def]at happ2
     simp -implicitDefEqProofs only[↓Zd,(Zp),Zr,simprocAttr,underlying4,underlying9,e3,e4,e5,rowB,rowB3,happ,happ2,h1,h2,h3,h4,hx1,hx2,w8,w9,w10,w7,List.length_append,ord130]
     refine⟨?_,hnext rfl (by rw[he];have:=hB4;simp only[List.length_append,List.length_cons,List.length_nil,Nat.zero_add]at this;rw[List.append_assoc]at this;exact this)⟩
     repeat (first|exact hF|refine Fix.upd (by decide) ?_)
  ·have hlt':¬ (i:Int)<(x.size:Int):=by omega
   have htk:x.data.toList.take i=x.data.toList:=List.take_of_length_le (by simp;omega)
   rw[htk]at hB hlen
   obtain⟨s3,happ,hB3⟩:=hB.app (new:=[34]) (by simp) (by simp only[List.length_cons,List.length_nil]at hlen ⊢;omega)
   simp only[List.length_append,List.length_cons,List.length_nil,List.map_cons,List.map_nil,Nat.zero_add]at happ
   try simp only[toV34]at happ
   try simp only[toV_def]at happ
   have hbs:cbs2 (s3.at' (s'.next+1)) 0 (((x.data.toList.flatMap escB).length+1)+1)=some (.string (quoteS x)):=by
    rcases hB3.sc with ⟨h1,_⟩|⟨b,c,h1,_,h2,_⟩
    ·simp at h1
    ·cases h1
     rw[h2,cbs2_all (l:=34::(x.data.toList.flatMap escB) ++ [34]) (by simp) rfl]
     simp[quoteS,quoteL]
   simp -implicitDefEqProofs only[↓Zd,(Zp),simprocAttr,underlying9,e0,e4,e5,rowB,happ,hlt',hbs,↓o_bs underlying141 underlying9 underlying5]
   exact h _ hB3.le
end
theorem upB:upOk prog 143 143=true:=by kernel_rfl
theorem upU8:upOk prog 5 5=true:=by kernel_rfl
theorem anyB:((prog.info? 143).any fun i=>i.size != 0)=true:=by kernel_rfl
theorem extNoEscape(v:Value):cextern prog 149 #[v]=some v:=by kernel_rfl
section
theorem copyCheck_spec{p:Nat}{ad sl:Value}(hp:s.at' p=some (.cells [ad,sl] 143 true))(had:ad = .pointer none∨ad = .pointer (some ⟨p,0,none⟩))
  (h:∀ s',s'.next=s.next→(∀ b,s'.at' b=if b=p then some (.cells [.pointer (some ⟨p,0,none⟩),sl] 143 true) else s.at' b)→R (.tuple #[]) s'):QC prog w0 124 #[.pointer (some ⟨p,0,none⟩)] s R:=by
 refine wfun2 hmix ok124 func124 rfl ntmps124 results124 (by simp) ?_
 rcases had with rfl|rfl
 ·simp -implicitDefEqProofs only[↓Zd,(Zp),simprocAttr,qP,Value.cells,qC,cld2,underlying140,underlying231,fa143x0,hp,ag140,sz140,nt140,↓o_cp,cup_to anyB,cup_of upB,ce143,no149,extNoEscape,Nat.zero_mod,Nat.zero_lt_succ,Nat.le_refl]
  refine h _ rfl fun b=>?_
  rw[St.at_put]
  try rfl
 ·simp -implicitDefEqProofs only[↓Zd,(Zp),Zr,simprocAttr,cld2,underlying140,underlying4,fa143x0,hp,ag140,nf140,cpp_ne sz143]
  refine h _ rfl fun b=>?_
  split
  ·rename_i e;rw[e];exact hp
  ·rfl
structure BAt(s0 s:St M)(p:Nat)(l:List UInt8):Prop where
 le:s0.le s
 lo:s0.next≤p
 hi:p<s.next
 bl:∃ ad sl,s.at' p=some (.cells [ad,sl] 143 true)∧(ad = .pointer none∨ad = .pointer (some ⟨p,0,none⟩)) ∧
  ((l=[]∧sl = .slice none 0 0)∨(l ≠ []∧∃ b,sl = .slice (some ⟨b,0,none⟩) l.length UNK∧s.at' b=some (.cells (l.map toV) 5 true)∧b≠p∧s0.next≤b∧b<s.next))
theorem BAt.more{s0 s s1 s3:St M}{p q:Nat}{l new:List UInt8}{sl:Value}(hlo:s0.next≤p)(hle:s0.le s3)(hp3:s3.at' p=some (.cells [.pointer (some ⟨p,0,none⟩),sl] 143 true))(hne:new ≠ [])(hq:s3.at' q=some (.cells ((l++new).map toV) 5 true))(hqp:q≠p)(hq0:s0.next≤q)(hq1:q<s3.next)(hp1:p<s3.next) :
  BAt s0 (s3.put p (.cells [.pointer (some ⟨p,0,none⟩),.slice (some ⟨q,0,none⟩) (l++new).length UNK] 143 true)) p (l++new) where
 le:=lP hle hlo
 lo:=hlo
 hi:=hp1
 bl:=⟨_,_,by rw[St.at_put,if_pos rfl],.inr rfl,.inr ⟨by simp[hne],q,rfl,by rw[St.at_put,if_neg hqp];exact hq,hqp,hq0,hq1⟩⟩
theorem writeByte_spec{s0:St M}{p:Nat}{l:List UInt8}{c:UInt8}(hB:BAt s0 s p l)(hlen:l.length≤1099511627776)(h:∀ s',BAt s0 s' p (l ++ [c])→R .nilIface s'):QC prog w0 78 #[.pointer (some ⟨p,0,none⟩),.int .u8 c.toNat] s R:=by
 refine wfun2 hmix ok78 func78 rfl ntmps78 results78 (by simp) ?_
 obtain⟨hle,hlo,hhi,ad,sl,hp,had,hsl⟩:=hB
 simp -implicitDefEqProofs only[↓Zd,(Zp),simprocAttr,co124]
 refine copyCheck_spec hp had fun s1 hn1 hat1=>?_
 have hp1:s1.at' p=some (.cells [.pointer (some ⟨p,0,none⟩),sl] 143 true):=by rw[hat1,if_pos rfl]
 have hsl1:SlC 5 1 (s1.new (.cells [.int .u8 c.toNat] 5 true)) sl (l.map toV) l.length:=by
  rcases hsl with ⟨h1,h2⟩|⟨h1,b,h2,h3,h4,h5,h6⟩
  ·exact .inl ⟨by simp[h1],by simp[h1],h2⟩
  ·exact .inr ⟨b,_,h2,.inl rfl,by rw[St.at_new,if_neg (by omega),hat1,if_neg h4];exact h3,by simp⟩
 obtain⟨s3,hcapp,hn3,hq3,hat3⟩:=app_bytes (s:=s1.new (.cells [.int .u8 c.toNat] 5 true)) (sl:=sl) (v := .slice (some ⟨s1.next,0,none⟩) 1 1) (l:=l) (new:=[c]) (t2:=141) (.inl underlying141) (by simp) (by simp;omega) hsl1
  (by simp only[more_at,St.at_new,if_true,more2];rw[cut_all (by simp)];rfl)
 simp only[St.next_new]at hn3 hq3 hat3 hcapp
 have hp3:s3.at' p=some (.cells [.pointer (some ⟨p,0,none⟩),sl] 143 true):=by
  rw[hat3 p (by omega) (fun q n c' e=>by
   rcases hsl with ⟨_,h1⟩|⟨_,b,h2,_,h4,_⟩
   ·rw[h1]at e;cases e
   ·rw[h2]at e;cases e;exact fun e=>h4 e.symm),St.at_new,if_neg (by omega)]
  exact hp1
 have hle3:s0.le s3:=by
  refine⟨by have:=hle.1;omega,fun b hb=>?_⟩
  rw[hat3 b (by have:=hle.1;omega) (fun q n c' e=>by
   rcases hsl with ⟨_,h1⟩|⟨_,b',h2,_,_,h5,_⟩
   ·rw[h1]at e;cases e
   ·rw[h2]at e;cases e;show b≠b';omega),St.at_new,if_neg (by have:=hle.1;omega),hat1,if_neg (by omega)]
  exact hle.2 b hb
 simp -implicitDefEqProofs only[↓Zd,(Zp),simprocAttr,qP,Value.cells,qC,cld2,underlying0,underlying141,fa143x1,hp1,ag141,sz141,rowB,hcapp,hp3]
 have:=BAt.more (s:=s) (s1:=s1) hlo hle3 hp3 (new:=[c]) (by simp) hq3 (by have:=hhi;omega) (by have:=hle.1;omega) (by omega) (by omega)
 exact h _ this
theorem writeString_spec{s0:St M}{p:Nat}{l:List UInt8}{x:ByteArray}(hB:BAt s0 s p l)(hlen:l.length≤1099511627776)(hx:x.data.toList ≠ [])(hlen2:x.size≤1099511627776)(h:∀ s',BAt s0 s' p (l++x.data.toList)→R (.tuple #[.int .i64 x.size,.nilIface]) s'):QC prog w0 71 #[.pointer (some ⟨p,0,none⟩),.string x] s R:=by
 refine wfun2 hmix ok71 func71 rfl ntmps71 results71 (by simp) ?_
 obtain⟨hle,hlo,hhi,ad,sl,hp,had,hsl⟩:=hB
 simp -implicitDefEqProofs only[↓Zd,(Zp),simprocAttr,co124]
 refine copyCheck_spec hp had fun s1 hn1 hat1=>?_
 have hp1:s1.at' p=some (.cells [.pointer (some ⟨p,0,none⟩),sl] 143 true):=by rw[hat1,if_pos rfl]
 have hsl1:SlC 5 1 s1 sl (l.map toV) l.length:=by
  rcases hsl with ⟨h1,h2⟩|⟨h1,b,h2,h3,h4,h5,h6⟩
  ·exact .inl ⟨by simp[h1],by simp[h1],h2⟩
  ·exact .inr ⟨b,_,h2,.inl rfl,by rw[hat1,if_neg h4];exact h3,by simp⟩
 obtain⟨s3,hcapp,hn3,hq3,hat3⟩:=app_bytes (s:=s1) (sl:=sl) (v := .string x) (l:=l) (new:=x.data.toList) (t2:=9) (e2:=0) (.inr underlying9) hx (by simp;omega) hsl1 (by simp[cmore];intro a _;rfl)
 have hp3:s3.at' p=some (.cells [.pointer (some ⟨p,0,none⟩),sl] 143 true):=by
  rw[hat3 p (by omega) (fun q n c' e=>by
   rcases hsl with ⟨_,h1⟩|⟨_,b,h2,_,h4,_⟩
   ·rw[h1]at e;cases e
   ·rw[h2]at e;cases e;exact fun e=>h4 e.symm)]
  exact hp1
 have hle3:s0.le s3:=by
  refine⟨by have:=hle.1;omega,fun b hb=>?_⟩
  rw[hat3 b (by have:=hle.1;omega) (fun q n c' e=>by
   rcases hsl with ⟨_,h1⟩|⟨_,b',h2,_,_,h5,_⟩
   ·rw[h1]at e;cases e
   ·rw[h2]at e;cases e;show b≠b';omega),hat1,if_neg (by omega)]
  exact hle.2 b hb
 simp -implicitDefEqProofs only[↓Zd,(Zp),simprocAttr,qP,Value.cells,qC,cld2,underlying9,underlying0,underlying141,fa143x1,hp1,ag141,sz141,hcapp,hp3]
 have:=BAt.more (s:=s) (s1:=s1) hlo hle3 hp3 (new:=x.data.toList) hx hq3 (by have:=hhi;omega) (by have:=hle.1;omega) (by omega) (by omega)
 exact h _ this
theorem string_spec{s0:St M}{p:Nat}{l:List UInt8}(hB:BAt s0 s p l)(hlen:l.length≤1099511627776)(h:∀ s',s0.le s'→R (.string ⟨l.toArray⟩) s'):QC prog w0 79 #[.pointer (some ⟨p,0,none⟩)] s R:=by
 refine wfun2 hmix ok79 func79 rfl ntmps79 results79 (by simp) ?_
 obtain⟨hle,hlo,hhi,ad,sl,hp,had,hsl⟩:=hB
 rcases hsl with ⟨rfl,rfl⟩|⟨hl,b,rfl,hb,hbp,hb0,hb1⟩
 ·simp -implicitDefEqProofs only[↓Zd,(Zp),simprocAttr,cld2,underlying141,underlying216,fa143x1,hp,ag141,ord79]
  exact h _ hle
 ·have hn:l.length≠0:=by simpa using hl
  have hus:=cus_hit (P:=prog) (s:=s) (u:=5) (e:=5) (a:=⟨b,0,none⟩) (k := .i64) (n:=l.length) (vs:=l.map toV) (l:=l) hn (by omega) upU8 ce5 (cut_all (by simp))
  have hbp':¬ p=b:=fun e=>hbp e.symm
  simp -implicitDefEqProofs only[↓Zd,(Zp),Zr,simprocAttr,cld2,underlying141,underlying216,fa143x1,hp,hb,hn,hus,ag141,ord79,UNK]
  exact h _ (lP hle hb0)
end
section
theorem plain_spec{c:UInt8}(h:R (.bool (plainB c)) s):QC prog w0 151 #[.int .u8 c.toNat] s R:=by
 refine wfun2 hmix ok151 func151 rfl ntmps151 results151 (by simp) ?_
 unfold plainB at h
 by_cases h1:32≤(c.toNat:Int)<;>by_cases h2:(c.toNat:Int)≤126<;>by_cases h3:(c.toNat:Int)=34<;>by_cases h4:(c.toNat:Int)=92
 all_goals
  simp only[h1,h2,h3,h4,decide_true,decide_false,Bool.false_and,Bool.not_true,Bool.not_false,Bool.and_true,Bool.and_false]at h
  simp -implicitDefEqProofs only[↓Zd,(Zp),simprocAttr,h1,h2,h3,h4]
  exact h
def quoteI(x:ByteArray)(s:St M)(p:Nat)(k:Nat)(env:Env)(s':St M):Prop:=∃ i:Nat,k=x.size - i∧i≤x.size∧env 9 = .int .i64 i∧BAt s s' p (34::(x.data.toList.take i).flatMap escB)
theorem quote_spec{x:ByteArray}(hx:x.size≤1000000)(h:∀ s',s.le s'→R (.string (quoteS x)) s'):QC prog w0 126 #[.string x] s R:=by
 refine wfun2 hmix ok126 func126 rfl ntmps126 results126 (by simp) ?_
 simp -implicitDefEqProofs only[↓Zd,(Zp),simprocAttr,Value.cells,ze143,co78]
 have hB0:BAt s (s.new (.cells [.pointer none,.slice none 0 0] 143 true)) s.next []:=⟨lN (lR s),Nat.le_refl _,by simp,_,_,by simp,.inl rfl,.inl ⟨rfl,rfl⟩⟩
 refine writeByte_spec (c:=34) hB0 (by simp) fun s1 hB1=>?_
 simp -implicitDefEqProofs only[↓Zd,(Zp),simprocAttr,underlying9,underlying145]
 refine wloop_fix hmix [10,11,4,12,13,14,5,25,26,24,27,28,30,31,32,33,34,35,29,36,37,38,15,16,17,18,19,20,21,22,23,39,9] (quoteI x s s.next) (x.size - 0) ?_ ?_
 ·exact⟨0,rfl,by omega,rfl,by simpa using hB1⟩
 ·rintro k env s' hF ⟨i,rfl,hi,e9,hB⟩
  have e0:env 0 = .string x:=by rw[hF 0 rfl];rfl
  have e3:env 3 = .pointer (some ⟨s.next,0,none⟩):=by rw[hF 3 rfl];rfl
  have e8:env 8 = .int .i64 x.size:=by rw[hF 8 rfl];rfl
  have hlen:(34::(x.data.toList.take i).flatMap escB).length≤4000001:=by
   have h1:=flat_len (x.data.toList.take i)
   have h2:(x.data.toList.take i).length≤i:=List.length_take_le _ _
   simp only[List.length_cons];omega
  by_cases hlt:i<x.size
  ·obtain⟨c,hc,ht⟩:=byte_at' hlt
   have hlt':(i:Int)<(x.size:Int):=by omega
   have h0:(0:Int)≤(i:Int):=by omega
   have w7:IntKind.i64.wrap ((i:Int)+1)=((i+1:Nat):Int):=by rw[wrap_i64 (by omega)];omega
   have hnext:∀ {env':Env}{s2:St M},env' 9 = .int .i64 ((i+1:Nat):Int)→BAt s s2 s.next ((34::(x.data.toList.take i).flatMap escB)++escB c) →
     ∃ m,m<x.size - i∧quoteI x s s.next m env' s2:=by
    intro env' s2 h9 hB2
    refine⟨x.size - (i+1),by omega,i+1,rfl,by omega,h9,?_⟩
    rw[ht,List.flatMap_append]
    simpa using hB2
   simp -implicitDefEqProofs only[↓Zd,(Zp),simprocAttr,underlying9,e0,e8,e9,hlt',h0,hc,co151]
   refine plain_spec ?_
   by_cases hp:plainB c=true
   ·have he:escB c=[c]:=by simp[escB,hp]
    rw[hp]
    simp -implicitDefEqProofs only[↓Zd,(Zp),simprocAttr,underlying4,e3,co78]
    refine writeByte_spec hB (by omega) fun s2 hB2=>?_
    simp -implicitDefEqProofs only[↓Zd,(Zp),simprocAttr,underlying145,e9,w7]
    refine⟨?_,hnext rfl (by rw[he];exact hB2)⟩
    repeat (first|exact hF|refine Fix.upd (by decide) ?_)
   ·have hp':plainB c=false:=by simpa using hp
    rw[hp']
    by_cases hq:(c.toNat:Int)=34∨(c.toNat:Int)=92
    ·have he:escB c=[92,c]:=by simp only[escB,hp',Bool.false_eq_true,if_false,if_pos hq]
     have hq':decide ((c.toNat:Int)=34)=true∨(decide ((c.toNat:Int)=34)=false∧decide ((c.toNat:Int)=92)=true):=by
      by_cases h1:(c.toNat:Int)=34
      ·exact .inl (by simpa using h1)
      ·exact .inr ⟨by simpa using h1,by rcases hq with h2|h2;exact absurd h2 h1;simpa using h2⟩
     rcases hq' with h1|⟨h1,h2⟩
     all_goals
      simp -implicitDefEqProofs only[↓Zd,(Zp),simprocAttr,underlying4,e3,co78,h1]
      try simp -implicitDefEqProofs only[↓Zd,(Zp),simprocAttr,e3,co78,h2]
      refine writeByte_spec (c:=92) hB (by omega) fun s2 hB2=>?_
      simp -implicitDefEqProofs only[↓Zd,(Zp),simprocAttr,underlying145,e3,co78]
      refine writeByte_spec hB2 (by simp only[List.length_append,List.length_cons,List.length_nil]at hlen ⊢;omega) fun s3 hB3=>?_
      simp -implicitDefEqProofs only[↓Zd,(Zp),simprocAttr,underlying145,e9,w7]
      refine⟨?_,hnext rfl (by rw[he];simpa using hB3)⟩
      repeat (first|exact hF|refine Fix.upd (by decide) ?_)
    ·have h1:¬ (c.toNat:Int)=34:=fun e=>hq (.inl e)
     have h2:¬ (c.toNat:Int)=92:=fun e=>hq (.inr e)
     have he:escB c=[92,120,hexB (c.toNat / 16),hexB (c.toNat % 16)]:=by simp only[escB,hp',Bool.false_eq_true,if_false,if_neg hq]
     have hc255:c.toNat≤255:=by have:=c.toNat_lt;omega
     have w8:(c.toNat:Int).fdiv 16=((c.toNat / 16:Nat):Int):=by rw[Int.fdiv_eq_ediv_of_nonneg _ (by omega)];omega
     have hx1:=hex_at (n:=c.toNat / 16) (by omega)
     have hx2:=hex_at (n:=c.toNat % 16) (by omega)
     have h3:(0:Int)≤((c.toNat / 16:Nat):Int):=by omega
     have h4:(0:Int)≤((c.toNat % 16:Nat):Int):=by omega
     unfold hexS at hx1 hx2
     simp -implicitDefEqProofs only[↓Zd,(Zp),simprocAttr,underlying4,e3,co71,h1,h2]
     refine writeString_spec (x:=⟨#[92,120]⟩) hB (by omega) (by simp) (by decide) fun s2 hB2=>?_
     simp -implicitDefEqProofs only[↓Zd,(Zp),simprocAttr,underlying9,underlying146,e3,co78,w8,hx1,h3,IntKind.bits,Nat.reduceLeDiff,Nat.min_eq_left,Int.reducePow]
     refine writeByte_spec hB2 (by simp only[List.length_append,List.length_cons,List.length_nil]at hlen ⊢;omega) fun s3 hB3=>?_
     simp -implicitDefEqProofs only[↓Zd,(Zp),simprocAttr,underlying9,underlying145,e3,co78,↓o_and,↓wb_and,and15,hx2,h4]
     refine writeByte_spec hB3 (by simp only[List.length_append,List.length_cons,List.length_nil]at hlen ⊢;omega) fun s4 hB4=>?_
     simp -implicitDefEqProofs only[↓Zd,(Zp),simprocAttr,underlying145,e9,w7]
     refine⟨?_,hnext rfl (by rw[he];simpa using hB4)⟩
     repeat (first|exact hF|refine Fix.upd (by decide) ?_)
  ·have hlt':¬ (i:Int)<(x.size:Int):=by omega
   have htk:x.data.toList.take i=x.data.toList:=List.take_of_length_le (by simp;omega)
   rw[htk]at hB hlen
   simp -implicitDefEqProofs only[↓Zd,(Zp),simprocAttr,e3,e8,e9,hlt',co78]
   refine writeByte_spec (c:=34) hB (by omega) fun s2 hB2=>?_
   simp -implicitDefEqProofs only[↓Zd,(Zp),simprocAttr,underlying145,e3,co79]
   refine string_spec hB2 (by simp only[List.length_append,List.length_cons,List.length_nil]at hlen ⊢;omega) fun s3 hs3=>?_
   simp -implicitDefEqProofs only[↓Zd,(Zp),simprocAttr,underlying9]
   have:=h s3 hs3
   unfold quoteS quoteL at this
   simpa using this
end
section
theorem digits_spec {n : Int} (hn : -9223372036854775808 ≤ n ∧ n ≤ 9223372036854775807) (h : ∀ s', s.le s' → R (.string (digS n)) s') : QC prog w0 72 #[.int .i64 n] s R := by
  refine wfun2 hmix ok72 func72 rfl ntmps72 results72 (by simp) ?_
  by_cases hneg : n < 0
  all_goals
    simp -implicitDefEqProofs only [↓Zd, (Zp), if_true, if_false, Nat.reduceEqDiff, reduceCtorEq, Value.cells, underlying3, underlying214, hneg, ze213]
    refine wloop_fix hmix [12, 13, 4, 14, 15, 16, 17, 18, 19, 20, 21, 5, 22, 23] (fun k env s' => ∃ (at' left : Nat) (vs : List Value) (l : List UInt8), k = at' ∧ at' ≤ 20 ∧ env 4 = .int .i64 at' ∧ env 5 = .int .u64 left ∧
      s.le s' ∧ s'.at' s.next = some (.cells vs 213 true) ∧ vs.length = 20 ∧ vs.drop at' = l.map toV ∧ decL n.natAbs = decL left ++ l ∧ (1 ≤ left ∨ at' = 20) ∧ left < 10 ^ (at' - if n < 0 then 1 else 0) ∧ left ≤ 9223372036854775808) 20 ?_ ?_
    · refine ⟨20, n.natAbs, _, [], rfl, by omega, ?_, ?_, ?_, by simp only [St.at_new, if_true]; rfl, ?_, ?_, ?_, ?_, ?_, by omega⟩
      · rfl
      · show Value.int IntKind.u64 _ = _
        congr 1
        first
          | (rw [wrap_u64_negneg (by omega)]; omega)
          | (rw [wrap_u64 (by omega)]; omega)
      · exact lN (lR s)
      · rfl
      · rfl
      · simp
      · simp
      · split <;> simp <;> omega
    · rintro k env s' hF ⟨at', left, vs, l, rfl, h20, e4, e5, hs, hb, hl, hd, hN, h1, hp, hl64⟩
      have e3 : env 3 = .pointer (some ⟨s.next, 0, none⟩) := by rw [hF 3 rfl]; rfl
      have e0 : env 0 = .int .i64 n := by rw [hF 0 rfl]; rfl
      obtain ⟨j, rfl⟩ : ∃ j, k = j + 1 := by
        cases k with
        | zero =>
          have : (0 - if n < 0 then 1 else 0) = 0 := by omega
          rw [this] at hp
          omega
        | succ j => exact ⟨j, rfl⟩
      have w1 : IntKind.i64.wrap (((j + 1 : Nat) : Int) - 1) = (j : Int) := by rw [wrap_i64 (by omega)]; omega
      have w2 : (left : Int).tmod 10 = ((left % 10 : Nat) : Int) := by rw [Int.tmod_eq_emod_of_nonneg (by omega)]; omega
      have w3 : IntKind.u8.wrap ((left % 10 : Nat) : Int) = ((left % 10 : Nat) : Int) := wrap_u8 (by omega)
      have w4 : IntKind.u8.wrap (48 + ((left % 10 : Nat) : Int)) = ((48 + left % 10 : Nat) : Int) := by rw [wrap_u8 (by omega)]; omega
      have w5 : (left : Int).tdiv 10 = ((left / 10 : Nat) : Int) := by rw [Int.tdiv_eq_ediv_of_nonneg (by omega)]; omega
      have w6 : IntKind.u64.wrap ((left / 10 : Nat) : Int) = ((left / 10 : Nat) : Int) := wrap_u64 (by omega)
      have hj : (0 : Int) ≤ (j : Int) ∧ (j : Int) < ((20 : Nat) : Int) := by omega
      have hj' : j + 1 ≤ vs.length := by omega
      simp -implicitDefEqProofs only [↓Zd, (Zp), if_true, if_false, ne_eq, Nat.reduceEqDiff, Int.reduceEq, qP, Value.cells, qC, underlying214, underlying5, underlying213, e3, e4, e5, w1, w2, w3, w4, w5, w6, hb, sz5, hj, hj']
      refine c2_split (fun hz => ?_) (fun hz => ?_)
      · have hz' : left < 10 := by simp at hz; omega
        rw [decL_lt hz'] at hN
        have hvs : (vs.set j (.int .u8 ((48 + left % 10 : Nat) : Int))).drop j = (UInt8.ofNat (48 + left) :: l).map toV := by
          rw [drop_set_self (by omega), hd, List.map_cons, toV_ofNat (by omega), Nat.mod_eq_of_lt hz']
        simp only [List.cons_append, List.nil_append] at hN
        have hr : ∀ (i : Nat), i < 20 → cslice prog 213 (.pointer (some ⟨s.next, 0, none⟩)) (some (.int .i64 (i : Int))) (some (.int .i64 20)) (some (.int .i64 20)) = some (.slice (some ⟨s.next, i, none⟩) (20 - i) (20 - i)) := by
          intro i hi
          have := sl_arr3 (k1 := .i64) (k2 := .i64) (k3 := .i64) (a := ⟨s.next, 0, none⟩) (l := i) (h := 20) (m := 20) underlying213 sz5 (by omega) (by omega) (by omega) (by simp [UNK])
          rw [if_neg (by omega), add_mk, Nat.mul_one, Nat.zero_add] at this
          exact this
        rcases (show n < 0 ∨ 0 ≤ n by omega) with hlt | hge
        · first
          | exact absurd hlt hneg
          | (have hj1 : 1 ≤ j := by
               rcases Nat.eq_zero_or_pos j with h0 | h0
               · subst h0; simp only [hneg, if_true] at hp; omega
               · exact h0
             obtain ⟨i, rfl⟩ : ∃ i, j = i + 1 := ⟨j - 1, by omega⟩
             have w7 : IntKind.i64.wrap (((i + 1 : Nat) : Int) - 1) = (i : Int) := by rw [wrap_i64 (by omega)]; omega
             have hi : (0 : Int) ≤ (i : Int) ∧ (i : Int) < ((20 : Nat) : Int) := by omega
             have hi' : i + 1 ≤ (vs.set (i + 1) (.int .u8 ((48 + left % 10 : Nat) : Int))).length := by simp; omega
             have hsl := hr i (by omega)
             have hbs := cbs2_drop (e := 213) (w := true) (vs := (vs.set (i + 1) (.int .u8 ((48 + left % 10 : Nat) : Int))).set i (.int .u8 45)) (j := i) (N := 20) (l := 45 :: UInt8.ofNat (48 + left) :: l) (by simp [hl]) (by omega) (by
               rw [drop_set_self (by simp; omega), hvs]; rfl)
             simp -implicitDefEqProofs only [↓Zd, (Zp), if_true, if_false, Nat.reduceEqDiff, reduceCtorEq, Nat.reduceAdd, qP, Value.cells, qC, underlying9, underlying213, hneg, e0, e3, w7, hb, sz5, hi, hi', hsl, hbs, ↓o_bs underlying141 underlying9 underlying5]
             have e : digS n = ⟨(45 :: UInt8.ofNat (48 + left) :: l).toArray⟩ := by simp [digS, digL, hneg, hN]
             rw [← e]
             exact h _ (lP (lP hs (Nat.le_refl _)) (Nat.le_refl _)))
        · first
          | exact absurd hneg (Int.not_lt.2 hge)
          | (have hsl := hr j (by omega)
             have hbs := cbs2_drop (e := 213) (w := true) (vs := vs.set j (.int .u8 ((48 + left % 10 : Nat) : Int))) (j := j) (N := 20) (l := UInt8.ofNat (48 + left) :: l) (by simp [hl]) (by omega) hvs
             simp -implicitDefEqProofs only [↓Zd, (Zp), if_true, if_false, Nat.reduceEqDiff, reduceCtorEq, underlying9, hneg, e0, e3, hb, hsl, hbs, ↓o_bs underlying141 underlying9 underlying5]
             have e : digS n = ⟨(UInt8.ofNat (48 + left) :: l).toArray⟩ := by simp [digS, digL, hneg, hN]
             rw [← e]
             exact h _ (lP hs (Nat.le_refl _)))
      · have hz' : 10 ≤ left := by simp at hz; omega
        simp -implicitDefEqProofs only [↓Zd, (Zp), if_true, if_false, Nat.reduceEqDiff]
        refine ⟨?_, j, by omega, j, left / 10, _, UInt8.ofNat (48 + left % 10) :: l, rfl, by omega, rfl, rfl, lP hs (Nat.le_refl _), rfl, ?_, ?_, ?_, ?_, ?_, ?_⟩
        · repeat (first | exact hF | refine Fix.upd (by decide) ?_)
        · simp [hl]
        · rw [drop_set_self (by omega), hd, List.map_cons, toV_ofNat (by omega)]
        · rw [hN, decL_ge hz', List.append_assoc]; rfl
        · left; omega
        · rw [Nat.div_lt_iff_lt_mul (by omega)]
          refine Nat.lt_of_lt_of_le hp ?_
          rw [← Nat.pow_succ]
          exact Nat.pow_le_pow_right (by omega) (by omega)
        · omega
end
section
theorem rowU8(v:Int):crow prog 141 1 #[(0,.int .u8 v)]=some (.cells [.int .u8 v] 5 true):=by kernel_rfl
theorem rdigits_spec{n:Nat}(hn:n≤9223372036854775807)(h:∀ s',s.le s'→R (.string ⟨(decL n).toArray⟩) s'):QC prog w0 129 #[.int .i64 n] s R:=by
 refine wfun2 hmix ok129 func129 rfl ntmps129 results129 (by simp) ?_
 simp -implicitDefEqProofs only[↓Zd,(Zp),simprocAttr]
 refine wloop_fix hmix [5,6,7,8,9,10,11,12,13,14,15,16,17,18,19,20,21,0,2,3,4] (fun k env s'=>∃ (i m:Nat) (l:List UInt8),k=20 - i∧i≤19∧env 4 = .int .i64 i∧env 0 = .int .i64 m∧env 3 = .string ⟨l.toArray⟩ ∧
   s.le s'∧l.length=i∧decL n=decL m++l∧(1≤m∨i=0)∧m<10 ^ (19 - i)∧m≤9223372036854775807) 20 ?_ ?_
 ·exact⟨0,n,[],rfl,by omega,rfl,rfl,rfl,lR s,rfl,by simp,by omega,by simp;omega,hn⟩
 ·rintro k env s' hF ⟨i,m,l,rfl,hi,e4,e0,e3,hs,hl,hN,h1,hp,hm⟩
  have hi':i<19:=by
   rcases Nat.lt_or_ge i 19 with h'|h'
   ·exact h'
   ·rw[show 19 - i=0 from by omega]at hp;omega
  have h20:((i:Nat):Int)<20:=by omega
  have w2:(m:Int).tmod 10=((m % 10:Nat):Int):=by rw[Int.tmod_eq_emod_of_nonneg (by omega)];omega
  have w4:IntKind.i64.wrap (48+((m % 10:Nat):Int))=((48+m % 10:Nat):Int):=by rw[wrap_i64 (by omega)];omega
  have w3:IntKind.u8.wrap ((48+m % 10:Nat):Int)=((48+m % 10:Nat):Int):=wrap_u8 (by omega)
  have w5:(m:Int).tdiv 10=((m / 10:Nat):Int):=by rw[Int.tdiv_eq_ediv_of_nonneg (by omega)];omega
  have w6:IntKind.i64.wrap ((m / 10:Nat):Int)=((m / 10:Nat):Int):=wrap_i64 (by omega)
  have w7:IntKind.i64.wrap ((i:Int)+1)=((i+1:Nat):Int):=by rw[wrap_i64 (by omega)];omega
  have hbs:=cbs2_all (e:=5) (w:=true) (vs:=[.int .u8 ((48+m % 10:Nat):Int)]) (n:=1) (l:=[UInt8.ofNat (48+m % 10)]) rfl (by rw[List.map_cons,toV_ofNat (by omega)];rfl)
  have hba:(⟨[UInt8.ofNat (48+m % 10)].toArray⟩:ByteArray)++⟨l.toArray⟩=⟨(UInt8.ofNat (48+m % 10)::l).toArray⟩:=ba_append [_] l
  have hsz:(⟨[UInt8.ofNat (48+m % 10)].toArray⟩:ByteArray).size+(⟨l.toArray⟩:ByteArray).size≤9223372036854775807:=by rw[ba_size,ba_size];simp;omega
  simp -implicitDefEqProofs only[↓Zd,(Zp),Zr,simprocAttr,underlying3,underlying9,underlying5,e0,e3,e4,h20,w2,w3,w4,w5,w6,rowU8,hbs,hba,hsz,↓o_bs underlying141 underlying9 underlying5]
  refine c2_split (fun hz=>?_) (fun hz=>?_)
  ·have hz':m<10:=by simp at hz;omega
   simp -implicitDefEqProofs only[↓Zd,(Zp),simprocAttr]
   rw[decL_lt hz']at hN
   rw[Nat.mod_eq_of_lt hz',show UInt8.ofNat (48+m)::l=decL n by rw[hN];rfl]
   exact h _ (lN hs)
  ·have hz':10≤m:=by simp at hz;omega
   simp -implicitDefEqProofs only[↓Zd,(Zp),simprocAttr,w7,e4]
   refine⟨?_,20 - (i+1),by omega,i+1,m / 10,UInt8.ofNat (48+m % 10)::l,rfl,by omega,rfl,rfl,rfl,lN hs,by simp[hl],?_,?_,?_,by omega⟩
   ·repeat (first|exact hF|refine Fix.upd (by decide) ?_)
   ·rw[hN,decL_ge hz',List.append_assoc];rfl
   ·left;omega
   ·rw[Nat.div_lt_iff_lt_mul (by omega),← Nat.pow_succ,show (19 - (i+1)).succ=19 - i from by omega]
    exact hp
theorem rDigits_spec{n:Int}(hn : -9223372036854775808≤n∧n≤9223372036854775807)(h:∀ s',s.le s'→R (.string (digS n)) s'):QC prog w0 83 #[.int .i64 n] s R:=by
 refine wfun2 hmix ok83 func83 rfl ntmps83 results83 (by simp) ?_
 by_cases hneg:n<0
 ·have h0:¬ 0≤n:=by omega
  obtain⟨m,hm⟩:∃ m:Nat,n = -(m:Int):=⟨n.natAbs,by omega⟩
  have w1:n.tmod 10 = -((m % 10:Nat):Int):=by rw[hm,Int.neg_tmod,Int.tmod_eq_emod_of_nonneg (by omega)];omega
  have w2:IntKind.i64.wrap (0 - -((m % 10:Nat):Int))=((m % 10:Nat):Int):=by rw[wrap_i64 (by omega)];omega
  have w3:n.tdiv 10 = -((m / 10:Nat):Int):=by rw[hm,Int.neg_tdiv,Int.tdiv_eq_ediv_of_nonneg (by omega)];omega
  have w4:IntKind.i64.wrap (-((m / 10:Nat):Int)) = -((m / 10:Nat):Int):=wrap_i64 (by omega)
  have w5:IntKind.i64.wrap (0 - -((m / 10:Nat):Int))=((m / 10:Nat):Int):=by rw[wrap_i64 (by omega)];omega
  have hN:n.natAbs=m:=by omega
  have wz:IntKind.i64.wrap 0=0:=wrap_i64 (by omega)
  have hba:∀ l:List UInt8,(⟨#[45]⟩:ByteArray)++⟨l.toArray⟩=⟨(45::l).toArray⟩:=fun l=>ba_append [45] l
  have hl1:(decL (m % 10)).length≤1:=decL_len_pow 0 _ (by omega)
  have hl2:(decL (m / 10)).length≤20:=decL_len_pow 19 _ (by omega)
  by_cases hz:m<10
  ·have hz':(-((m / 10:Nat):Int))=0:=by omega
   have hsz:(⟨#[45]⟩:ByteArray).size+(⟨(decL (m % 10)).toArray⟩:ByteArray).size≤9223372036854775807:=by show 1+(decL _).length≤_;omega
   simp -implicitDefEqProofs only[↓Zd,(Zp),Zr,simprocAttr,h0,w1,w2,w3,hz',wz,co129]
   refine rdigits_spec (by omega) fun s1 hs1=>?_
   simp -implicitDefEqProofs only[↓Zd,(Zp),simprocAttr,underlying9,hsz,hba]
   have e:digS n=⟨(45::decL (m % 10)).toArray⟩:=by simp[digS,digL,hneg,hN,Nat.mod_eq_of_lt hz]
   rw[← e]
   exact h _ hs1
  ·have hz':¬ (-((m / 10:Nat):Int))=0:=by omega
   have hsz:(⟨#[45]⟩:ByteArray).size+(⟨(decL (m / 10)).toArray⟩:ByteArray).size≤9223372036854775807:=by show 1+(decL _).length≤_;omega
   have hsz2:(⟨(45::decL (m / 10)).toArray⟩:ByteArray).size+(⟨(decL (m % 10)).toArray⟩:ByteArray).size≤9223372036854775807:=by rw[ba_size,ba_size];simp;omega
   simp -implicitDefEqProofs only[↓Zd,(Zp),Zr,simprocAttr,h0,w1,w2,w3,w4,w5,hz',co129]
   refine rdigits_spec (by omega) fun s1 hs1=>?_
   simp -implicitDefEqProofs only[↓Zd,(Zp),simprocAttr,underlying9,hsz,hba,co129]
   refine rdigits_spec (by omega) fun s2 hs2=>?_
   simp -implicitDefEqProofs only[↓Zd,(Zp),simprocAttr,underlying9,hsz2,ba_append]
   have e:digS n=⟨(45::(decL (m / 10)++decL (m % 10))).toArray⟩:=by simp[digS,digL,hneg,hN,decL_ge (show 10≤m by omega),decL_lt (show m % 10<10 by omega)]
   rw[← e]
   exact h _ (lT hs1 hs2)
 ·have h0:0≤n:=by omega
  obtain⟨m,rfl⟩:=Int.eq_ofNat_of_zero_le h0
  simp -implicitDefEqProofs only[↓Zd,(Zp),simprocAttr,h0,co129]
  refine rdigits_spec (by omega) fun s1 hs1=>?_
  simp -implicitDefEqProofs only[↓Zd,(Zp),simprocAttr,underlying9]
  have e:digS (m:Int)=⟨(decL m).toArray⟩:=by simp[digS,digL,hneg]
  rw[← e]
  exact h _ hs1
end
def showV(k n:Int)(x:ByteArray):ByteArray:=if k=0 then ⟨#[110,117,108,108]⟩ else if k=1 then (if n=0 then ⟨#[102,97,108,115,101]⟩ else ⟨#[116,114,117,101]⟩) else if k=2 then digS n else if k=3 then x else if k=4 then ⟨#[111,98,106,101,99,116]⟩ else if k=5 then ⟨#[102,117,110,99,116,105,111,110]⟩ else ⟨#[]⟩
def printV(k n:Int)(x:ByteArray):ByteArray:=if k=3 then quoteS x else if k=4 then ⟨#[35]⟩++digS n else if k=5 then ⟨#[38]⟩++digS n else showV k n x
theorem kinds(k:Int):k=0∨k=1∨k=2∨k=3∨k=4∨k=5∨(¬ k=0∧¬ k=1∧¬ k=2∧¬ k=3∧¬ k=4∧¬ k=5):=by omega
theorem digS_len{n:Int}(hn : -9223372036854775808≤n∧n≤9223372036854775807):(digS n).size≤21:=by
 show (digL n).length≤_
 have:=decL_len_pow 19 n.natAbs (by omega)
 unfold digL
 split
 ·simp;omega
 ·omega
section
theorem show_spec{k n:Int}{x:ByteArray}(hn : -9223372036854775808≤n∧n≤9223372036854775807)(h:∀ s',s.le s'→R (.string (showV k n x)) s'):QC prog w0 127 #[vA k n x] s R:=by
 refine wfun2 hmix ok127 func127 rfl ntmps127 results127 (by simp) ?_
 unfold showV at h
 rcases kinds k with rfl|rfl|rfl|rfl|rfl|rfl|⟨h0,h1,h2,h3,h4,h5⟩
 ·simp -implicitDefEqProofs only[↓Zd,(Zp),simprocAttr,qP,Value.cells,cld2,underlying3,vA,is36,fa36x0,ag3,underlying3]
  exact h _ (lN (lR s))
 ·by_cases hz:n=0
  ·simp -implicitDefEqProofs only[↓Zd,(Zp),simprocAttr,qP,Value.cells,cld2,underlying3,vA,is36,fa36x0,fa36x1,ag3,underlying3,hz]
   simp only[hz]at h
   exact h _ (lN (lR s))
  ·simp -implicitDefEqProofs only[↓Zd,(Zp),simprocAttr,qP,Value.cells,cld2,underlying3,vA,is36,fa36x0,fa36x1,ag3,underlying3,hz]
   simp only[hz]at h
   exact h _ (lN (lR s))
 ·simp -implicitDefEqProofs only[↓Zd,(Zp),simprocAttr,qP,Value.cells,cld2,underlying3,vA,is36,fa36x0,fa36x1,ag3,underlying3,co72]
  refine digits_spec hn fun s1 hs1=>?_
  simp -implicitDefEqProofs only[↓Zd,(Zp),simprocAttr,underlying9,vA,underlying9]
  exact h _ (lT (lN (lR s)) hs1)
 ·simp -implicitDefEqProofs only[↓Zd,(Zp),simprocAttr,qP,Value.cells,cld2,underlying3,underlying9,vA,is36,fa36x0,fa36x2,ag3,ag9,underlying3,underlying9]
  exact h _ (lN (lR s))
 ·simp -implicitDefEqProofs only[↓Zd,(Zp),simprocAttr,qP,Value.cells,cld2,underlying3,vA,is36,fa36x0,ag3,underlying3]
  exact h _ (lN (lR s))
 ·simp -implicitDefEqProofs only[↓Zd,(Zp),simprocAttr,qP,Value.cells,cld2,underlying3,vA,is36,fa36x0,ag3,underlying3]
  exact h _ (lN (lR s))
 ·simp only[h0,h1,h2,h3,h4,h5,if_false]at h
  simp -implicitDefEqProofs only[↓Zd,(Zp),simprocAttr,qP,Value.cells,cld2,underlying3,vA,is36,fa36x0,ag3,underlying3,h0,h1,h2,h3,h4,h5]
  exact h _ (lN (lR s))
theorem rShow_spec{k n:Int}{x:ByteArray}(hn : -9223372036854775808≤n∧n≤9223372036854775807)(h:∀ s',s.le s'→R (.string (showV k n x)) s'):QC prog w0 131 #[vA k n x] s R:=by
 refine wfun2 hmix ok131 func131 rfl ntmps131 results131 (by simp) ?_
 unfold showV at h
 rcases kinds k with rfl|rfl|rfl|rfl|rfl|rfl|⟨h0,h1,h2,h3,h4,h5⟩
 ·simp -implicitDefEqProofs only[↓Zd,(Zp),simprocAttr,qP,Value.cells,cld2,underlying3,vA,is36,fa36x0,ag3,underlying3]
  exact h _ (lN (lR s))
 ·by_cases hz:n=0
  ·simp -implicitDefEqProofs only[↓Zd,(Zp),simprocAttr,qP,Value.cells,cld2,underlying3,vA,is36,fa36x0,fa36x1,ag3,underlying3,hz]
   simp only[hz]at h
   exact h _ (lN (lR s))
  ·simp -implicitDefEqProofs only[↓Zd,(Zp),simprocAttr,qP,Value.cells,cld2,underlying3,vA,is36,fa36x0,fa36x1,ag3,underlying3,hz]
   simp only[hz]at h
   exact h _ (lN (lR s))
 ·simp -implicitDefEqProofs only[↓Zd,(Zp),simprocAttr,qP,Value.cells,cld2,underlying3,vA,is36,fa36x0,fa36x1,ag3,underlying3,co83]
  refine rDigits_spec hn fun s1 hs1=>?_
  simp -implicitDefEqProofs only[↓Zd,(Zp),simprocAttr,underlying9,vA,underlying9]
  exact h _ (lT (lN (lR s)) hs1)
 ·simp -implicitDefEqProofs only[↓Zd,(Zp),simprocAttr,qP,Value.cells,cld2,underlying3,underlying9,vA,is36,fa36x0,fa36x2,ag3,ag9,underlying3,underlying9]
  exact h _ (lN (lR s))
 ·simp -implicitDefEqProofs only[↓Zd,(Zp),simprocAttr,qP,Value.cells,cld2,underlying3,vA,is36,fa36x0,ag3,underlying3]
  exact h _ (lN (lR s))
 ·simp -implicitDefEqProofs only[↓Zd,(Zp),simprocAttr,qP,Value.cells,cld2,underlying3,vA,is36,fa36x0,ag3,underlying3]
  exact h _ (lN (lR s))
 ·simp only[h0,h1,h2,h3,h4,h5,if_false]at h
  simp -implicitDefEqProofs only[↓Zd,(Zp),simprocAttr,qP,Value.cells,cld2,underlying3,vA,is36,fa36x0,ag3,underlying3,h0,h1,h2,h3,h4,h5]
  exact h _ (lN (lR s))
theorem print_spec{k n:Int}{x:ByteArray}(hn : -9223372036854775808≤n∧n≤9223372036854775807)(hx:x.size≤1000000)(h:∀ s',s.le s'→R (.string (printV k n x)) s'):QC prog w0 77 #[vA k n x] s R:=by
 refine wfun2 hmix ok77 func77 rfl ntmps77 results77 (by simp) ?_
 unfold printV at h
 rcases kinds k with rfl|rfl|rfl|rfl|rfl|rfl|⟨h0,h1,h2,h3,h4,h5⟩
 ·simp -implicitDefEqProofs only[↓Zd,(Zp),simprocAttr,qP,Value.cells,cut,cld2,underlying3,underlying36,vA,is36,ag36,ce36,fa36x0,ag3,underlying3,co127]
  have hk:=show_spec (w0:=w0) (s:=s.new (.cells [.int .i64 0,.int .i64 n,.string x] 36 true)) (k:=0) (n:=n) (x:=x) (R:=fun v s'=>Cs.shape prog 9 v fun v=>R v s') hn
  unfold vA at hk
  refine hk fun s1 hs1=>?_
  simp -implicitDefEqProofs only[↓Zd,(Zp),simprocAttr,underlying9,underlying9]
  exact h _ (lT (lN (lR s)) hs1)
 ·simp -implicitDefEqProofs only[↓Zd,(Zp),simprocAttr,qP,Value.cells,cut,cld2,underlying3,underlying36,vA,is36,ag36,ce36,fa36x0,ag3,underlying3,co127]
  have hk:=show_spec (w0:=w0) (s:=s.new (.cells [.int .i64 1,.int .i64 n,.string x] 36 true)) (k:=1) (n:=n) (x:=x) (R:=fun v s'=>Cs.shape prog 9 v fun v=>R v s') hn
  unfold vA at hk
  refine hk fun s1 hs1=>?_
  simp -implicitDefEqProofs only[↓Zd,(Zp),simprocAttr,underlying9,underlying9]
  exact h _ (lT (lN (lR s)) hs1)
 ·simp -implicitDefEqProofs only[↓Zd,(Zp),simprocAttr,qP,Value.cells,cut,cld2,underlying3,underlying36,vA,is36,ag36,ce36,fa36x0,ag3,underlying3,co127]
  have hk:=show_spec (w0:=w0) (s:=s.new (.cells [.int .i64 2,.int .i64 n,.string x] 36 true)) (k:=2) (n:=n) (x:=x) (R:=fun v s'=>Cs.shape prog 9 v fun v=>R v s') hn
  unfold vA at hk
  refine hk fun s1 hs1=>?_
  simp -implicitDefEqProofs only[↓Zd,(Zp),simprocAttr,underlying9,underlying9]
  exact h _ (lT (lN (lR s)) hs1)
 ·simp -implicitDefEqProofs only[↓Zd,(Zp),simprocAttr,qP,Value.cells,cld2,underlying3,underlying9,vA,is36,fa36x0,fa36x2,ag3,ag9,underlying3,underlying9,co126]
  refine quote_spec hx fun s1 hs1=>?_
  simp -implicitDefEqProofs only[↓Zd,(Zp),simprocAttr,underlying9,vA,underlying9]
  exact h _ (lT (lN (lR s)) hs1)
 ·simp -implicitDefEqProofs only[↓Zd,(Zp),simprocAttr,qP,Value.cells,cld2,underlying3,vA,is36,fa36x0,fa36x1,ag3,underlying3,co72]
  refine digits_spec hn fun s1 hs1=>?_
  have hsz:(⟨#[35]⟩:ByteArray).size+(digS n).size≤9223372036854775807:=by
   have:=digS_len hn
   show 1+(digS n).size≤_
   omega
  simp -implicitDefEqProofs only[↓Zd,(Zp),simprocAttr,underlying9,vA,underlying9,hsz]
  exact h _ (lT (lN (lR s)) hs1)
 ·simp -implicitDefEqProofs only[↓Zd,(Zp),simprocAttr,qP,Value.cells,cld2,underlying3,vA,is36,fa36x0,fa36x1,ag3,underlying3,co72]
  refine digits_spec hn fun s1 hs1=>?_
  have hsz:(⟨#[38]⟩:ByteArray).size+(digS n).size≤9223372036854775807:=by
   have:=digS_len hn
   show 1+(digS n).size≤_
   omega
  simp -implicitDefEqProofs only[↓Zd,(Zp),simprocAttr,underlying9,vA,underlying9,hsz]
  exact h _ (lT (lN (lR s)) hs1)
 ·simp only[h3,h4,h5,if_false]at h
  simp -implicitDefEqProofs only[↓Zd,(Zp),simprocAttr,qP,Value.cells,cut,cld2,underlying3,underlying36,vA,is36,ag36,ce36,fa36x0,ag3,underlying3,co127,h3,h4,h5]
  have hk:=show_spec (w0:=w0) (s:=s.new (.cells [.int .i64 k,.int .i64 n,.string x] 36 true)) (k:=k) (n:=n) (x:=x) (R:=fun v s'=>Cs.shape prog 9 v fun v=>R v s') hn
  unfold vA at hk
  refine hk fun s1 hs1=>?_
  simp -implicitDefEqProofs only[↓Zd,(Zp),simprocAttr,underlying9,underlying9]
  exact h _ (lT (lN (lR s)) hs1)
theorem rPrint_spec{k n:Int}{x:ByteArray}(hn : -9223372036854775808≤n∧n≤9223372036854775807)(hx:x.size≤1000000)(h:∀ s',s.le s'→R (.string (printV k n x)) s'):QC prog w0 84 #[vA k n x] s R:=by
 refine wfun2 hmix ok84 func84 rfl ntmps84 results84 (by simp) ?_
 unfold printV at h
 rcases kinds k with rfl|rfl|rfl|rfl|rfl|rfl|⟨h0,h1,h2,h3,h4,h5⟩
 ·simp -implicitDefEqProofs only[↓Zd,(Zp),simprocAttr,qP,Value.cells,cut,cld2,underlying3,underlying36,vA,is36,ag36,ce36,fa36x0,ag3,underlying3,co131]
  have hk:=rShow_spec (w0:=w0) (s:=s.new (.cells [.int .i64 0,.int .i64 n,.string x] 36 true)) (k:=0) (n:=n) (x:=x) (R:=fun v s'=>Cs.shape prog 9 v fun v=>R v s') hn
  unfold vA at hk
  refine hk fun s1 hs1=>?_
  simp -implicitDefEqProofs only[↓Zd,(Zp),simprocAttr,underlying9,underlying9]
  exact h _ (lT (lN (lR s)) hs1)
 ·simp -implicitDefEqProofs only[↓Zd,(Zp),simprocAttr,qP,Value.cells,cut,cld2,underlying3,underlying36,vA,is36,ag36,ce36,fa36x0,ag3,underlying3,co131]
  have hk:=rShow_spec (w0:=w0) (s:=s.new (.cells [.int .i64 1,.int .i64 n,.string x] 36 true)) (k:=1) (n:=n) (x:=x) (R:=fun v s'=>Cs.shape prog 9 v fun v=>R v s') hn
  unfold vA at hk
  refine hk fun s1 hs1=>?_
  simp -implicitDefEqProofs only[↓Zd,(Zp),simprocAttr,underlying9,underlying9]
  exact h _ (lT (lN (lR s)) hs1)
 ·simp -implicitDefEqProofs only[↓Zd,(Zp),simprocAttr,qP,Value.cells,cut,cld2,underlying3,underlying36,vA,is36,ag36,ce36,fa36x0,ag3,underlying3,co131]
  have hk:=rShow_spec (w0:=w0) (s:=s.new (.cells [.int .i64 2,.int .i64 n,.string x] 36 true)) (k:=2) (n:=n) (x:=x) (R:=fun v s'=>Cs.shape prog 9 v fun v=>R v s') hn
  unfold vA at hk
  refine hk fun s1 hs1=>?_
  simp -implicitDefEqProofs only[↓Zd,(Zp),simprocAttr,underlying9,underlying9]
  exact h _ (lT (lN (lR s)) hs1)
 ·simp -implicitDefEqProofs only[↓Zd,(Zp),simprocAttr,qP,Value.cells,cld2,underlying3,underlying9,vA,is36,fa36x0,fa36x2,ag3,ag9,underlying3,underlying9,co130]
  refine rQuote_spec hx fun s1 hs1=>?_
  simp -implicitDefEqProofs only[↓Zd,(Zp),simprocAttr,underlying9,vA,underlying9]
  exact h _ (lT (lN (lR s)) hs1)
 ·simp -implicitDefEqProofs only[↓Zd,(Zp),simprocAttr,qP,Value.cells,cld2,underlying3,vA,is36,fa36x0,fa36x1,ag3,underlying3,co83]
  refine rDigits_spec hn fun s1 hs1=>?_
  have hsz:(⟨#[35]⟩:ByteArray).size+(digS n).size≤9223372036854775807:=by
   have:=digS_len hn
   show 1+(digS n).size≤_
   omega
  simp -implicitDefEqProofs only[↓Zd,(Zp),simprocAttr,underlying9,vA,underlying9,hsz]
  exact h _ (lT (lN (lR s)) hs1)
 ·simp -implicitDefEqProofs only[↓Zd,(Zp),simprocAttr,qP,Value.cells,cld2,underlying3,vA,is36,fa36x0,fa36x1,ag3,underlying3,co83]
  refine rDigits_spec hn fun s1 hs1=>?_
  have hsz:(⟨#[38]⟩:ByteArray).size+(digS n).size≤9223372036854775807:=by
   have:=digS_len hn
   show 1+(digS n).size≤_
   omega
  simp -implicitDefEqProofs only[↓Zd,(Zp),simprocAttr,underlying9,vA,underlying9,hsz]
  exact h _ (lT (lN (lR s)) hs1)
 ·simp only[h3,h4,h5,if_false]at h
  simp -implicitDefEqProofs only[↓Zd,(Zp),simprocAttr,qP,Value.cells,cut,cld2,underlying3,underlying36,vA,is36,ag36,ce36,fa36x0,ag3,underlying3,co131,h3,h4,h5]
  have hk:=rShow_spec (w0:=w0) (s:=s.new (.cells [.int .i64 k,.int .i64 n,.string x] 36 true)) (k:=k) (n:=n) (x:=x) (R:=fun v s'=>Cs.shape prog 9 v fun v=>R v s') hn
  unfold vA at hk
  refine hk fun s1 hs1=>?_
  simp -implicitDefEqProofs only[↓Zd,(Zp),simprocAttr,underlying9,underlying9]
  exact h _ (lT (lN (lR s)) hs1)
end
def A7x:=(And.intro (And.intro (And.intro (And.intro @underlying38 @sz38) (And.intro @is38 @ce38)) (And.intro (And.intro @ag38 @ze38) (And.intro @fa38x0 (And.intro @fa38x1 @fa38x2)))) (And.intro (And.intro (And.intro @fa38x3 @fa38x4) (And.intro @fa38x5 (And.intro @fa38x6 @underlying22))) (And.intro (And.intro @sz22 @is22) (And.intro @ce22 (And.intro @ag22 @ze22)))))
section
theorem long17_spec{a0 a1 a2 a3 a4:Int}{a5:ByteArray}{k6 n6:Int}{x6:ByteArray}(h:R (.bool (decide ((300:Int)<a5.size) || decide ((300:Int)<x6.size))) (s.new (.cells [.int .i64 a0,.int .i64 a1,.int .i64 a2,.int .i64 a3,.int .i64 a4,.string a5,.int .i64 k6,.int .i64 n6,.string x6] 38 true))) :
  QC prog w0 10 #[.agg #[.int .i64 a0,.int .i64 a1,.int .i64 a2,.int .i64 a3,.int .i64 a4,.string a5,.int .i64 k6,.int .i64 n6,.string x6]] s R:=by
 refine wfun2 hmix ok10 func10 rfl ntmps10 results10 (by simp) ?_
 by_cases h1:(300:Int)<a5.size
 ·simp only[h1,decide_true,Bool.true_or]at h
  simp -implicitDefEqProofs only[↓Zd,(Zp),simprocAttr,qP,Value.cells,cld2,underlying9,ag9,underlying9,(A7x),h1]
  exact h
 ·simp only[h1,decide_false,Bool.false_or]at h
  simp -implicitDefEqProofs only[↓Zd,(Zp),simprocAttr,qP,Value.cells,cld2,underlying9,fa36x2,ag9,underlying9,(A7x),h1]
  exact h
end
theorem works17d:trial prog 11=(trial prog 11).dup:=by kernel_rfl
section
theorem works17_spec(h:R (.bool true) s):QC prog w0 11 #[] s R:=
 QC.mono (ccalls_of_closed fun w=>calls_true hmix works17d w) fun _ _ ⟨e1,e2⟩=>by rw[e1,e2];exact h
end
end Go.Proofs.Tryz
section
namespace Go.Proofs.Tryz
open Go.Cs
open Go.RowKit (Below)
abbrev V3:=Int×Int×ByteArray
abbrev Pl:=Option (ByteArray×V3)
def plCells:Pl→List Value
 |none=>[.string ⟨#[]⟩,.int .i64 0,.int .i64 0,.string ⟨#[]⟩,.bool false]
 |some (x,k,n,y)=>[.string x,.int .i64 k,.int .i64 n,.string y,.bool true]
def plsCells(P:List Pl):List Value:=P.flatMap plCells
theorem plCells_len(p:Pl):(plCells p).length=5:=by
 cases p with
 |none=>rfl
 |some q=>obtain⟨x,k,n,y⟩:=q;rfl
theorem plsCells_len(P:List Pl):(plsCells P).length=P.length*5:=by
 induction P with
 |nil=>rfl
 |cons p P ih =>
  show (plCells p++plsCells P).length=_
  rw[List.length_append,plCells_len,ih,List.length_cons];omega
theorem plsCells_app(P:List Pl)(p:Pl):plsCells (P ++ [p])=plsCells P++plCells p:=by
 unfold plsCells;simp
theorem plsCells_get:∀ (P:List Pl) (i j:Nat) (p:Pl),P[i]?=some p→j<5→(plsCells P)[i*5+j]?=(plCells p)[j]?:=by
 intro P
 induction P with
 |nil=>intro i j p h;simp at h
 |cons q P ih =>
  intro i j p h hj
  show (plCells q++plsCells P)[i*5+j]?=_
  cases i with
  |zero =>
   simp only[List.getElem?_cons_zero,Option.some.injEq]at h
   subst h
   rw[Nat.zero_mul,Nat.zero_add,List.getElem?_append_left (by rw[plCells_len];exact hj)]
  |succ i =>
   rw[List.getElem?_append_right (by rw[plCells_len];omega),plCells_len,show (i+1)*5+j - 5=i*5+j from by omega]
   exact ih i j p (by simpa using h) hj
def KV(es:List MapEntry)(kv:List (ByteArray×Nat)):Prop:=
 es.length=kv.length∧∀ (i:Nat) (e:MapEntry) (x:ByteArray) (j:Nat),es[i]?=some e→kv[i]?=some (x,j)→e.key = .string x∧e.val = .int .i64 (j:Int)
theorem KV.nil:KV [] []:=⟨rfl,fun i e x j h=>by simp at h⟩
def kvIdx:List (ByteArray×Nat)→ByteArray→Option (Nat×Nat)
 | [],_=>none
 |(y,j)::r,x=>if y=x then some (0,j) else (kvIdx r x).map fun p=>(p.1+1,p.2)
theorem KV.tail{e:MapEntry}{es:List MapEntry}{y:ByteArray}{j:Nat}{kv:List (ByteArray×Nat)}(h:KV (e::es) ((y,j)::kv)):e.key = .string y∧e.val = .int .i64 (j:Int)∧KV es kv:=by
 obtain⟨h1,h2⟩:=h
 obtain⟨h3,h4⟩:=h2 0 e y j rfl rfl
 exact⟨h3,h4,by simpa using h1,fun i e' x j' a b=>h2 (i+1) e' x j' (by simpa using a) (by simpa using b)⟩
theorem findKV:∀ (es:List MapEntry) (kv:List (ByteArray×Nat)) (x:ByteArray) (i:Nat),KV es kv→Instr.findNow .string (.string x) es i=some ((kvIdx kv x).map fun p=>(i+p.1,.int .i64 (p.2:Int))):=by
 intro es
 induction es with
 |nil =>
  intro kv x i h
  have:kv=[]:=by have:=h.1;simp at this;exact List.eq_nil_of_length_eq_zero this.symm
  subst this
  rfl
 |cons e es ih =>
  intro kv x i h
  cases kv with
  |nil=>have:=h.1;simp at this
  |cons p kv =>
   obtain⟨y,j⟩:=p
   obtain⟨h1,h2,h3⟩:=h.tail
   simp only[Instr.findNow,Instr.sameNow,h1,kvIdx]
   by_cases e1:y=x
   ·subst e1
    have:(y == y)=true:=ba_beq_iff.2 rfl
    rw[this]
    simp[h2]
   ·have:(x == y)=false:=by rw[Bool.eq_false_iff];intro h;exact e1 (ba_beq_iff.1 h).symm
    rw[this]
    simp only[if_neg e1,ih kv x (i+1) h3]
    cases kvIdx kv x with
    |none=>rfl
    |some p=>simp;omega
theorem cfind_kv{es:List MapEntry}{kv:List (ByteArray×Nat)}(h:KV es kv)(x:ByteArray):cfind Tryz.prog 9 (.string x) es=some ((kvIdx kv x).map fun p=>(p.1,.int .i64 (p.2:Int))):=by
 unfold cfind
 rw[if_pos (show plain 6 (Value.string x)=true from rfl),underlying9]
 simp only[findKV es kv x 0 h,Nat.zero_add]
theorem kvIdx_some:∀ {kv:List (ByteArray×Nat)}{x:ByteArray}{i j:Nat},kvIdx kv x=some (i,j)→kv[i]?=some (x,j):=by
 intro kv
 induction kv with
 |nil=>intro x i j h;cases h
 |cons p kv ih =>
  intro x i j h
  obtain⟨y,j0⟩:=p
  unfold kvIdx at h
  split at h
  ·rename_i e;cases h;simp[e]
  ·obtain⟨q,hq,e⟩:=Option.map_eq_some_iff.1 h
   obtain⟨i',j'⟩:=q
   cases e
   simpa using ih hq
theorem kvIdx_none:∀ {kv:List (ByteArray×Nat)}{x:ByteArray},kvIdx kv x=none→∀ j,(x,j) ∉ kv:=by
 intro kv
 induction kv with
 |nil=>intro x _ j h;cases h
 |cons p kv ih =>
  intro x h j hm
  obtain⟨y,j0⟩:=p
  unfold kvIdx at h
  split at h
  ·cases h
  ·rename_i hne
   have h1:=Option.map_eq_none_iff.1 h
   rcases List.mem_cons.1 hm with e|hm
   ·cases e;exact hne rfl
   ·exact ih h1 j hm
theorem KV.app{es:List MapEntry}{kv:List (ByteArray×Nat)}(h:KV es kv){x:ByteArray}{j b:Nat}:KV (es ++ [{ key := .string x,val := .int .i64 (j:Int),born:=b }]) (kv ++ [(x,j)]):=by
 refine⟨by simp[h.1],fun i e y k h1 h2=>?_⟩
 by_cases hi:i<es.length
 ·rw[List.getElem?_append_left hi]at h1
  rw[List.getElem?_append_left (by rw[← h.1];exact hi)]at h2
  exact h.2 i e y k h1 h2
 ·rw[List.getElem?_append_right (by omega)]at h1
  rw[List.getElem?_append_right (by rw[← h.1];omega),← h.1]at h2
  by_cases h0:i - es.length=0
  ·rw[h0]at h1 h2
   simp at h1 h2
   subst h1
   exact⟨by rw[h2.1],by rw[h2.2]⟩
  ·rw[List.getElem?_eq_none (by simp;omega)]at h1;cases h1
theorem KV.erase{es:List MapEntry}{kv:List (ByteArray×Nat)}(h:KV es kv)(i:Nat):KV (es.eraseIdx i) (kv.eraseIdx i):=by
 refine⟨by rw[List.length_eraseIdx,List.length_eraseIdx,h.1],fun k e x j h1 h2=>?_⟩
 rw[List.getElem?_eraseIdx]at h1 h2
 split at h1
 ·rename_i hk;rw[if_pos hk]at h2;exact h.2 k e x j h1 h2
 ·rename_i hk;rw[if_neg hk]at h2;exact h.2 (k+1) e x j h1 h2
theorem KV.set{es:List MapEntry}{kv:List (ByteArray×Nat)}(h:KV es kv){i:Nat}{x:ByteArray}{j0:Nat}(hi:kv[i]?=some (x,j0))(j:Nat) :
  KV (es.modify i fun e=>{ e with key := .string x,val := .int .i64 (j:Int) }) (kv.set i (x,j)):=by
 refine⟨by rw[List.length_modify,List.length_set,h.1],fun k e y m h1 h2=>?_⟩
 rw[List.getElem?_modify]at h1
 rw[List.getElem?_set]at h2
 by_cases e1:i=k
 ·subst e1
  have hlt:=(List.getElem?_eq_some_iff.1 hi).1
  simp only[if_true,hlt]at h1 h2
  cases h2
  obtain⟨e0,_,rfl⟩:=Option.map_eq_some_iff.1 h1
  exact⟨rfl,rfl⟩
 ·simp only[e1,if_false]at h1 h2
  exact h.2 k e y m (by simpa using h1) h2
structure KP(kv:List (ByteArray×Nat))(P:List Pl):Prop where
 nodup:(kv.map (·.1)).Nodup
 mem:∀ x j,(x,j)∈kv↔∃ v,P[j]?=some (some (x,v))
def props(P:List Pl):List (ByteArray×V3):=P.filterMap id
theorem KP.nil:KP [] []:=⟨List.nodup_nil,fun x j=>by simp⟩
theorem KP.one{kv:List (ByteArray×Nat)}{P:List Pl}(h:KP kv P){x:ByteArray}{j k:Nat}(h1:(x,j)∈kv)(h2:(x,k)∈kv):j=k:=by
 have key:∀ (l:List (ByteArray×Nat)),(l.map (·.1)).Nodup→(x,j)∈l→(x,k)∈l→j=k:=by
  intro l
  induction l with
  |nil=>intro _ h;cases h
  |cons p l ih =>
   intro hn a b
   simp only[List.map_cons,List.nodup_cons]at hn
   rcases List.mem_cons.1 a with ea|a<;>rcases List.mem_cons.1 b with eb|b
   ·rw[← ea]at eb;cases eb;rfl
   ·exact absurd (List.mem_map_of_mem b) (by rw[← ea]at hn;exact hn.1)
   ·exact absurd (List.mem_map_of_mem a) (by rw[← eb]at hn;exact hn.1)
   ·exact ih hn.2 a b
 exact key kv h.nodup h1 h2
theorem KP.idx{kv:List (ByteArray×Nat)}{P:List Pl}(h:KP kv P){x:ByteArray}{i j:Nat}(hi:kvIdx kv x=some (i,j)):∃ v,P[j]?=some (some (x,v)):=
 (h.mem x j).1 (List.mem_of_getElem? (kvIdx_some hi))
theorem KP.no{kv:List (ByteArray×Nat)}{P:List Pl}(h:KP kv P){x:ByteArray}(hi:kvIdx kv x=none)(j:Nat)(v:V3):P[j]?≠some (some (x,v)):=
 fun e=>kvIdx_none hi j ((h.mem x j).2 ⟨v,e⟩)
theorem KP.app{kv:List (ByteArray×Nat)}{P:List Pl}(h:KP kv P){x:ByteArray}(hx:kvIdx kv x=none)(v:V3):KP (kv ++ [(x,P.length)]) (P ++ [some (x,v)]):=by
 refine⟨?_,fun y j=>?_⟩
 ·rw[List.map_append,List.nodup_append]
  refine⟨h.nodup,by simp,fun a ha b hb e=>?_⟩
  simp at hb
  subst hb;subst e
  obtain⟨⟨y,j⟩,hm,e⟩:=List.mem_map.1 ha
  simp only at e
  subst e
  exact kvIdx_none hx j hm
 ·rw[List.mem_append,h.mem]
  constructor
  ·rintro (⟨v',hv⟩|hm)
   ·exact⟨v',by rw[List.getElem?_append_left (List.getElem?_eq_some_iff.1 hv).1];exact hv⟩
   ·simp at hm
    obtain⟨rfl,rfl⟩:=hm
    exact⟨v,by simp⟩
  ·rintro⟨v',hv⟩
   by_cases hj:j<P.length
   ·rw[List.getElem?_append_left hj]at hv;exact .inl ⟨v',hv⟩
   ·rw[List.getElem?_append_right (by omega)]at hv
    by_cases h0:j - P.length=0
    ·rw[h0]at hv
     simp at hv
     right
     simp[hv.1,show j=P.length by omega]
    ·rw[List.getElem?_eq_none (by simp;omega)]at hv;cases hv
theorem KP.put{kv:List (ByteArray×Nat)}{P:List Pl}(h:KP kv P){x:ByteArray}{i j:Nat}(hi:kvIdx kv x=some (i,j))(v:V3):KP kv (P.set j (some (x,v))):=by
 refine⟨h.nodup,fun y k=>?_⟩
 obtain⟨v0,h0⟩:=h.idx hi
 have hlt:=(List.getElem?_eq_some_iff.1 h0).1
 rw[h.mem,List.getElem?_set]
 by_cases e:j=k
 ·subst e
  simp only[if_true,hlt]
  constructor
  ·rintro⟨v',hv⟩
   rw[h0]at hv
   simp at hv
   exact⟨v,by rw[hv.1]⟩
  ·rintro⟨v',hv⟩
   simp at hv
   exact⟨v0,by rw[← hv.1];exact h0⟩
 ·simp only[e,if_false]
theorem KP.del{kv:List (ByteArray×Nat)}{P:List Pl}(h:KP kv P){x:ByteArray}{i j:Nat}(hi:kvIdx kv x=some (i,j)):KP (kv.eraseIdx i) (P.set j none):=by
 obtain⟨v0,h0⟩:=h.idx hi
 have hlt:=(List.getElem?_eq_some_iff.1 h0).1
 have hat:=kvIdx_some hi
 have hmem:∀ y k,(y,k)∈kv.eraseIdx i↔(y,k)∈kv∧y≠x:=by
  intro y k
  rw[List.mem_eraseIdx_iff_getElem?]
  constructor
  ·rintro⟨m,hm,hk⟩
   refine⟨List.mem_of_getElem? hk,fun e=>?_⟩
   subst e
   have hlt1:=(List.getElem?_eq_some_iff.1 hk).1
   have hlt2:=(List.getElem?_eq_some_iff.1 hat).1
   have hnd:=h.nodup
   have e1:(kv.map (·.1))[m]'(by simpa using hlt1)=(kv.map (·.1))[i]'(by simpa using hlt2):=by
    simp only[List.getElem_map]
    rw[(List.getElem?_eq_some_iff.1 hk).2,(List.getElem?_eq_some_iff.1 hat).2]
   exact hm ((List.getElem_inj hnd).1 e1)
  ·rintro⟨hk,hne⟩
   obtain⟨m,hm⟩:=List.getElem?_of_mem hk
   exact⟨m,fun e=>by subst e;rw[hat]at hm;cases hm;exact hne rfl,hm⟩
 refine⟨?_,fun y k=>?_⟩
 ·exact (List.Sublist.map _ (List.eraseIdx_sublist kv i)).nodup h.nodup
 ·rw[hmem,h.mem,List.getElem?_set]
  constructor
  ·rintro⟨⟨v',hv⟩,hne⟩
   refine⟨v',?_⟩
   rw[if_neg]
   ·exact hv
   ·intro e
    subst e
    rw[h0]at hv
    simp at hv
    exact hne hv.1.symm
  ·rintro⟨v',hv⟩
   split at hv
   ·simp at hv
   ·rename_i hne
    refine⟨⟨v',hv⟩,fun e=>?_⟩
    subst e
    exact hne (h.one (List.mem_of_getElem? hat) ((h.mem _ _).2 ⟨v',hv⟩))
end Go.Proofs.Tryz
namespace Go.Proofs.Tryz
open Go.Cs
open Go.RowKit (Below)
set_option maxRecDepth 100000
attribute [local irreducible] QC WLoop WScope
section
variable {M:Type}[Mem M]{w0:World}{s:St M}{R:Value→St M→Prop}
def SlU(e:TypeId)(sz:Nat)(s:St M)(sl:Value)(cs:List Value)(n:Nat):Prop:=
 (n=0∧cs=[]∧sl = .slice none 0 0)∨(∃ b junk,sl = .slice (some ⟨b,0,none⟩) n UNK∧s.at' b=some (.cells (cs++junk) e true)∧cs.length=n*sz)
theorem SlU.same{e:TypeId}{sz:Nat}{s s':St M}{sl:Value}{cs:List Value}{n:Nat}(h:SlU e sz s sl cs n)(hs:∀ q m c,sl = .slice (some q) m c→s'.at' q.block=s.at' q.block):SlU e sz s' sl cs n:=by
 rcases h with h|⟨b,c,h1,h2,h4⟩
 ·exact .inl h
 ·exact .inr ⟨b,c,h1,by rw[hs _ _ _ h1];exact h2,h4⟩
structure DictAt(lo:Nat)(s:St M)(p:Nat)(L:List (ByteArray×V3))(N:Nat)(O:Nat→Prop):Prop where
 own:∀ b,O b→lo≤b∧b<s.next
 pin:O p
 bl:∃ P m sl es clock kv,props P=L∧P.length≤N∧s.at' p=some (.cells [.map (some m),sl] 191 true)∧s.at' m=some (.map es clock)∧KV es kv∧KP kv P∧O m∧m≠p ∧
  SlU 209 5 s sl (plsCells P) P.length∧(∀ q n c,sl = .slice (some q) n c→O q.block∧q.block≠p∧q.block≠m)
theorem DictAt.same{lo:Nat}{s s':St M}{p:Nat}{L:List (ByteArray×V3)}{N:Nat}{O:Nat→Prop}(h:DictAt lo s p L N O)(hn:s.next≤s'.next)(hs:∀ b,O b→s'.at' b=s.at' b):DictAt lo s' p L N O:=by
 obtain⟨h1,h2,P,m,sl,es,clock,kv,h3,hN,h4,h5,h6,h7,h8,h9,h10,h11⟩:=h
 exact⟨fun b hb=>⟨(h1 b hb).1,by have:=(h1 b hb).2;omega⟩,h2,P,m,sl,es,clock,kv,h3,hN,by rw[hs _ h2];exact h4,by rw[hs _ h8];exact h5,h6,h7,h8,h9,h10.same fun q n c e=>hs _ (h11 q n c e).1,h11⟩
def getP:List (ByteArray×V3)→ByteArray→Option V3
 | [],_=>none
 |(y,v)::L,x=>if y=x then some v else getP L x
def vOf(v:V3):Value:=vA v.1 v.2.1 v.2.2
def gotV(o:Option V3):Value:=match o with
 |some v => .tuple #[vOf v,.bool true]
 |none => .tuple #[vA 0 0 ⟨#[]⟩,.bool false]
theorem ddead_spec{p:Nat}{m:Nat}{sl:Value}(h0:s.at' p=some (.cells [.map (some m),sl] 191 true))(h:R (.bool false) s):QC Tryz.prog w0 120 #[.pointer (some ⟨p,0,none⟩)] s R:=by
 refine wfun2 hmix ok120 func120 rfl ntmps120 results120 (by simp) ?_
 simp -implicitDefEqProofs only[↓Zd,(Zp),simprocAttr,cld2,underlying172,h0,nf112,nf172,fa191x0,ag172]
 exact h
theorem dnew_spec(h:∀ s' p,DictAt s.next s' p [] 0 (fun b=>s.next≤b∧b<s'.next)→s.le s'→R (.pointer (some ⟨p,0,none⟩)) s'):QC Tryz.prog w0 49 #[] s R:=by
 refine wfun2 hmix ok49 func49 rfl ntmps49 results49 (by simp) ?_
 have hb:∀ m:Nat,cbuild Tryz.prog 191 #[(0,.map (some m))]=some (.agg #[.map (some m),.slice none 0 0]):=fun m=>by kernel_rfl
 simp -implicitDefEqProofs only[↓Zd,(Zp),simprocAttr,qP,Value.cells,hb,is191]
 refine h _ _ ⟨fun b hb=>hb,by simp,[],s.next,.slice none 0 0,[],0,[],rfl,Nat.le_refl _,by simp,by simp,.nil,.nil,⟨by omega,by simp only[St.next_new];omega⟩,by simp,.inl ⟨rfl,rfl,rfl⟩,fun q n c e=>by cases e⟩ (by repeat (first|exact lR _|assumption|refine lN ?_|refine lP ?_ (by first|omega|(simp only[(Sn)];omega))|refine lT ?_ (by assumption)))
theorem get_props{kv:List (ByteArray×Nat)}{P:List Pl}(h:KP kv P)(x:ByteArray):getP (props P) x=match kvIdx kv x with
  |some (_,j)=>(match P[j]? with|some (some (_,v))=>some v|_=>none)
  |none=>none:=by
 have key:∀ (P:List Pl),(∀ (j k:Nat) (v w:V3),P[j]?=some (some (x,v))→P[k]?=some (some (x,w))→j=k)→(∀ v:V3,getP (props P) x=some v↔∃ j:Nat,P[j]?=some (some (x,v))):=by
  intro P
  induction P with
  |nil=>intro _ v;simp[props,getP]
  |cons p P ih =>
   intro hu v
   have ih:=ih (fun j k v w a b=>by have:=hu (j+1) (k+1) v w (by simpa using a) (by simpa using b);omega) v
   cases p with
   |none =>
    show getP (props P) x=some v↔_
    rw[ih]
    constructor
    ·rintro⟨j,hj⟩;exact⟨j+1,by simpa using hj⟩
    ·rintro⟨j,hj⟩
     cases j with
     |zero=>simp at hj
     |succ j=>exact⟨j,by simpa using hj⟩
   |some q =>
    obtain⟨y,u⟩:=q
    show getP ((y,u)::props P) x=some v↔_
    simp only[getP]
    by_cases e:y=x
    ·subst e
     rw[if_pos rfl]
     constructor
     ·intro e;cases e;exact⟨0,rfl⟩
     ·rintro⟨j,hj⟩
      have:=hu 0 j u v rfl hj
      subst this
      simp at hj
      rw[hj]
    ·rw[if_neg e,ih]
     constructor
     ·rintro⟨j,hj⟩;exact⟨j+1,by simpa using hj⟩
     ·rintro⟨j,hj⟩
      cases j with
      |zero=>simp at hj;exact absurd hj.1 e
      |succ j=>exact⟨j,by simpa using hj⟩
 have hu:∀ (j k:Nat) (v w:V3),P[j]?=some (some (x,v))→P[k]?=some (some (x,w))→j=k:=fun j k v w a b=>h.one ((h.mem x j).2 ⟨v,a⟩) ((h.mem x k).2 ⟨w,b⟩)
 cases hi:kvIdx kv x with
 |none =>
  simp only
  cases hg:getP (props P) x with
  |none=>rfl
  |some v =>
   obtain⟨j,hj⟩:=(key P hu v).1 hg
   exact absurd hj (h.no hi j v)
 |some ij =>
  obtain⟨i,j⟩:=ij
  obtain⟨v,hv⟩:=h.idx hi
  simp only[hv]
  exact (key P hu v).2 ⟨j,hv⟩
theorem bVal:cbuild Tryz.prog 36 #[]=some (.agg #[.int .i64 0,.int .i64 0,.string (ByteArray.mk #[])]):=by kernel_rfl
theorem zc5:∀ (P:List Pl) (j:Nat) (x:ByteArray) (k n:Int) (y:ByteArray) (junk:List Value),P[j]?=some (some (x,k,n,y))→j*5+4≤(plsCells P++junk).length∧List.take 3 (List.drop (j*5+1) (plsCells P++junk))=[.int .i64 k,.int .i64 n,.string y]:=by
 intro P j x k n y junk h
 have hlt:=(List.getElem?_eq_some_iff.1 h).1
 have hl:=plsCells_len P
 refine⟨by rw[List.length_append];omega,?_⟩
 have g:∀ i:Nat,i<5→(plsCells P++junk)[j*5+i]?=[Value.string x,.int .i64 k,.int .i64 n,.string y,.bool true][i]?:=by
  intro i hi
  rw[List.getElem?_append_left (by omega),plsCells_get P j i _ h hi]
  rfl
 apply List.ext_getElem?
 intro i
 rw[List.getElem?_take]
 by_cases hi:i<3
 ·rw[if_pos hi,List.getElem?_drop,show j*5+1+i=j*5+(i+1) from by omega,g (i+1) (by omega)]
  have:i=0∨i=1∨i=2:=by omega
  rcases this with rfl|rfl|rfl<;>rfl
 ·rw[if_neg hi,List.getElem?_eq_none (by simp;omega)]
set_option maxHeartbeats 4000000 in
theorem dget_spec{lo p:Nat}{L:List (ByteArray×V3)}{N:Nat}{x:ByteArray}{O:Nat→Prop}(hD:DictAt lo s p L N O)(h:∀ s',s.le s'→R (gotV (getP L x)) s'):QC Tryz.prog w0 141 #[.pointer (some ⟨p,0,none⟩),.string x] s R:=by
 refine wfun2 hmix ok141 func141 rfl ntmps141 results141 (by simp) ?_
 obtain⟨h1,h2,P,m,sl,es,clock,kv,h3,hN,h4,h5,h6,h7,h8,h9,h10,h11⟩:=hD
 have hp:=(h1 p h2).2
 have hm:=(h1 m h8).2
 have hpn:¬ p=s.next:=by omega
 have hmn:¬ m=s.next:=by omega
 simp -implicitDefEqProofs only[↓Zd,(Zp),simprocAttr,Value.cells,ze36,co120]
 refine ddead_spec (m:=m) (sl:=sl) (by rw[St.at_new,if_neg hpn];exact h4) ?_
 subst h3
 have hcf:=cfind_kv h6 x
 rw[get_props h7]at h
 cases hi:kvIdx kv x with
 |none =>
  rw[hi]at h hcf
  simp -implicitDefEqProofs only[↓Zd,(Zp),simprocAttr,qP,Value.cells,cut,qC,cld2,underlying4,ag36,ce36,underlying4,underlying172,underlying192,h4,h5,hpn,hmn,hcf,bVal,sz36,ze3,fa191x0,ag172]
  exact h _ (by repeat (first|exact lR _|assumption|refine lN ?_|refine lP ?_ (by first|omega|(simp only[(Sn)];omega))|refine lT ?_ (by assumption)))
 |some ij =>
  obtain⟨i,j⟩:=ij
  obtain⟨⟨k,n,y⟩,hv⟩:=h7.idx hi
  rw[hi]at h hcf
  simp only[hv]at h
  have hlt:=(List.getElem?_eq_some_iff.1 hv).1
  rcases h10 with ⟨e0,_⟩|⟨b,junk,rfl,hb,hl⟩
  ·omega
  have hbn:¬ b=s.next:=by have:=(h1 b (h11 _ _ _ rfl).1).2;omega
  have hlt':(j:Int)<(P.length:Int):=by omega
  have hge:(0:Int)≤(j:Int):=by omega
  obtain⟨hle,htk⟩:=zc5 P j x k n y junk hv
  simp -implicitDefEqProofs only[↓Zd,(Zp),simprocAttr,qP,Value.cells,cut,qC,cld2,underlying4,underlying36,ag36,ce36,underlying4,underlying172,underlying192,underlying189,h4,h5,hpn,hmn,hcf,sz36,ze3,fa191x0,fa191x1,fa209x1,ag172,ag189,sz209,hlt',hge,hb,hbn,hle,htk]
  exact h _ (by repeat (first|exact lR _|assumption|refine lN ?_|refine lP ?_ (by first|omega|(simp only[(Sn)];omega))|refine lT ?_ (by assumption)))
end
end Go.Proofs.Tryz
namespace Go.Proofs.Tryz
open Go.Cs
open Go.RowKit (Below)
set_option maxRecDepth 100000
attribute [local irreducible] QC WLoop WScope
def setP:List (ByteArray×V3)→ByteArray→V3→List (ByteArray×V3)
 | [],x,v=>[(x,v)]
 |(y,w)::L,x,v=>if y=x then (x,v)::L else (y,w)::setP L x v
theorem setP_none:∀ (L:List (ByteArray×V3)) (x:ByteArray) (v:V3),getP L x=none→setP L x v=L ++ [(x,v)]:=by
 intro L
 induction L with
 |nil=>intro x v _;rfl
 |cons p L ih =>
  intro x v h
  obtain⟨y,w⟩:=p
  simp only[getP]at h
  simp only[setP]
  split at h
  ·cases h
  ·rename_i e;rw[if_neg e,ih x v h];rfl
theorem props_set:∀ (P:List Pl) (j:Nat) (x:ByteArray) (v w:V3),P[j]?=some (some (x,w))→(∀ (k:Nat) (u:V3),P[k]?=some (some (x,u))→k=j)→props (P.set j (some (x,v)))=setP (props P) x v:=by
 intro P
 induction P with
 |nil=>intro j x v w h;simp at h
 |cons p P ih =>
  intro j x v w h hu
  cases j with
  |zero =>
   simp at h
   subst h
   show (x,v)::props P=setP ((x,w)::props P) x v
   simp[setP]
  |succ j =>
   have ih:=ih j x v w (by simpa using h) (fun k u hk=>by have:=hu (k+1) u (by simpa using hk);omega)
   cases p with
   |none=>exact ih
   |some q =>
    obtain⟨y,u⟩:=q
    have hne:¬ y=x:=fun e=>by subst e;have:=hu 0 u rfl;omega
    show (y,u)::props (P.set j (some (x,v)))=setP ((y,u)::props P) x v
    simp only[setP,if_neg hne,ih]
theorem props_app(P:List Pl)(x:ByteArray)(v:V3):props (P ++ [some (x,v)])=props P ++ [(x,v)]:=by
 unfold props;simp
theorem set_pls:∀ (P:List Pl) (j:Nat) (x:ByteArray) (w:V3) (k n:Int) (y:ByteArray) (junk:List Value),P[j]?=some (some (x,w)) →
  setCells (plsCells P++junk) (j*5+1) [.int .i64 k,.int .i64 n,.string y]=plsCells (P.set j (some (x,k,n,y)))++junk:=by
 intro P j x w k n y junk h
 simp only[setCells_cons,setCells_nil]
 apply List.ext_getElem?
 intro i
 have hlt:=(List.getElem?_eq_some_iff.1 h).1
 have hl:=plsCells_len P
 have hl2:=plsCells_len (P.set j (some (x,k,n,y)))
 rw[List.length_set]at hl2
 by_cases hi:i<P.length*5
 ·rw[List.getElem?_append_left (by omega)]
  obtain⟨q,r,rfl,hr⟩:∃ q r,i=q*5+r∧r<5:=⟨i / 5,i % 5,by omega,Nat.mod_lt _ (by omega)⟩
  have hq:q<P.length:=by omega
  have hP:P[q]?=some P[q]:=by simp[hq]
  have base:(plsCells P++junk)[q*5+r]?=(plCells P[q])[r]?:=by rw[List.getElem?_append_left (by omega)];exact plsCells_get P q r _ hP hr
  by_cases e:q=j
  ·subst e
   rw[hP]at h
   simp at h
   rw[plsCells_get _ q r (some (x,k,n,y)) (by simp[hq]) hr]
   rw[h]at base
   have:r=0∨r=1∨r=2∨r=3∨r=4:=by omega
   have hlen:q*5+4<(plsCells P++junk).length:=by rw[List.length_append];omega
   rcases this with rfl|rfl|rfl|rfl|rfl
   ·rw[List.getElem?_set_ne (by omega),List.getElem?_set_ne (by omega),List.getElem?_set_ne (by omega),base];rfl
   ·rw[List.getElem?_set_ne (by omega),List.getElem?_set_ne (by omega),List.getElem?_set_self (by omega)];rfl
   ·rw[List.getElem?_set_ne (by omega),show q*5+2=q*5+1+1 from rfl,List.getElem?_set_self (by rw[List.length_set];omega)];rfl
   ·rw[show q*5+3=q*5+1+1+1 from rfl,List.getElem?_set_self (by rw[List.length_set,List.length_set];omega)];rfl
   ·rw[List.getElem?_set_ne (by omega),List.getElem?_set_ne (by omega),List.getElem?_set_ne (by omega),base];rfl
  ·rw[plsCells_get _ q r P[q] (by rw[List.getElem?_set,if_neg (Ne.symm e)];exact hP) hr,← base]
   rw[List.getElem?_set_ne (by omega),List.getElem?_set_ne (by omega),List.getElem?_set_ne (by omega)]
 ·rw[List.getElem?_append_right (by omega),hl2]
  rw[List.getElem?_set_ne (by omega),List.getElem?_set_ne (by omega),List.getElem?_set_ne (by omega),List.getElem?_append_right (by omega),hl]
section
variable {M:Type}[Mem M]{w0:World}{s:St M}{R:Value→St M→Prop}
theorem app_rowU{P:Program}{s:St M}{e t1 t2:TypeId}{ie:TypeInfo}{z sl v:Value}{old new:List Value}{n k:Nat}(hie:P.info? e=some ie)(hz:czero P e=some z)(hzs:z.cells.size=ie.size)(hb:0<ie.bytes)
  (happ:capp P #[t1,t2] #[sl,v] s=capp3 P e ie sl s (cmore ie.size v s))(hk:k≠0)(hlen:(n+k)*ie.bytes≤140737488355328)(hok:new.all qC=true)(hv:cmore ie.size v s=some (k,new))(hsl:SlU e ie.size s sl old n) :
  ∃ s',capp P #[t1,t2] #[sl,v] s=some (.slice (some ⟨s.next,0,none⟩) (n+k) UNK,s')∧s'.next=s.next+1∧s'.at' s.next=some (.cells (old++new) e true) ∧
   (∀ b,b≠s.next→(∀ q m c,sl = .slice (some q) m c→b≠q.block)→s'.at' b=s.at' b):=by
 rw[happ,hv]
 unfold capp3
 simp only[hok,Bool.true_eq_false,if_false]
 rcases hsl with ⟨rfl,rfl,rfl⟩|⟨b,junk,rfl,hb',hl⟩
 ·simp only[hk,if_false]
  unfold cgrow
  rw[hz]
  simp only[hzs]
  rw[if_pos ⟨trivial,hb,by simpa using hlen⟩]
  exact⟨s.new (.cells new e true),by simp,by simp,by simp,fun c hc _=>by rw[St.at_new,if_neg hc]⟩
 ·have hcut:cut (old++junk) 0 (n*ie.size)=some old:=by
   unfold cut
   rw[if_pos (by rw[List.length_append];omega),List.drop_zero,← hl,List.take_left']
   rfl
  simp only[if_true,hk,if_false,hb']
  unfold capp4
  simp only[hcut,Nat.zero_mod,and_self,if_true]
  unfold cgrow
  rw[hz]
  simp only[hzs]
  rw[if_pos ⟨trivial,hb,hlen⟩]
  refine⟨(s.kill b).new (.cells (old++new) e true),by simp,by simp,by simp,fun c hc hq=>?_⟩
  rw[St.at_new,St.next_kill,if_neg hc,St.at_kill,if_neg (hq _ _ _ rfl)]
theorem bPlace(x:ByteArray)(k n:Int)(y:ByteArray):cbuild Tryz.prog 209 #[(0,.string x),(1,.agg #[.int .i64 k,.int .i64 n,.string y]),(2,.bool true)]=some (.agg #[.string x,.int .i64 k,.int .i64 n,.string y,.bool true]):=by kernel_rfl
theorem rowPlace(x:ByteArray)(k n:Int)(y:ByteArray):crow Tryz.prog 189 1 #[(0,.agg #[.string x,.int .i64 k,.int .i64 n,.string y,.bool true])]=some (.cells [.string x,.int .i64 k,.int .i64 n,.string y,.bool true] 209 true):=by kernel_rfl
theorem infoPlace:∃ ie,Tryz.prog.info? 209=some ie∧ie.size=5∧0<ie.bytes∧ie.bytes≤100:=by
 obtain⟨ie,h⟩:=Option.isSome_iff_exists.1 is209
 have h1:=ce209
 have h2:decide (0<Tryz.prog.bytesOf 209∧Tryz.prog.bytesOf 209≤100)=true:=by kernel_rfl
 rw[cellsOf_info h]at h1
 simp only[Program.bytesOf,h,decide_eq_true_eq]at h2
 exact⟨ie,h,h1,h2.1,h2.2⟩
theorem app_place{s:St M}{sl:Value}{P:List Pl}{x:ByteArray}{k n:Int}{y:ByteArray}(hlen:P.length≤1000000)(hsl:SlU 209 5 s sl (plsCells P) P.length)(hfr:∀ q m c,sl = .slice (some q) m c→q.block<s.next) :
  ∃ s',capp Tryz.prog #[189,189] #[sl,.slice (some ⟨s.next,0,none⟩) 1 1] (s.new (.cells [.string x,.int .i64 k,.int .i64 n,.string y,.bool true] 209 true))=some (.slice (some ⟨s.next+1,0,none⟩) (P.length+1) UNK,s')∧s'.next=s.next+2 ∧
   s'.at' (s.next+1)=some (.cells (plsCells (P ++ [some (x,k,n,y)])) 209 true)∧(∀ b,b<s.next→(∀ q n c,sl = .slice (some q) n c→b≠q.block)→s'.at' b=s.at' b):=by
 obtain⟨ie,hie,h1,h2,h3⟩:=infoPlace
 have hcapp:capp Tryz.prog #[189,189] #[sl,.slice (some ⟨s.next,0,none⟩) 1 1] (s.new (.cells [.string x,.int .i64 k,.int .i64 n,.string y,.bool true] 209 true))=capp3 Tryz.prog 209 ie sl (s.new (.cells [.string x,.int .i64 k,.int .i64 n,.string y,.bool true] 209 true)) (cmore ie.size (.slice (some ⟨s.next,0,none⟩) 1 1) (s.new (.cells [.string x,.int .i64 k,.int .i64 n,.string y,.bool true] 209 true))):=
  app_eq underlying189 underlying189 hie
 have hv:cmore ie.size (.slice (some ⟨s.next,0,none⟩) 1 1) (s.new (.cells [.string x,.int .i64 k,.int .i64 n,.string y,.bool true] 209 true))=some (1,[.string x,.int .i64 k,.int .i64 n,.string y,.bool true]):=by
  simp only[more_at,St.at_new,if_true,more2,h1];rfl
 obtain⟨s',h3,h4,h5,h6⟩:=app_rowU (n:=P.length) (k:=1) hie ze209 (by rw[h1];rfl) h2 hcapp (by omega) (by
  have:(P.length+1)*ie.bytes≤1000001*100:=Nat.mul_le_mul (by omega) h3
  omega) rfl hv (by rw[h1];exact hsl.same fun q m c e=>by rw[St.at_new,if_neg (by have:=hfr q m c e;omega)])
 refine⟨s',by simpa using h3,by simp at h4;omega,by rw[plsCells_app];exact h5,fun b hb hq=>?_⟩
 rw[h6 b (by simp;omega) hq,St.at_new,if_neg (by omega)]
set_option maxHeartbeats 8000000 in
theorem dset_spec{lo p:Nat}{L:List (ByteArray×V3)}{N:Nat}{x:ByteArray}{k n:Int}{y:ByteArray}{O:Nat→Prop}(hD:DictAt lo s p L N O)(hlo:lo≤s.next)(hN:N≤1000000)
  (h:∀ s' O',DictAt lo s' p (setP L x (k,n,y)) (N+1) O'→s.next≤s'.next→(∀ b,b<s.next→¬ O b→s'.at' b=s.at' b)→(∀ b,O' b→O b∨s.next≤b)→R (.bool (getP L x).isNone) s') :
  QC Tryz.prog w0 67 #[.pointer (some ⟨p,0,none⟩),.string x,vA k n y] s R:=by
 refine wfun2 hmix ok67 func67 rfl ntmps67 results67 (by simp) ?_
 obtain⟨h1,h2,P,m,sl,es,clock,kv,h3,hPN,h4,h5,h6,h7,h8,h9,h10,h11⟩:=hD
 have hp:=(h1 p h2).2
 have hm:=(h1 m h8).2
 have hpn:¬ p=s.next:=by omega
 have hmn:¬ m=s.next:=by omega
 simp -implicitDefEqProofs only[↓Zd,(Zp),simprocAttr,qP,Value.cells,vA,is36,co120]
 refine ddead_spec (m:=m) (sl:=sl) (by rw[St.at_new,if_neg hpn];exact h4) ?_
 subst h3
 have hcf:=cfind_kv h6 x
 have hg:=get_props h7 x
 cases hi:kvIdx kv x with
 |some ij =>
  obtain⟨i,j⟩:=ij
  obtain⟨v0,hv⟩:=h7.idx hi
  rw[hi]at hcf hg
  simp only[hv]at hg
  rw[hg]at h
  have hlt:=(List.getElem?_eq_some_iff.1 hv).1
  rcases h10 with ⟨e0,_⟩|⟨b,junk,rfl,hb,hl⟩
  ·omega
  have hbO:=h11 _ _ _ rfl
  have hbn:¬ b=s.next:=by have:=(h1 b hbO.1).2;omega
  have hlt':(j:Int)<(P.length:Int):=by omega
  have hge:(0:Int)≤(j:Int):=by omega
  obtain⟨hle,_⟩:=zc5 P j x v0.1 v0.2.1 v0.2.2 junk hv
  have hset:=set_pls P j x v0 k n y junk hv
  simp -implicitDefEqProofs only[↓Zd,(Zp),simprocAttr,qP,Value.cells,cut,qC,cld2,underlying4,underlying36,vA,ag36,ce36,underlying4,underlying172,underlying192,underlying189,ord67,h4,h5,hpn,hmn,hcf,sz36,ze3,fa191x0,fa191x1,fa209x1,ag172,ag189,sz209,hlt',hge,hb,hbn,hle,hset]
  have hpb:¬ p=b:=fun e=>hbO.2.1 e.symm
  have hmb:¬ m=b:=fun e=>hbO.2.2 e.symm
  refine h _ O ⟨fun c hc=>⟨(h1 c hc).1,by have:=(h1 c hc).2;simp only[(Sn)];omega⟩,h2,P.set j (some (x,k,n,y)),m,_,es,clock,kv,props_set P j x _ v0 hv (fun q u hq=>h7.one ((h7.mem x q).2 ⟨u,hq⟩) ((h7.mem x j).2 ⟨v0,hv⟩)),
   by rw[List.length_set];omega,?_,?_,h6,h7.put hi _,h8,h9,.inr ⟨b,junk,by rw[List.length_set],?_,by rw[plsCells_len,List.length_set]⟩,h11⟩ (by simp only[(Sn)];omega) ?_ (fun c hc => .inl hc)
  ·rw[St.at_put,if_neg hpb,St.at_new,if_neg hpn];exact h4
  ·rw[St.at_put,if_neg hmb,St.at_new,if_neg hmn];exact h5
  ·rw[St.at_put,if_pos rfl]
  ·intro c hc ho
   rw[St.at_put,if_neg (fun e:c=b=>ho (e▸hbO.1)),St.at_new,if_neg (by omega)]
 |none =>
  rw[hi]at hcf hg
  simp only at hg
  rw[hg]at h
  have hmap:s.at' m=some (.map es clock):=h5
  have h10':SlU 209 5 ((s.new (.cells [.int .i64 k,.int .i64 n,.string y] 36 true)).put m (.map (es ++ [{ key := .string x,val := .int .i64 (P.length:Int),born:=clock }]) (clock+1))) sl (plsCells P) P.length:=
   h10.same fun q a c e=>by rw[St.at_put,if_neg (h11 q a c e).2.2,St.at_new,if_neg (by have:=(h1 _ (h11 q a c e).1).2;omega)]
  obtain⟨s3,happ,hn3,hat3,hk3⟩:=app_place (x:=x) (k:=k) (n:=n) (y:=y) (by omega) h10' (fun q a c e=>by have:=(h1 _ (h11 q a c e).1).2;simp only[(Sn)];omega)
  simp only[(Sn)]at happ hn3 hat3 hk3
  have hmp:¬ m=p:=h9
  have hpm:¬ p=m:=fun e=>h9 e.symm
  have hp3:s3.at' p=some (.cells [.map (some m),sl] 191 true):=by rw[hk3 p (by omega) (fun q a c e e2=>(h11 q a c e).2.1 e2.symm),St.at_put,if_neg hpm,St.at_new,if_neg hpn];exact h4
  have hnm:¬ s.next=m:=fun e=>hmn e.symm
  have hnp:¬ s.next=p:=fun e=>hpn e.symm
  obtain⟨a0,c0,rfl⟩:∃ a0 c0,sl = .slice a0 P.length c0:=by
   rcases h10 with ⟨e0,_,rfl⟩|⟨b,junk,rfl,_⟩
   ·exact⟨none,0,by rw[e0]⟩
   ·exact⟨_,_,rfl⟩
  simp -implicitDefEqProofs only[↓Zd,(Zp),simprocAttr,qP,Value.cells,cut,qC,cld2,underlying4,underlying36,vA,ag36,ce36,underlying4,underlying172,underlying192,underlying189,ord67,h4,h5,hpn,hmn,hpm,hnm,hcf,ze3,fa191x0,fa191x1,ag172,ag189,sz189,bPlace,rowPlace,happ,hp3]
  rw[setP_none _ _ _ hg]at h
  have hb2:∀ q a c,Value.slice a0 P.length c0 = .slice (some q) a c→O q.block∧q.block≠p∧q.block≠m:=h11
  refine h _ (fun b=>b=p∨b=m∨b=s.next+2) ⟨?_,.inl rfl,P ++ [some (x,k,n,y)],m,.slice (some ⟨s.next+2,0,none⟩) (P.length+1) UNK,es ++ [{ key := .string x,val := .int .i64 (P.length:Int),born:=clock }],clock+1,kv ++ [(x,P.length)],props_app P x (k,n,y),(by rw[List.length_append];simp only[List.length_cons,List.length_nil];omega),?_,?_,h6.app,h7.app hi (k,n,y),.inr (.inl rfl),h9,.inr ⟨s.next+2,[],by simp,?_,plsCells_len _⟩,?_⟩ ?_ ?_ ?_
  ·rintro b (rfl|rfl|rfl)
   ·exact⟨(h1 _ h2).1,by simp only[St.next_put];omega⟩
   ·exact⟨(h1 _ h8).1,by simp only[St.next_put];omega⟩
   ·exact⟨by omega,by simp only[St.next_put];omega⟩
  ·rw[St.at_put,if_pos rfl]
  ·rw[St.at_put,if_neg hmp,hk3 m (by omega) (fun q a c e e2=>(h11 q a c e).2.2 e2.symm),St.at_put,if_pos rfl]
  ·rw[St.at_put,if_neg (by omega),List.append_nil]
   exact hat3
  ·intro q a c e
   cases e
   exact⟨.inr (.inr rfl),by show s.next+2≠p;omega,by show s.next+2≠m;omega⟩
  ·simp only[St.next_put];omega
  ·intro b hb ho
   rw[St.at_put,if_neg (fun e:b=p=>ho (e▸h2)),hk3 b (by omega) (fun q a c e e2=>ho (e2▸(h11 q a c e).1)),St.at_put,if_neg (fun e:b=m=>ho (e▸h8)),St.at_new,if_neg (by omega)]
  ·rintro b (rfl|rfl|rfl)
   ·exact .inl h2
   ·exact .inl h8
   ·exact .inr (by omega)
end
end Go.Proofs.Tryz
namespace Go.Proofs.Tryz
open Go.Cs
open Go.RowKit (Below)
set_option maxRecDepth 100000
attribute [local irreducible] QC WLoop WScope
def Uniq(P:List Pl):Prop:=∀ (j k:Nat) (x:ByteArray) (v w:V3),P[j]?=some (some (x,v))→P[k]?=some (some (x,w))→j=k
theorem KP.uniq{kv:List (ByteArray×Nat)}{P:List Pl}(h:KP kv P):Uniq P:=fun j k x v w a b=>h.one ((h.mem x j).2 ⟨v,a⟩) ((h.mem x k).2 ⟨w,b⟩)
theorem mem_props{P:List Pl}{x:ByteArray}:x∈(props P).map (·.1)↔∃ (j:Nat) (v:V3),P[j]?=some (some (x,v)):=by
 unfold props
 rw[List.mem_map]
 constructor
 ·rintro⟨⟨y,v⟩,hm,rfl⟩
  obtain⟨p,hp,e⟩:=List.mem_filterMap.1 hm
  simp only[id]at e
  subst e
  obtain⟨j,hj⟩:=List.getElem?_of_mem hp
  exact⟨j,v,hj⟩
 ·rintro⟨j,v,hj⟩
  exact⟨(x,v),List.mem_filterMap.2 ⟨some (x,v),List.mem_of_getElem? hj,rfl⟩,rfl⟩
theorem uniq_tail{p:Pl}{P:List Pl}(h:Uniq (p::P)):Uniq P:=fun j k x v w a b=>by
 have:=h (j+1) (k+1) x v w (by simpa using a) (by simpa using b)
 omega
theorem nodup_props:∀ {P:List Pl},Uniq P→((props P).map (·.1)).Nodup:=by
 intro P
 induction P with
 |nil=>intro _;exact List.nodup_nil
 |cons p P ih =>
  intro h
  cases p with
  |none=>exact ih (uniq_tail h)
  |some q =>
   obtain⟨x,v⟩:=q
   show (x::(props P).map (·.1)).Nodup
   rw[List.nodup_cons]
   refine⟨fun hm=>?_,ih (uniq_tail h)⟩
   obtain⟨j,w,hj⟩:=mem_props.1 hm
   have:=h 0 (j+1) x v w rfl (by simpa using hj)
   omega
theorem KP.len{kv:List (ByteArray×Nat)}{P:List Pl}(h:KP kv P):kv.length=(props P).length:=by
 have hp:(kv.map (·.1)).Perm ((props P).map (·.1)):=by
  rw[List.perm_ext_iff_of_nodup h.nodup (nodup_props h.uniq)]
  intro x
  rw[mem_props,List.mem_map]
  constructor
  ·rintro⟨⟨y,j⟩,hm,rfl⟩
   obtain⟨v,hv⟩:=(h.mem y j).1 hm
   exact⟨j,v,hv⟩
  ·rintro⟨j,v,hv⟩
   exact⟨(x,j),(h.mem x j).2 ⟨v,hv⟩,rfl⟩
 have:=hp.length_eq
 simpa using this
theorem zp5(P:List Pl)(j:Nat)(p:Pl)(junk:List Value)(h:P[j]?=some p):j*5+5≤(plsCells P++junk).length∧List.take 5 (List.drop (j*5) (plsCells P++junk))=plCells p:=by
 have hlt:=(List.getElem?_eq_some_iff.1 h).1
 have hl:=plsCells_len P
 refine⟨by rw[List.length_append];omega,?_⟩
 apply List.ext_getElem?
 intro i
 rw[List.getElem?_take]
 by_cases hi:i<5
 ·rw[if_pos hi,List.getElem?_drop,List.getElem?_append_left (by omega),plsCells_get P j i p h hi]
 ·rw[if_neg hi,List.getElem?_eq_none (by rw[plCells_len];omega)]
section
variable {M:Type}[Mem M]{w0:World}{s:St M}{R:Value→St M→Prop}
theorem dlen_spec{lo p:Nat}{L:List (ByteArray×V3)}{N:Nat}{O:Nat→Prop}(hD:DictAt lo s p L N O)(h:R (.int .i64 (L.length:Int)) s):QC Tryz.prog w0 144 #[.pointer (some ⟨p,0,none⟩)] s R:=by
 refine wfun2 hmix ok144 func144 rfl ntmps144 results144 (by simp) ?_
 obtain⟨h1,h2,P,m,sl,es,clock,kv,h3,hPN,h4,h5,h6,h7,h8,h9,h10,h11⟩:=hD
 have hl:es.length=L.length:=by rw[h6.1,h7.len,h3]
 have hlen1:clen (some (.map 9 3)) (some (.map (some m)))=none:=rfl
 have hlen2:clenM s (some (.map 9 3)) (some (.map (some m)))=some (.int .i64 (L.length:Int)):=by simp only[clenM,h5,hl]
 simp -implicitDefEqProofs only[↓Zd,(Zp),simprocAttr,co120]
 refine ddead_spec h4 ?_
 simp -implicitDefEqProofs only[↓Zd,(Zp),simprocAttr,cld2,underlying4,underlying172,h4,hlen1,hlen2,fa191x0,ag172]
 exact h
def keyV(L:List (ByteArray×V3))(i:Int):Value:=if 0≤i∧i<L.length then .tuple #[.string (L.getD i.toNat (⟨#[]⟩,0,0,⟨#[]⟩)).1,.bool true] else .tuple #[.string ⟨#[]⟩,.bool false]
set_option maxHeartbeats 4000000 in
theorem dkey_spec{lo p:Nat}{L:List (ByteArray×V3)}{N:Nat}{i:Int}{O:Nat→Prop}(hD:DictAt lo s p L N O)(hN:N≤1000000)(hi : -9223372036854775808≤i∧i≤9223372036854775807)(h:∀ s',s.le s'→R (keyV L i) s'):QC Tryz.prog w0 150 #[.pointer (some ⟨p,0,none⟩),.int .i64 i] s R:=by
 refine wfun2 hmix ok150 func150 rfl ntmps150 results150 (by simp) ?_
 obtain⟨h1,h2,P,m,sl,es,clock,kv,h3,hPN,h4,h5,h6,h7,h8,h9,h10,h11⟩:=hD
 have hl:es.length=L.length:=by rw[h6.1,h7.len,h3]
 have hlen1:clen (some (.map 9 3)) (some (.map (some m)))=none:=rfl
 have hlen2:clenM s (some (.map 9 3)) (some (.map (some m)))=some (.int .i64 (L.length:Int)):=by simp only[clenM,h5,hl]
 simp -implicitDefEqProofs only[↓Zd,(Zp),simprocAttr,co120]
 refine ddead_spec h4 ?_
 by_cases hneg:i<0
 ·simp -implicitDefEqProofs only[↓Zd,(Zp),simprocAttr,underlying4,hneg]
  have:=h s (lR _)
  unfold keyV at this
  rw[if_neg (by omega)]at this
  exact this
 by_cases hbig:(L.length:Int)≤i
 ·simp -implicitDefEqProofs only[↓Zd,(Zp),simprocAttr,cld2,underlying4,underlying172,h4,hlen1,hlen2,hneg,hbig,fa191x0,ag172]
  have:=h s (lR _)
  unfold keyV at this
  rw[if_neg (by omega)]at this
  exact this
 obtain⟨i',rfl⟩:∃ i':Nat,i=(i':Int):=⟨i.toNat,by omega⟩
 have hi':i' < L.length:=by omega
 rcases h10 with ⟨e0,_⟩|⟨b,junk,rfl,hb,hlb⟩
 ·have:P=[]:=List.eq_nil_of_length_eq_zero e0
  subst this
  subst h3
  simp[props]at hi'
 have hbO:=h1 b (h11 _ _ _ rfl).1
 simp -implicitDefEqProofs only[↓Zd,(Zp),simprocAttr,cld2,underlying4,underlying172,underlying189,h4,hlen1,hlen2,hneg,hbig,fa191x0,fa191x1,ag172,ag189]
 refine wloop_fix hmix [29,30,31,7,32,33,34,35,36,37,38,4,5,39,40,1,41,28] (fun fuel env s'=>∃ q r:Nat,fuel=P.length - q∧env 28 = .int .i64 (q:Int)∧env 1 = .int .i64 (r:Int)∧(props (P.drop q))[r]?=L[i']?∧s.le s') (P.length - 0) ?_ ?_
 ·exact⟨0,i',rfl,rfl,rfl,by rw[List.drop_zero,h3],lR _⟩
 ·rintro fuel env s' hF ⟨q,r,rfl,e28,e1,hq,hs⟩
  have hsn:=hs.1
  have e26:env 26 = .slice (some ⟨b,0,none⟩) P.length UNK:=by rw[hF 26 rfl];rfl
  have e27:env 27 = .int .i64 (P.length:Int):=by rw[hF 27 rfl];rfl
  have hlt:q<P.length:=by
   rcases Nat.lt_or_ge q P.length with h'|h'
   ·exact h'
   ·rw[List.drop_eq_nil_of_le h']at hq
    simp[props]at hq
    omega
  have hlt':(q:Int)<(P.length:Int):=by omega
  have hge:(0:Int)≤(q:Int):=by omega
  have hb':s'.at' b=some (.cells (plsCells P++junk) 209 true):=by rw[hs.2 b hbO.2];exact hb
  have w1:IntKind.i64.wrap ((q:Int)+1)=((q+1:Nat):Int):=by rw[wrap_i64 (by omega)];omega
  rw[List.drop_eq_getElem_cons hlt]at hq
  obtain⟨hle5,htk5⟩:=zp5 P q P[q] junk (by simp[hlt])
  cases hp:P[q] with
  |none =>
   rw[hp]at hq htk5
   simp only[plCells]at htk5
   have hq':(props (P.drop (q+1)))[r]?=L[i']?:=hq
   simp -implicitDefEqProofs only[↓Zd,(Zp),simprocAttr,qP,Value.cells,cut,qC,cld2,underlying4,underlying189,underlying209,e1,e26,e27,e28,hlt',hge,hb',hle5,htk5,sz209,ag209,ce209,ze209,fa209x2,ag4,w1]
   refine⟨?_,P.length - (q+1),by omega,q+1,r,rfl,rfl,rfl,hq',(by repeat (first|exact lR _|assumption|refine lN ?_|refine lP ?_ (by first|omega|(simp only[(Sn)];omega))|refine lT ?_ (by assumption)))⟩
   repeat (first|exact hF|refine Fix.upd (by decide) ?_)
  |some u =>
   obtain⟨x,k,n,y⟩:=u
   rw[hp]at hq htk5
   simp only[plCells]at htk5
   have hq':((x,k,n,y)::props (P.drop (q+1)))[r]?=L[i']?:=hq
   cases r with
   |zero =>
    simp -implicitDefEqProofs only[↓Zd,(Zp),simprocAttr,qP,Value.cells,cut,qC,cld2,underlying4,underlying9,underlying189,underlying209,e1,e26,e27,e28,hlt',hge,hb',hle5,htk5,Nat.add_zero,sz209,ag209,ce209,ze209,fa209x0,fa209x2,ag4,ag9]
    have hx:keyV L (i':Int) = .tuple #[.string x,.bool true]:=by
     unfold keyV
     rw[if_pos ⟨by omega,by omega⟩,Int.toNat_natCast,List.getD_eq_getElem?_getD,← hq']
     rfl
    rw[hx]at h
    exact h _ (by repeat (first|exact lR _|assumption|refine lN ?_|refine lP ?_ (by first|omega|(simp only[(Sn)];omega))|refine lT ?_ (by assumption)))
   |succ r =>
    have hr0:¬ ((r+1:Nat):Int)=0:=by omega
    have hrb:r<P.length:=by
     have h9:(props (P.drop (q+1))).length≤(P.drop (q+1)).length:=List.length_filterMap_le id _
     rw[List.length_drop]at h9
     rcases Nat.lt_or_ge r P.length with h'|h'
     ·exact h'
     ·have e9:L[i']?=some L[i']:=by simp[hi']
      rw[List.getElem?_cons_succ,List.getElem?_eq_none (by omega),e9]at hq'
      cases hq'
    have w2:IntKind.i64.wrap (((r+1:Nat):Int) - 1)=(r:Int):=by rw[wrap_i64 (by omega)];omega
    simp -implicitDefEqProofs only[↓Zd,(Zp),simprocAttr,qP,Value.cells,cut,qC,cld2,underlying4,hr0,w2,underlying189,underlying209,e1,e26,e27,e28,hlt',hge,hb',hle5,htk5,sz209,ag209,ce209,ze209,fa209x2,ag4,w1]
    refine⟨?_,P.length - (q+1),by omega,q+1,r,rfl,rfl,rfl,by simpa using hq',(by repeat (first|exact lR _|assumption|refine lN ?_|refine lP ?_ (by first|omega|(simp only[(Sn)];omega))|refine lT ?_ (by assumption)))⟩
    repeat (first|exact hF|refine Fix.upd (by decide) ?_)
end
end Go.Proofs.Tryz
namespace Go.Proofs.Tryz
open Go.Cs
open Go.RowKit (Below)
def pressed(P:List Pl):List Pl:=P.filter Option.isSome
theorem props_pressed(P:List Pl):props (pressed P)=props P:=by
 induction P with
 |nil=>rfl
 |cons p P ih =>
  cases p with
  |none=>exact ih
  |some q =>
   show q::props (pressed P)=q::props P
   rw[ih]
theorem pressed_full{P:List Pl}{j:Nat}{p:Pl}(h:(pressed P)[j]?=some p):∃ q,p=some q:=by
 have:=(List.mem_filter.1 (List.mem_of_getElem? h)).2
 exact Option.isSome_iff_exists.1 this
theorem pressed_uniq:∀ {P:List Pl},Uniq P→Uniq (pressed P):=by
 intro P h j k x v w a b
 have hn:((props (pressed P)).map (·.1)).Nodup:=by rw[props_pressed];exact nodup_props h
 have key:∀ (Q:List Pl),(∀ p∈Q,p.isSome=true)→((props Q).map (·.1)).Nodup→∀ (j k:Nat) (v w:V3),Q[j]?=some (some (x,v))→Q[k]?=some (some (x,w))→j=k:=by
  intro Q
  induction Q with
  |nil=>intro _ _ j k v w a;simp at a
  |cons p Q ih =>
   intro hs hn j k v w a b
   obtain⟨⟨y,u⟩,rfl⟩:=Option.isSome_iff_exists.1 (hs p (by simp))
   have hn':(y::(props Q).map (·.1)).Nodup:=hn
   rw[List.nodup_cons]at hn'
   have mem:∀ (i:Nat) (t:V3),Q[i]?=some (some (x,t))→x∈(props Q).map (·.1):=fun i t h=>mem_props.2 ⟨i,t,h⟩
   cases j with
   |zero =>
    simp at a
    cases k with
    |zero=>rfl
    |succ k=>exact absurd (mem k w (by simpa using b)) (by rw[← a.1];exact hn'.1)
   |succ j =>
    cases k with
    |zero =>
     simp at b
     exact absurd (mem j v (by simpa using a)) (by rw[← b.1];exact hn'.1)
    |succ k=>rw[ih (fun p hp=>hs p (by simp[hp])) hn'.2 j k v w (by simpa using a) (by simpa using b)]
 exact key (pressed P) (fun p hp=>(List.mem_filter.1 hp).2) hn j k v w a b
structure KQ(kv0 kv:List (ByteArray×Nat))(Q:List Pl)(q:Nat):Prop where
 nd:(kv0.map (·.1)).Nodup
 keys:kv.map (·.1)=kv0.map (·.1)
 val:∀ (i:Nat) (x:ByteArray) (j:Nat),kv[i]?=some (x,j)→(j<q∧∃ v,Q[j]?=some (some (x,v)))∨(∀ (k:Nat) (v:V3),k<q→Q[k]?≠some (some (x,v)))
theorem KQ.start{kv0:List (ByteArray×Nat)}(hn:(kv0.map (·.1)).Nodup)(Q:List Pl):KQ kv0 kv0 Q 0:=⟨hn,rfl,fun i x j _ => .inr fun k v hk=>by omega⟩
theorem kvIdx_mem:∀ {kv:List (ByteArray×Nat)}{x:ByteArray},x∈kv.map (·.1)→∃ i j,kvIdx kv x=some (i,j):=by
 intro kv
 induction kv with
 |nil=>intro x h;cases h
 |cons p kv ih =>
  intro x h
  obtain⟨y,j⟩:=p
  unfold kvIdx
  by_cases e:y=x
  ·rw[if_pos e];exact⟨_,_,rfl⟩
  ·rw[if_neg e]
   rcases List.mem_cons.1 h with e2|h
   ·exact absurd e2.symm e
   ·obtain⟨i,j',hij⟩:=ih h
    rw[hij]
    exact⟨_,_,rfl⟩
theorem KQ.apart{kv0 kv:List (ByteArray×Nat)}{Q:List Pl}{q:Nat}(h:KQ kv0 kv Q q){i k:Nat}{x:ByteArray}{a b:Nat}(h1:kv[k]?=some (x,a))(h2:kv[i]?=some (x,b)):k=i:=by
 have hn:(kv.map (·.1)).Nodup:=by rw[h.keys];exact h.nd
 have l1:=(List.getElem?_eq_some_iff.1 h1).1
 have l2:=(List.getElem?_eq_some_iff.1 h2).1
 have e1:(kv.map (·.1))[k]'(by simpa using l1)=(kv.map (·.1))[i]'(by simpa using l2):=by
  simp only[List.getElem_map]
  rw[(List.getElem?_eq_some_iff.1 h1).2,(List.getElem?_eq_some_iff.1 h2).2]
 exact (List.getElem_inj hn).1 e1
theorem KQ.step{kv0 kv:List (ByteArray×Nat)}{Q:List Pl}{q i j0:Nat}{x:ByteArray}{v:V3}(h:KQ kv0 kv Q q)(hQ:Uniq Q)(hq:Q[q]?=some (some (x,v)))(hi:kvIdx kv x=some (i,j0)):KQ kv0 (kv.set i (x,q)) Q (q+1):=by
 have hat:=kvIdx_some hi
 have hlt:=(List.getElem?_eq_some_iff.1 hat).1
 refine⟨h.nd,?_,fun k y j hk=>?_⟩
 ·rw[List.map_set,← h.keys]
  apply List.ext_getElem?
  intro k
  rw[List.getElem?_set]
  split
  ·rename_i e
   subst e
   simp[hlt]
   exact ((Prod.ext_iff.1 (List.getElem?_eq_some_iff.1 hat).2).1).symm
  ·rfl
 ·rw[List.getElem?_set]at hk
  split at hk
  ·rename_i e
   subst e
   simp only[Option.some.injEq,Prod.mk.injEq]at hk
   obtain⟨rfl,rfl⟩:=hk
   exact .inl ⟨by omega,v,hq⟩
  ·rename_i e
   rcases h.val k y j hk with ⟨h1,h2⟩|h1
   ·exact .inl ⟨by omega,h2⟩
   ·by_cases hy:y=x
    ·subst hy
     right
     intro k' v' hk' hc
     by_cases h0:k' < q
     ·exact h1 k' v' h0 hc
     ·have:k'=q:=by omega
      subst this
      exact e (h.apart hk hat).symm
    ·right
     intro k' v' hk' hc
     by_cases h0:k' < q
     ·exact h1 k' v' h0 hc
     ·have:k'=q:=by omega
      subst this
      rw[hq]at hc
      simp at hc
      exact hy hc.1.symm
theorem KQ.done{kv0 kv:List (ByteArray×Nat)}{P:List Pl}(h0:KP kv0 P)(h:KQ kv0 kv (pressed P) (pressed P).length):KP kv (pressed P):=by
 have hU:=pressed_uniq h0.uniq
 refine⟨by rw[h.keys];exact h.nd,fun x j=>?_⟩
 have hnames:∀ x,x∈kv.map (·.1)↔∃ (k:Nat) (v:V3),(pressed P)[k]?=some (some (x,v)):=by
  intro x
  rw[h.keys,← mem_props,props_pressed,mem_props,List.mem_map]
  constructor
  ·rintro⟨⟨y,k⟩,hm,rfl⟩
   obtain⟨v,hv⟩:=(h0.mem y k).1 hm
   exact⟨k,v,hv⟩
  ·rintro⟨k,v,hv⟩
   exact⟨(x,k),(h0.mem x k).2 ⟨v,hv⟩,rfl⟩
 constructor
 ·intro hm
  obtain⟨i,hi⟩:=List.getElem?_of_mem hm
  rcases h.val i x j hi with ⟨_,h2⟩|h2
  ·exact h2
  ·obtain⟨k,v,hv⟩:=(hnames x).1 (List.mem_map_of_mem (f:=(·.1)) hm)
   exact absurd hv (h2 k v (List.getElem?_eq_some_iff.1 hv).1)
 ·rintro⟨v,hv⟩
  obtain⟨⟨y,j'⟩,hm,e⟩:=List.mem_map.1 ((hnames x).2 ⟨j,v,hv⟩)
  simp only at e
  subst e
  obtain⟨i,hi⟩:=List.getElem?_of_mem hm
  rcases h.val i y j' hi with ⟨_,w,hw⟩|h2
  ·have:=hU j' j y w v hw hv
   rw[← this];exact hm
  ·exact absurd hv (h2 j v (List.getElem?_eq_some_iff.1 hv).1)
def delP:List (ByteArray×V3)→ByteArray→List (ByteArray×V3)
 | [],_=>[]
 |(y,w)::L,x=>if y=x then L else (y,w)::delP L x
theorem props_del:∀ (P:List Pl) (j:Nat) (x:ByteArray) (w:V3),P[j]?=some (some (x,w))→(∀ (k:Nat) (u:V3),P[k]?=some (some (x,u))→k=j)→props (P.set j none)=delP (props P) x:=by
 intro P
 induction P with
 |nil=>intro j x w h;simp at h
 |cons p P ih =>
  intro j x w h hu
  cases j with
  |zero =>
   simp at h
   subst h
   show props P=delP ((x,w)::props P) x
   simp[delP]
  |succ j =>
   have ih:=ih j x w (by simpa using h) (fun k u hk=>by have:=hu (k+1) u (by simpa using hk);omega)
   cases p with
   |none=>exact ih
   |some q =>
    obtain⟨y,u⟩:=q
    have hne:¬ y=x:=fun e=>by subst e;have:=hu 0 u rfl;omega
    show (y,u)::props (P.set j none)=delP ((y,u)::props P) x
    simp only[delP,if_neg hne,ih]
end Go.Proofs.Tryz
namespace Go.Proofs.Tryz
open Go.Cs
open Go.RowKit (Below)
set_option maxRecDepth 100000
attribute [local irreducible] QC WLoop WScope
section
variable {M:Type}[Mem M]{w0:World}{s:St M}{R:Value→St M→Prop}
theorem hole_spec{p:Pl}(h:∀ s',s.le s'→R (.bool p.isNone) s'):QC Tryz.prog w0 147 #[.agg (plCells p).toArray] s R:=by
 refine wfun2 hmix ok147 func147 rfl ntmps147 results147 (by simp) ?_
 cases p with
 |none =>
  simp only[plCells]
  simp -implicitDefEqProofs only[↓Zd,(Zp),simprocAttr,qP,Value.cells,cld2,underlying4,is209,fa209x2,ag4]
  exact h _ (by repeat (first|exact lR _|assumption|refine lN ?_|refine lP ?_ (by first|omega|(simp only[(Sn)];omega))|refine lT ?_ (by assumption)))
 |some q =>
  obtain⟨x,k,n,y⟩:=q
  simp only[plCells]
  simp -implicitDefEqProofs only[↓Zd,(Zp),simprocAttr,qP,Value.cells,cld2,underlying4,is209,fa209x2,ag4]
  exact h _ (by repeat (first|exact lR _|assumption|refine lN ?_|refine lP ?_ (by first|omega|(simp only[(Sn)];omega))|refine lT ?_ (by assumption)))
set_option maxHeartbeats 4000000 in
theorem ixf_spec{P:List Pl}{b:Nat}{junk:List Value}(hb:s.at' b=some (.cells (plsCells P++junk) 209 true))(hbn:b<s.next)(hN:P.length≤1000001)
  (h:∀ s' (j:Nat),s.le s'→P[j]?=some none→(∀ k,k<j→P[k]?≠some none)→R (.int .i64 (j:Int)) s')(h':∀ s',s.le s'→(∀ k:Nat,P[k]?≠some none)→R (.int .i64 (-1)) s') :
  QC Tryz.prog w0 155 #[.slice (some ⟨b,0,none⟩) P.length UNK,.func (.func 147) #[] #[]] s R:=by
 refine wfun2 hmix ok155 func155 rfl ntmps155 results155 (by simp) ?_
 simp -implicitDefEqProofs only[↓Zd,(Zp),simprocAttr,underlying189]
 refine wloop_fix hmix [9,10,5,11,12,13,14,15,16,17,4,18,8] (fun fuel env s'=>∃ q:Nat,fuel=P.length - q∧q≤P.length∧env 8 = .int .i64 (q:Int)∧(∀ k:Nat,k<q→P[k]?≠some none)∧s.le s') (P.length - 0) ?_ ?_
 ·exact⟨0,rfl,by omega,rfl,fun k hk=>by omega,lR _⟩
 ·rintro fuel env s' hF ⟨q,rfl,hqP,e8,hno,hs⟩
  have hsn:=hs.1
  have e0:env 0 = .slice (some ⟨b,0,none⟩) P.length UNK:=by rw[hF 0 rfl];rfl
  have e1:env 1 = .func (.func 147) #[] #[]:=by rw[hF 1 rfl];rfl
  have e7:env 7 = .int .i64 (P.length:Int):=by rw[hF 7 rfl];rfl
  by_cases hlt:q<P.length
  ·have hlt':(q:Int)<(P.length:Int):=by omega
   have hge:(0:Int)≤(q:Int):=by omega
   have hb':s'.at' b=some (.cells (plsCells P++junk) 209 true):=by rw[hs.2 b hbn];exact hb
   have w1:IntKind.i64.wrap ((q:Int)+1)=((q+1:Nat):Int):=by rw[wrap_i64 (by omega)];omega
   obtain⟨hle5,htk5⟩:=zp5 P q P[q] junk (by simp[hlt])
   simp -implicitDefEqProofs only[↓Zd,(Zp),simprocAttr,cut,cld2,underlying189,underlying209,e0,e1,e7,e8,hlt',hge,hb',hle5,htk5,sz209,ag209,ce209,calv co147]
   refine hole_spec fun s2 hs2=>?_
   have hs02:s.le s2:=lT hs hs2
   cases hp:P[q] with
   |none =>
    simp -implicitDefEqProofs only[↓Zd,(Zp),simprocAttr,underlying4,Option.isNone_none]
    exact h _ q hs02 (by simp[hlt,hp]) hno
   |some u =>
    simp -implicitDefEqProofs only[↓Zd,(Zp),Zr,simprocAttr,underlying4,Option.isNone_some,w1,e8]
    refine⟨?_,P.length - (q+1),by omega,q+1,rfl,by omega,rfl,fun k hk=>?_,hs02⟩
    ·repeat (first|exact hF|refine Fix.upd (by decide) ?_)
    ·by_cases e:k<q
     ·exact hno k e
     ·have:k=q:=by omega
      subst this
      simp[hlt,hp]
  ·have hlt':¬ (q:Int)<(P.length:Int):=by omega
   simp -implicitDefEqProofs only[↓Zd,(Zp),simprocAttr,e7,e8,hlt']
   refine h' _ hs fun k hk=>?_
   have:=(List.getElem?_eq_some_iff.1 hk).1
   exact hno k (by omega) hk
end
end Go.Proofs.Tryz
namespace Go.Proofs.Tryz
open Go.Cs
open Go.RowKit (Below)
set_option maxRecDepth 100000
attribute [local irreducible] QC WLoop WScope
theorem setCells_eq:∀ (l vs:List Value) (o:Nat),o+l.length≤vs.length→setCells vs o l=vs.take o++l++vs.drop (o+l.length):=by
 intro l
 induction l with
 |nil=>intro vs o h;simp[setCells_nil]
 |cons c l ih =>
  intro vs o h
  simp only[List.length_cons]at h
  rw[setCells_cons,ih _ _ (by rw[List.length_set];omega)]
  apply List.ext_getElem?
  intro i
  have hl:(vs.take o).length=o:=by simp;omega
  have hl2:((vs.set o c).take (o+1)).length=o+1:=by simp;omega
  simp only[List.append_assoc]
  by_cases h1:i<o
  ·rw[List.getElem?_append_left (by omega),List.getElem?_append_left (by omega),List.getElem?_take,List.getElem?_take,if_pos h1,if_pos (by omega),List.getElem?_set_ne (by omega)]
  ·rw[List.getElem?_append_right (l₁:=vs.take o) (by omega),hl]
   by_cases h2:i=o
   ·subst h2
    rw[List.getElem?_append_left (by omega),List.getElem?_take,if_pos (by omega),List.getElem?_set_self (by omega),Nat.sub_self]
    rfl
   ·rw[List.getElem?_append_right (by omega),hl2,show i - o=(i - (o+1))+1 from by omega]
    show (l++List.drop (o+1+l.length) (vs.set o c))[i - (o+1)]?=(l++List.drop (o+(l.length+1)) vs)[i - (o+1)]?
    rw[show o+1+l.length=o+(l.length+1) from by omega]
    by_cases h3:i - (o+1)<l.length
    ·rw[List.getElem?_append_left h3,List.getElem?_append_left h3]
    ·rw[List.getElem?_append_right (by omega),List.getElem?_append_right (by omega),List.getElem?_drop,List.getElem?_drop,List.getElem?_set_ne (by omega)]
section
variable {M:Type}[Mem M]{w0:World}{s:St M}{R:Value→St M→Prop}
theorem cread_sl{P:Program}{ev:Operand→Value}{t e e':TypeId}{ie:TypeInfo}{x:Operand}{lo hi:Option Operand}{b n l h:Nat}{vs:List Value}{own:Bool}(hu:P.underlying t=some (.slice e))(hie:P.info? e=some ie)
  (hx:ev x = .slice (some ⟨b,0,none⟩) n UNK)(hhi:cbound (hi.map ev) n n=some h)(hlo:cbound (lo.map ev) 0 h=some l)(hat:s.at' b=some (.cells vs e' own))(hln:l<n)(hce:P.cellsOf e'=ie.size) :
  cread P ev s (.slice t x lo hi none)=some (.slice (some ((⟨b,0,none⟩:Addr).add (l*ie.size))) (h - l) UNK):=by
 unfold cread
 simp only[hu,hx,hie,hhi,hlo,hat,hln,hce,and_self,if_true]
structure Mid(P:List Pl)(junk C:List Value)(i q:Nat):Prop where
 lt:i<q
 len:C.length=(plsCells P++junk).length
 front:C.take (i*5)=plsCells (pressed (P.take q))
 back:C.drop (q*5)=(plsCells P++junk).drop (q*5)
 num:(pressed (P.take q)).length=i
theorem Mid.next{P:List Pl}{junk C:List Value}{i q:Nat}{u:ByteArray×V3}(h:Mid P junk C i q)(hq:P[q]?=some (some u)):Mid P junk (setCells C (i*5) (plCells (some u))) (i+1) (q+1):=by
 have hlt:=(List.getElem?_eq_some_iff.1 hq).1
 have hP:=plsCells_len P
 have hl:=h.len
 rw[List.length_append]at hl
 have hiq:=h.lt
 have htake:pressed (P.take (q+1))=pressed (P.take q) ++ [some u]:=by
  rw[List.take_add_one,hq]
  unfold pressed
  rw[List.filter_append]
  rfl
 have hlen5:(plCells (some u)).length=5:=plCells_len _
 have hfl:(C.take (i*5)).length=i*5:=by simp;omega
 rw[setCells_eq _ _ _ (by rw[hlen5];omega),hlen5]
 refine⟨by omega,?_,?_,?_,?_⟩
 ·simp only[List.length_append,List.length_take,List.length_drop,hlen5];omega
 ·rw[htake,plsCells_app,← h.front,show (i+1)*5=(C.take (i*5)++plCells (some u)).length from by rw[List.length_append,hfl,hlen5];omega,List.append_assoc,← List.append_assoc,List.take_left']
  rfl
 ·rw[List.drop_append,List.drop_eq_nil_of_le (by rw[List.length_append,hfl,hlen5];omega),List.nil_append,List.drop_drop,List.length_append,hfl,hlen5]
  have:(C.drop (q*5)).drop 5=((plsCells P++junk).drop (q*5)).drop 5:=by rw[h.back]
  rw[List.drop_drop,List.drop_drop]at this
  rw[show i*5+5+((q+1)*5 - (i*5+5))=q*5+5 from by omega,this]
  congr 1;omega
 ·rw[htake,List.length_append,h.num];rfl
theorem Mid.skip{P:List Pl}{junk C:List Value}{i q:Nat}(h:Mid P junk C i q)(hq:P[q]?=some none):Mid P junk C i (q+1):=by
 have htake:pressed (P.take (q+1))=pressed (P.take q):=by
  rw[List.take_add_one,hq]
  unfold pressed
  rw[List.filter_append]
  simp
 refine⟨by have:=h.lt;omega,h.len,by rw[htake];exact h.front,?_,by rw[htake];exact h.num⟩
 have:(C.drop (q*5)).drop 5=((plsCells P++junk).drop (q*5)).drop 5:=by rw[h.back]
 rw[List.drop_drop,List.drop_drop]at this
 rw[show (q+1)*5=q*5+5 from by omega]
 exact this
theorem Mid.start{P:List Pl}{junk:List Value}{j:Nat}(hj:P[j]?=some none)(hno:∀ k:Nat,k<j→P[k]?≠some none):Mid P junk (plsCells P++junk) j (j+1):=by
 have hlt:=(List.getElem?_eq_some_iff.1 hj).1
 have hall:pressed (P.take j)=P.take j:=by
  unfold pressed
  rw[List.filter_eq_self]
  intro p hp
  obtain⟨k,hk⟩:=List.getElem?_of_mem hp
  rw[List.getElem?_take]at hk
  split at hk
  ·cases p with
   |none=>exact absurd hk (hno k (by assumption))
   |some u=>rfl
  ·cases hk
 have htake:pressed (P.take (j+1))=P.take j:=by
  rw[List.take_add_one,hj]
  unfold pressed at hall ⊢
  rw[List.filter_append,hall]
  simp
 have hsplit:plsCells P=plsCells (P.take j)++plsCells (P.drop j):=by
  unfold plsCells
  rw[← List.flatMap_append,List.take_append_drop]
 have hl:(plsCells (P.take j)).length=j*5:=by rw[plsCells_len];simp;omega
 refine⟨by omega,rfl,?_,rfl,by rw[htake];simp;omega⟩
 rw[htake,hsplit,List.append_assoc,← hl,List.take_left']
 rfl
end
end Go.Proofs.Tryz
namespace Go.Proofs.Tryz
open Go.Cs
open Go.RowKit (Below)
set_option maxRecDepth 100000
attribute [local irreducible] QC WLoop WScope
section
variable {M:Type}[Mem M]{w0:World}{s:St M}{R:Value→St M→Prop}
theorem o_clear{P:Program}{d:Option Tmp}{ty:TypeId}{pos:String}{af:Array Edge}{g:Option (Nat×Bool)}{ev:Operand→Value}{K:Value→St M→Prop}{args:Array Operand}{ats:Array TypeId} :
  wop P w0 ⟨d,.call ⟨.builtin .clear,args,ats⟩,ty,pos,af,g⟩ ev s K=wch (ceff P ev s (.call ⟨.builtin .clear,args,ats⟩)) K:=rfl
theorem clear_places{C:List Value}{b i n:Nat}{ev:Operand→Value}{x:Operand}{K:Value→St M→Prop}(hC:s.at' b=some (.cells C 209 true))(hn:0<n)(hl:i*5+n*5≤C.length)(hx:ev x = .slice (some ⟨b,i*5,none⟩) n UNK)
  (h:∀ zs:List Value,zs.length=n*5→K undef (s.put b (.cells (setCells C (i*5) zs) 209 true))):wch (ceff Tryz.prog ev s (.call ⟨.builtin .clear,#[x],#[189]⟩)) K:=by
 obtain⟨z,hz,hzc⟩:∃ z,czero Tryz.prog 209=some z∧z.cells=#[.string ⟨#[]⟩,.int .i64 0,.int .i64 0,.string ⟨#[]⟩,.bool false]:=⟨_,ze209,rfl⟩
 have h5:z.cells.size=5:=by rw[hzc];rfl
 have hlen:(czeros z (n*5)).length=n*5:=by simp[czeros]
 have hok:(czeros z (n*5)).all qC=true:=by
  rw[List.all_eq_true]
  intro v hv
  unfold czeros at hv
  rw[Array.mem_toList_iff,Array.mem_map]at hv
  obtain⟨k,_,rfl⟩:=hv
  have:k % 5<5:=Nat.mod_lt _ (by omega)
  rw[h5,hzc]
  have h5:k % 5=0∨k % 5=1∨k % 5=2∨k % 5=3∨k % 5=4:=by omega
  rcases h5 with e|e|e|e|e<;>rw[e]<;>rfl
 refine⟨undef,_,?_,h _ hlen⟩
 unfold ceff
 simp only[List.getElem?_toArray,List.getElem?_cons_zero,Option.bind_some,Option.map_some,underlying189,hx]
 rw[if_neg (by omega),hz]
 simp only[h5]
 rw[if_neg (by omega)]
 unfold cstoreCells
 simp only[hC]
 rw[if_pos ⟨by rw[hlen];exact hl,hok⟩]
 rfl
set_option maxHeartbeats 8000000 in
theorem delf_spec{P:List Pl}{b:Nat}{junk:List Value}(hb:s.at' b=some (.cells (plsCells P++junk) 209 true))(hbn:b<s.next)(hN:P.length≤1000001)(hhole:∃ j:Nat,P[j]?=some none)
  (h:∀ s' junk',s.next≤s'.next→s'.at' b=some (.cells (plsCells (pressed P)++junk') 209 true)→(∀ c,c<s.next→c≠b→s'.at' c=s.at' c)→R (.slice (some ⟨b,0,none⟩) (pressed P).length UNK) s') :
  QC Tryz.prog w0 146 #[.slice (some ⟨b,0,none⟩) P.length UNK,.func (.func 147) #[] #[]] s R:=by
 refine wfun2 hmix ok146 func146 rfl ntmps146 results146 (by simp) ?_
 simp -implicitDefEqProofs only[↓Zd,(Zp),simprocAttr,co155]
 refine ixf_spec hb hbn hN (fun s1 j hs1 hj hno=>?_) (fun s1 hs1 hno=>?_)
 case refine_2=>obtain⟨j,hj⟩:=hhole;exact absurd hj (hno j)
 have hjlt:=(List.getElem?_eq_some_iff.1 hj).1
 have hj1:¬ (j:Int) = -1:=by omega
 have w0':IntKind.i64.wrap ((j:Int)+1)=((j+1:Nat):Int):=by rw[wrap_i64 (by omega)];omega
 have hs1n:=hs1.1
 simp -implicitDefEqProofs only[↓Zd,(Zp),simprocAttr,underlying3,hj1,w0']
 refine wloop_fix hmix [16,17,18,19,22,23,24,25,7,26,27,28,29,30,31,32,33,34,35,5,20,21,6] (fun fuel env s'=>∃ (i q:Nat) (C:List Value),fuel=P.length - q∧q≤P.length∧env 5 = .int .i64 (i:Int)∧env 6 = .int .i64 (q:Int)∧Mid P junk C i q∧s1.next≤s'.next∧s'.at' b=some (.cells C 209 true)∧∀ c,c<s.next→c≠b→s'.at' c=s.at' c) (P.length - (j+1)) ?_ ?_
 ·exact⟨j,j+1,plsCells P++junk,rfl,by omega,rfl,rfl,.start hj hno,Nat.le_refl _,by rw[hs1.2 b hbn];exact hb,fun c hc _=>hs1.2 c hc⟩
 ·rintro fuel env s' hF ⟨i,q,C,rfl,hqP,e5,e6,hM,hn,hC,hfr⟩
  have e0:env 0 = .slice (some ⟨b,0,none⟩) P.length UNK:=by rw[hF 0 rfl];rfl
  have e1:env 1 = .func (.func 147) #[] #[]:=by rw[hF 1 rfl];rfl
  have hP5:=plsCells_len P
  have hCl:=hM.len
  rw[List.length_append]at hCl
  have hiq:=hM.lt
  have hbs':¬ b=s'.next:=by omega
  by_cases hlt:q<P.length
  ·have hlt':(q:Int)<(P.length:Int):=by omega
   have hge:(0:Int)≤(q:Int):=by omega
   have hilt:(i:Int)<(P.length:Int):=by omega
   have hige:(0:Int)≤(i:Int):=by omega
   have w1:IntKind.i64.wrap ((q:Int)+1)=((q+1:Nat):Int):=by rw[wrap_i64 (by omega)];omega
   have w2:IntKind.i64.wrap ((i:Int)+1)=((i+1:Nat):Int):=by rw[wrap_i64 (by omega)];omega
   have hpq:P[q]?=some P[q]:=by simp[hlt]
   obtain⟨hle5,htk5⟩:=zp5 P q P[q] junk hpq
   rw[← hM.back]at htk5
   have hle5':q*5+5≤C.length:=by omega
   have hle6:i*5+5≤C.length:=by omega
   cases hp:P[q] with
   |none =>
    rw[hp]at htk5 hpq
    simp only[plCells]at htk5
    simp -implicitDefEqProofs only[↓Zd,(Zp),simprocAttr,qP,Value.cells,cut,qC,cld2,underlying189,underlying209,e0,e1,e6,hlt',hge,hC,hle5',htk5,sz209,ag209,ce209,ze209,calv co147]
    refine hole_spec (p:=none) fun s2 hs2=>?_
    have hs2n:=hs2.1
    simp only[(Sn)]at hs2n
    simp -implicitDefEqProofs only[↓Zd,(Zp),Zr,simprocAttr,underlying4,Option.isNone_none,e6,w1]
    refine⟨?_,P.length - (q+1),by omega,i,q+1,C,rfl,by omega,e5,rfl,hM.skip hpq,by omega,?_,fun c hc hcb=>?_⟩
    ·repeat (first|exact hF|refine Fix.upd (by decide) ?_)
    ·rw[hs2.2 b (by simp only[(Sn)];omega),St.at_put,if_neg hbs',St.at_new,if_neg hbs'];exact hC
    ·rw[hs2.2 c (by simp only[(Sn)];omega),St.at_put,if_neg (by omega),St.at_new,if_neg (by omega)];exact hfr c hc hcb
   |some u =>
    rw[hp]at htk5 hpq
    have hMn:=hM.next hpq
    obtain⟨x,k,n,y⟩:=u
    simp only[plCells]at htk5 hMn
    simp -implicitDefEqProofs only[↓Zd,(Zp),simprocAttr,qP,Value.cells,cut,qC,cld2,underlying189,underlying209,e0,e1,e6,hlt',hge,hC,hle5',htk5,sz209,ag209,ce209,ze209,calv co147]
    refine hole_spec (p:=some (x,k,n,y)) fun s2 hs2=>?_
    have hs2n:=hs2.1
    simp only[(Sn)]at hs2n
    have hC2:s2.at' b=some (.cells C 209 true):=by rw[hs2.2 b (by simp only[(Sn)];omega),St.at_put,if_neg hbs',St.at_new,if_neg hbs'];exact hC
    have hV2:s2.at' s'.next=some (.cells [.string x,.int .i64 k,.int .i64 n,.string y,.bool true] 209 true):=by rw[hs2.2 _ (by simp only[(Sn)];omega),St.at_put,if_pos rfl]
    simp -implicitDefEqProofs only[↓Zd,(Zp),Zr,simprocAttr,qP,Value.cells,cut,qC,cld2,underlying4,underlying189,underlying209,Option.isNone_some,e0,e5,e6,w1,w2,hilt,hige,hC2,hV2,hle6,sz209,ag209,ce209]
    refine⟨?_,P.length - (q+1),by omega,i+1,q+1,_,rfl,by omega,rfl,rfl,hMn,?_,?_,fun c hc hcb=>?_⟩
    ·repeat (first|exact hF|refine Fix.upd (by decide) ?_)
    ·omega
    ·rfl
    ·rw[if_neg hcb,hs2.2 c (by simp only[(Sn)];omega),St.at_put,if_neg (by omega),St.at_new,if_neg (by omega)];exact hfr c hc hcb
  ·have hlt':¬ (q:Int)<(P.length:Int):=by omega
   simp -implicitDefEqProofs only[↓Zd,(Zp),simprocAttr,underlying189,e0,e5,e6,hlt']
   obtain⟨ie,hie,hsz,_⟩:=infoPlace
   have hqe:q=P.length:=by omega
   have hce:Tryz.prog.cellsOf 209=ie.size:=by rw[hsz];exact ce209
   refine .inr ⟨_,cread_sl (l:=i) (h:=P.length) underlying189 hie rfl rfl (by show (if 0≤(i:Int)∧(i:Int)≤(P.length:Int) then some (i:Int).toNat else none)=some i;rw[if_pos ⟨by omega,by omega⟩,Int.toNat_natCast]) hC (by omega) hce,?_⟩
   rw[hsz]
   have hadd:(⟨b,0,none⟩:Addr).add (i*5)=⟨b,i*5,none⟩:=by rw[addr_add_mk,Nat.zero_add]
   rw[hadd]
   simp -implicitDefEqProofs only[↓Zd,(Zp),simprocAttr,o_clear]
   refine clear_places hC (by omega) (by have:=plsCells_len P;omega) rfl (fun zs hzl=>?_)
   simp -implicitDefEqProofs only[↓Zd,(Zp),simprocAttr,e0,e5]
   refine .inr ⟨_,cread_sl (l:=0) (h:=i) underlying189 hie rfl (by show (if 0≤(i:Int)∧(i:Int)≤(P.length:Int) then some (i:Int).toNat else none)=some i;rw[if_pos ⟨by omega,by omega⟩,Int.toNat_natCast]) rfl (by rw[St.at_put,if_pos rfl]) (by omega) hce,?_⟩
   rw[Nat.zero_mul,addr_add_mk,Nat.sub_zero]
   simp -implicitDefEqProofs only[↓Zd,(Zp),simprocAttr]
   have hfull:pressed (P.take q)=pressed P:=by rw[hqe,List.take_length]
   have hnum:=hM.num
   have hfront:=hM.front
   rw[hfull]at hnum hfront
   subst hnum
   refine h _ (zs++C.drop ((pressed P).length*5+zs.length)) (by simp only[St.next_put];omega) ?_ (fun c hc hcb=>?_)
   ·rw[St.at_put,if_pos rfl,setCells_eq _ _ _ (by rw[hzl];omega),hfront,List.append_assoc]
   ·rw[St.at_put,if_neg hcb];exact hfr c hc hcb
end
end Go.Proofs.Tryz
namespace Go.Proofs.Tryz
open Go.Cs
open Go.RowKit (Below)
set_option maxRecDepth 100000
attribute [local irreducible] QC WLoop WScope
theorem hole_of_few{P:List Pl}(h:(props P).length<P.length):∃ j:Nat,P[j]?=some none:=by
 induction P with
 |nil=>simp[props]at h
 |cons p P ih =>
  cases p with
  |none=>exact⟨0,rfl⟩
  |some q =>
   have h:(props P).length+1<P.length+1:=h
   obtain⟨j,hj⟩:=ih (by omega)
   exact⟨j+1,by simpa using hj⟩
section
variable {M:Type}[Mem M]{w0:World}{s:St M}{R:Value→St M→Prop}
set_option maxHeartbeats 8000000 in
theorem press_spec{lo p:Nat}{L:List (ByteArray×V3)}{N:Nat}{O:Nat→Prop}(hD:DictAt lo s p L N O)(hN:N≤1000001)
  (h:∀ s',DictAt lo s' p L N O→s.next≤s'.next→(∀ b,b<s.next→¬ O b→s'.at' b=s.at' b)→R (.tuple #[]) s') :
  QC Tryz.prog w0 121 #[.pointer (some ⟨p,0,none⟩)] s R:=by
 refine wfun2 hmix ok121 func121 rfl ntmps121 results121 (by simp) ?_
 have hD0:=hD
 obtain⟨h1,h2,P,m,sl,es,clock,kv,h3,hPN,h4,h5,h6,h7,h8,h9,h10,h11⟩:=hD
 have hp:=(h1 p h2).2
 have hm:=(h1 m h8).2
 have hl:es.length=L.length:=by rw[h6.1,h7.len,h3]
 have hlen1:clen (some (.map 9 3)) (some (.map (some m)))=none:=rfl
 have hlen2:clenM s (some (.map 9 3)) (some (.map (some m)))=some (.int .i64 (L.length:Int)):=by simp only[clenM,h5,hl]
 have hLP:L.length≤P.length:=by rw[← h3];exact List.length_filterMap_le id P
 obtain⟨a0,c0,rfl⟩:∃ a0 c0,sl = .slice a0 P.length c0:=by
  rcases h10 with ⟨e0,_,rfl⟩|⟨b,junk,rfl,_⟩
  ·exact⟨none,0,by rw[e0]⟩
  ·exact⟨_,_,rfl⟩
 have w2:IntKind.i64.wrap (2*(L.length:Int))=((2*L.length:Nat):Int):=by rw[wrap_i64 (by omega)];omega
 by_cases hsmall:(P.length:Int)<8
 ·simp -implicitDefEqProofs only[↓Zd,(Zp),simprocAttr,cld2,underlying189,ord121,h4,hsmall,fa191x1,ag189]
  exact h _ hD0 (Nat.le_refl _) (fun _ _ _=>rfl)
 by_cases hmany:(P.length:Int)<((2*L.length:Nat):Int)
 ·simp -implicitDefEqProofs only[↓Zd,(Zp),simprocAttr,cld2,underlying189,underlying172,ord121,h4,hsmall,hmany,hlen1,hlen2,w2,fa191x0,fa191x1,ag172,ag189]
  exact h _ hD0 (Nat.le_refl _) (fun _ _ _=>rfl)
 simp -implicitDefEqProofs only[↓Zd,(Zp),simprocAttr,cld2,underlying189,underlying172,ord121,h4,hsmall,hmany,hlen1,hlen2,w2,fa191x0,fa191x1,ag172,ag189,co146]
 rcases h10 with ⟨e0,_⟩|⟨b,junk,hsl,hb,hlb⟩
 ·omega
 cases hsl
 have hbO:=h11 _ _ _ rfl
 have hbn:=(h1 b hbO.1).2
 refine delf_spec hb hbn (by omega) (hole_of_few (by rw[h3];omega)) fun s1 junk1 hn1 hb1 hfr1=>?_
 have hpb:¬ p=b:=fun e=>hbO.2.1 e.symm
 have hmb:¬ m=b:=fun e=>hbO.2.2 e.symm
 have hbp:¬ b=p:=hbO.2.1
 have hmp:¬ m=p:=h9
 have hpm:¬ p=m:=fun e=>h9 e.symm
 have hbm:¬ b=m:=hbO.2.2
 have hp1:s1.at' p=some (.cells [.map (some m),.slice (some ⟨b,0,none⟩) P.length UNK] 191 true):=by rw[hfr1 p hp hpb];exact h4
 have hm1:s1.at' m=some (.map es clock):=by rw[hfr1 m hm hmb];exact h5
 have hple:(pressed P).length≤P.length:=List.length_filter_le _ _
 simp -implicitDefEqProofs only[↓Zd,(Zp),simprocAttr,qP,Value.cells,qC,cld2,underlying189,hp1,fa191x1,ag189,sz189]
 refine wloop_fix hmix [38,39,40,41,3,2,42,43,44,45,46,47,48,49,37] (fun fuel env s'=>∃ (q:Nat) (kvq:List (ByteArray×Nat)) (esq:List MapEntry),fuel=(pressed P).length - q∧q≤(pressed P).length∧env 37 = .int .i64 (q:Int)∧KV esq kvq∧KQ kv kvq (pressed P) q∧s'.at' m=some (.map esq clock)∧s1.next≤s'.next ∧
  s'.at' p=some (.cells [.map (some m),.slice (some ⟨b,0,none⟩) (pressed P).length UNK] 191 true)∧s'.at' b=some (.cells (plsCells (pressed P)++junk1) 209 true)∧∀ c,c<s.next→¬ O c→s'.at' c=s.at' c) ((pressed P).length - 0) ?_ ?_
 ·refine⟨0,kv,es,rfl,by omega,rfl,h6,.start h7.nodup _,?_,Nat.le_refl _,?_,?_,fun c hc ho=>?_⟩
  ·simp only[St.at_put,hmp,if_false];exact hm1
  ·simp only[St.at_put,if_true]
  ·simp only[St.at_put,hbp,if_false];exact hb1
  ·rw[St.at_put,if_neg (fun e:c=p=>ho (e▸h2))]
   exact hfr1 c hc (fun e=>ho (e▸hbO.1))
 ·rintro fuel env s' hF ⟨q,kvq,esq,rfl,hqP,e37,hKV,hKQ,hms,hns,hps,hbs,hfr⟩
  have e0:env 0 = .pointer (some ⟨p,0,none⟩):=by rw[hF 0 rfl];rfl
  have e35:env 35 = .slice (some ⟨b,0,none⟩) (pressed P).length UNK:=by rw[hF 35 rfl];rfl
  have e36:env 36 = .int .i64 ((pressed P).length:Int):=by rw[hF 36 rfl];rfl
  have hpn':¬ p=s'.next:=by omega
  have hmn':¬ m=s'.next:=by omega
  have hbn':¬ b=s'.next:=by omega
  by_cases hlt:q<(pressed P).length
  ·have hlt':(q:Int)<((pressed P).length:Int):=by omega
   have hge:(0:Int)≤(q:Int):=by omega
   have w1:IntKind.i64.wrap ((q:Int)+1)=((q+1:Nat):Int):=by rw[wrap_i64 (by omega)];omega
   have hpq:(pressed P)[q]?=some (pressed P)[q]:=by simp[hlt]
   obtain⟨⟨x,k,n,y⟩,hu⟩:=pressed_full hpq
   rw[hu]at hpq
   obtain⟨hle5,htk5⟩:=zp5 (pressed P) q _ junk1 hpq
   simp only[plCells]at htk5
   have hmem:x∈kvq.map (·.1):=by
    rw[hKQ.keys]
    obtain⟨j,v,hj⟩:=mem_props.1 (show x∈(props P).map (·.1) by rw[← props_pressed];exact mem_props.2 ⟨q,_,hpq⟩)
    exact List.mem_map_of_mem (f:=(·.1)) ((h7.mem x j).2 ⟨v,hj⟩)
   obtain⟨i,j0,hi⟩:=kvIdx_mem hmem
   have hcf:=cfind_kv hKV x
   rw[hi]at hcf
   simp -implicitDefEqProofs only[↓Zd,(Zp),simprocAttr,qP,Value.cells,cut,qC,cld2,underlying9,underlying189,underlying209,underlying172,e0,e35,e36,e37,hlt',hge,hbs,hms,hps,hpn',hmn',hbn',hle5,htk5,hcf,Nat.add_zero,sz209,ag209,ce209,ze209,fa191x0,fa209x0,ag172,ag9,w1]
   refine⟨by repeat (first|exact hF|refine Fix.upd (by decide) ?_),(pressed P).length - (q+1),by omega,q+1,kvq.set i (x,q),_,rfl,by omega,rfl,hKV.set (kvIdx_some hi) q,hKQ.step (pressed_uniq h7.uniq) hpq hi,?_,?_,?_,?_,fun c hc ho=>?_⟩
   ·simp only[]
   ·omega
   ·rw[if_neg hpm]
   ·rw[if_neg hbm]
   ·have hcm:¬ c=m:=fun e=>ho (e▸h8)
    have hcn:¬ c=s'.next:=by omega
    simp only[if_neg hcm,if_neg hcn]
    exact hfr c hc ho
  ·have hlt':¬ (q:Int)<((pressed P).length:Int):=by omega
   simp -implicitDefEqProofs only[↓Zd,(Zp),simprocAttr,e36,e37,hlt']
   have hqe:q=(pressed P).length:=by omega
   subst hqe
   refine h _ ⟨fun c hc=>⟨(h1 c hc).1,by have:=(h1 c hc).2;omega⟩,h2,pressed P,m,_,esq,clock,kvq,by rw[props_pressed,h3],by omega,hps,hms,hKV,hKQ.done h7,h8,h9,.inr ⟨b,junk1,rfl,hbs,plsCells_len _⟩,fun q' a c e=>?_⟩ (by omega) hfr
   cases e
   exact hbO
end
end Go.Proofs.Tryz
namespace Go.Proofs.Tryz
open Go.Cs
open Go.RowKit (Below)
set_option maxRecDepth 100000
attribute [local irreducible] QC WLoop WScope
theorem set_hole(P:List Pl)(j:Nat)(junk:List Value)(hj:j<P.length):setCells (plsCells P++junk) (j*5) [.string ⟨#[]⟩,.int .i64 0,.int .i64 0,.string ⟨#[]⟩,.bool false]=plsCells (P.set j none)++junk:=by
 rw[setCells_eq _ _ _ (by rw[List.length_append,plsCells_len];simp only[List.length_cons,List.length_nil];omega)]
 have key:∀ (P:List Pl) (j:Nat),j<P.length→List.take (j*5) (plsCells P++junk)++([.string ⟨#[]⟩,.int .i64 0,.int .i64 0,.string ⟨#[]⟩,.bool false]++List.drop (j*5+5) (plsCells P++junk))=plsCells (P.set j none)++junk:=by
  intro P
  induction P with
  |nil=>intro j h;simp at h
  |cons p P ih =>
   intro j h
   cases j with
   |zero =>
    show List.take (0*5) ((plCells p++plsCells P)++junk)++([.string ⟨#[]⟩,.int .i64 0,.int .i64 0,.string ⟨#[]⟩,.bool false]++List.drop (0*5+5) ((plCells p++plsCells P)++junk))=(plCells none++plsCells P)++junk
    have:0*5+5=(plCells p).length:=by rw[plCells_len]
    rw[this,List.append_assoc,List.drop_left,Nat.zero_mul,List.take_zero]
    rfl
   |succ j =>
    have ih:=ih j (by simpa using h)
    show List.take ((j+1)*5) ((plCells p++plsCells P)++junk)++([.string ⟨#[]⟩,.int .i64 0,.int .i64 0,.string ⟨#[]⟩,.bool false]++List.drop ((j+1)*5+5) ((plCells p++plsCells P)++junk))=(plCells p++plsCells (P.set j none))++junk
    have e1:(j+1)*5=(plCells p).length+j*5:=by rw[plCells_len];omega
    have e2:(j+1)*5+5=(plCells p).length+(j*5+5):=by rw[plCells_len];omega
    rw[e2,e1,List.append_assoc,List.take_length_add_append,List.drop_length_add_append,List.append_assoc,ih,List.append_assoc]
 simpa [List.append_assoc] using key P j hj
section
variable {M:Type}[Mem M]{w0:World}{s:St M}{R:Value→St M→Prop}
theorem o_delete{P:Program}{d:Option Tmp}{ty:TypeId}{pos:String}{af:Array Edge}{g:Option (Nat×Bool)}{ev:Operand→Value}{K:Value→St M→Prop}{x y:Operand}{t t2:TypeId} :
  wop P w0 ⟨d,.call ⟨.builtin .delete,#[x,y],#[t,t2]⟩,ty,pos,af,g⟩ ev s K=wch ((cdelete P t (ev x) (ev y) s).map fun s'=>(undef,s')) K:=rfl
theorem bPlace0:cbuild Tryz.prog 209 #[]=some (.agg #[.string ⟨#[]⟩,.int .i64 0,.int .i64 0,.string ⟨#[]⟩,.bool false]):=by kernel_rfl
theorem wch_some{v:Value}{s':St M}{K:Value→St M→Prop}:wch (some (v,s')) K=K v s':=by
 apply propext
 constructor
 ·rintro⟨v',s'',h1,h2⟩;cases h1;exact h2
 ·intro h;exact⟨v,s',rfl,h⟩
theorem cdel_at{m:Nat}{es:List MapEntry}{clock:Nat}{x:ByteArray}{i:Nat}{u:Value}(hm:s.at' m=some (.map es clock))(hc:cfind Tryz.prog 9 (.string x) es=some (some (i,u))) :
  cdelete Tryz.prog 172 (.map (some m)) (.string x) s=some (s.put m (.map (es.eraseIdx i) clock)):=by
 unfold cdelete
 simp only[underlying172,hm,hc]
set_option maxHeartbeats 4000000 in
theorem ddel_spec{lo p:Nat}{L:List (ByteArray×V3)}{N:Nat}{x:ByteArray}{O:Nat→Prop}(hD:DictAt lo s p L N O)(hN:N≤1000001)
  (h:∀ s',DictAt lo s' p (delP L x) N O→s.next≤s'.next→(∀ b,b<s.next→¬ O b→s'.at' b=s.at' b)→R (.bool (getP L x).isSome) s')(hx:(getP L x).isSome=true) :
  QC Tryz.prog w0 68 #[.pointer (some ⟨p,0,none⟩),.string x] s R:=by
 refine wfun2 hmix ok68 func68 rfl ntmps68 results68 (by simp) ?_
 obtain⟨h1,h2,P,m,sl,es,clock,kv,h3,hPN,h4,h5,h6,h7,h8,h9,h10,h11⟩:=hD
 have hp:=(h1 p h2).2
 have hm:=(h1 m h8).2
 simp -implicitDefEqProofs only[↓Zd,(Zp),simprocAttr,co120]
 refine ddead_spec (m:=m) (sl:=sl) h4 ?_
 subst h3
 have hcf:=cfind_kv h6 x
 have hg:=get_props h7 x
 cases hi:kvIdx kv x with
 |none =>
  rw[hi]at hg
  rw[hg]at hx
  simp at hx
 |some ij =>
  obtain⟨i,j⟩:=ij
  obtain⟨v0,hv⟩:=h7.idx hi
  rw[hi]at hcf
  have hlt:=(List.getElem?_eq_some_iff.1 hv).1
  rcases h10 with ⟨e0,_⟩|⟨b,junk,rfl,hb,hl⟩
  ·omega
  have hbO:=h11 _ _ _ rfl
  have hbn:=(h1 b hbO.1).2
  have hlt':(j:Int)<(P.length:Int):=by omega
  have hge:(0:Int)≤(j:Int):=by omega
  have hle:j*5+5≤(plsCells P++junk).length:=by rw[List.length_append,plsCells_len];omega
  have hset:=set_hole P j junk hlt
  have hpm:¬ p=m:=fun e=>h9 e.symm
  have hpb:¬ p=b:=fun e=>hbO.2.1 e.symm
  have hmb:¬ m=b:=fun e=>hbO.2.2 e.symm
  have hbm:¬ b=m:=hbO.2.2
  have hcd:=cdel_at h5 hcf
  simp -implicitDefEqProofs only[↓Zd,(Zp),simprocAttr,qP,Value.cells,qC,cld2,underlying4,underlying172,underlying192,underlying189,h4,h5,hcf,o_delete,hcd,hpm,hbm,bPlace0,fa191x0,fa191x1,ag172,ag189,sz209,hlt',hge,hb,hle,hset,ze3,co121]
  refine press_spec (lo:=lo) (N:=N) (L:=delP (props P) x) (O:=O) ⟨fun c hc=>⟨(h1 c hc).1,(h1 c hc).2⟩,h2,P.set j none,m,.slice (some ⟨b,0,none⟩) P.length UNK,_,clock,kv.eraseIdx i,?_,?_,?_,?_,h6.erase i,h7.del hi,h8,h9,.inr ⟨b,junk,?_,?_,plsCells_len _⟩,h11⟩ hN ?_
  ·exact props_del P j x v0 hv fun k u hu=>h7.one ((h7.mem x k).2 ⟨u,hu⟩) ((h7.mem x j).2 ⟨v0,hv⟩)
  ·rw[List.length_set];exact hPN
  ·rw[St.at_put,if_neg hpb,St.at_put,if_neg hpm];exact h4
  ·rw[St.at_put,if_neg hmb,St.at_put,if_pos rfl]
  ·rw[List.length_set]
  ·rw[St.at_put,if_pos rfl]
  ·intro s' hD' hn' hfr'
   simp -implicitDefEqProofs only[↓Zd,(Zp),simprocAttr,underlying0]
   rw[hx]at h
   refine h s' hD' (by simpa using hn') fun c hc ho=>?_
   rw[hfr' c (by simpa using hc) ho,St.at_put,if_neg (fun e:c=b=>ho (e▸hbO.1)),St.at_put,if_neg (fun e:c=m=>ho (e▸h8))]
end
end Go.Proofs.Tryz
end
