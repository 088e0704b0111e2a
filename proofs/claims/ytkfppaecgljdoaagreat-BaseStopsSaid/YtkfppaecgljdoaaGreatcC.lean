/- Lemmas, laid one behind the other by squeeze2.py. -/
import Derived.Test.YtkfppaecgljdoaaGreatcB
import Derived.Test.YtkfppaecgljdoaaGreatChecked
import Derived.SliceStrings
import Derived.Carry
import Derived.ChangeMaps5
import Derived.ChangeSame
set_option linter.unusedSimpArgs false
set_option linter.unusedVariables false
set_option linter.unusedSectionVars false
set_option linter.defProp false
section
namespace Go.Cs
section
variable {M:Type}[Mem M]{P:Program}{w0:World}{s:St M}{ev:Operand→Value}{d:Option Tmp}{ty t xt:TypeId}{pos:String}{af:Array Edge}{g:Option (Nat×Bool)}{x:Operand}{K:Value→St M→Prop}{F:Value→St M→Option Value→Prop}
theorem o_assert{ok:Bool}:wop P w0 ⟨d,.typeAssert x xt t ok,ty,pos,af,g⟩ ev s K=must (cassert P (ev x) t ok) fun v=>K v s:=rfl
theorem f_assert{ok:Bool}:wfop P ⟨d,.typeAssert x xt t ok,ty,pos,af,g⟩ ev s F=must (cassert P (ev x) t ok) fun v=>F v s none:=rfl
def cmkI(P:Program)(t:TypeId)(v:Value):Option Value:=match P.underlying t with
  |some (.interface _)=>none
  |some _=>some (.iface t v)
  |none=>none
theorem o_mkIface:wop P w0 ⟨d,.makeInterface t x,ty,pos,af,g⟩ ev s K=must (cmkI P t (ev x)) fun v=>K v s:=rfl
theorem f_mkIface:wfop P ⟨d,.makeInterface t x,ty,pos,af,g⟩ ev s F=must (cmkI P t (ev x)) fun v=>F v s none:=rfl
theorem mkI_p{t e:TypeId}{v:Value}(h:P.underlying t=some (.pointer e)):cmkI P t v=some (.iface t v):=by unfold cmkI;rw[h]
theorem mkI_s{t:TypeId}{fs:Array Field}{v:Value}(h:P.underlying t=some (.struct fs)):cmkI P t v=some (.iface t v):=by unfold cmkI;rw[h]
theorem o_min{args:Array Operand}{ats:Array TypeId}:wop P w0 ⟨d,.call ⟨.builtin .min,args,ats⟩,ty,pos,af,g⟩ ev s K=must (cbuiltin P .min ats ty (args.map ev)) fun v=>K v s:=rfl
theorem o_max{args:Array Operand}{ats:Array TypeId}:wop P w0 ⟨d,.call ⟨.builtin .max,args,ats⟩,ty,pos,af,g⟩ ev s K=must (cbuiltin P .max ats ty (args.map ev)) fun v=>K v s:=rfl
theorem bi_min{ats:Array TypeId}{ty:TypeId}{k k2:IntKind}{a b:Int}:cbuiltin P .min ats ty #[.int k a,.int k2 b]=some (.int k (if b<a then b else a)):=rfl
theorem bi_max{ats:Array TypeId}{ty:TypeId}{k k2:IntKind}{a b:Int}:cbuiltin P .max ats ty #[.int k a,.int k2 b]=some (.int k (if b>a then b else a)):=rfl
end
end Go.Cs
end
section
namespace Go.Cs
def decL(n:Nat):List UInt8:=if n<10 then [UInt8.ofNat (48+n)] else decL (n / 10) ++ [UInt8.ofNat (48+n % 10)]
termination_by n
decreasing_by omega
theorem decL_lt{n:Nat}(h:n<10):decL n=[UInt8.ofNat (48+n)]:=by rw[decL,if_pos h]
theorem decL_ge{n:Nat}(h:10≤n):decL n=decL (n / 10) ++ [UInt8.ofNat (48+n % 10)]:=by rw[decL,if_neg (by omega)]
def digL(n:Int):List UInt8:=if n<0 then 45::decL n.natAbs else decL n.natAbs
def digS(n:Int):ByteArray:=⟨(digL n).toArray⟩
theorem drop_set_self{vs:List Value}{o:Nat}{v:Value}(h:o<vs.length):(vs.set o v).drop o=v::vs.drop (o+1):=by
 rw[List.drop_eq_getElem_cons (by simpa using h)]
 simp[List.drop_set]
end Go.Cs
end
namespace Go.Proofs.Tryz
open Go.Cs
open Go.RowKit (Below)
set_option maxRecDepth 100000
attribute [local irreducible] QC WLoop WScope CRound WRange
set_option maxHeartbeats 32000000
variable {M:Type}[Mem M]{w0:World}{s:St M}{R:Value→St M→Prop}
theorem hmix:prog.follows .mixedOrders=true:=by kernel_rfl
def ord4:Ord:=[(3,[⟨0,false,[]⟩,⟨1,false,[]⟩,⟨2,false,[]⟩,⟨3,false,[]⟩,⟨4,false,[]⟩,⟨5,false,[]⟩,⟨6,false,[]⟩,⟨8,false,[]⟩,⟨9,false,[]⟩,⟨10,false,[]⟩,⟨12,false,[]⟩,⟨13,false,[]⟩,⟨15,false,[]⟩,⟨7,true,[15,13,12,10,9,8,3,2,1,0]⟩,⟨11,true,[15,13,12,3,2,1,0]⟩,⟨14,false,[]⟩,⟨16,true,[]⟩]),(10,[⟨0,false,[]⟩,⟨1,false,[]⟩,⟨2,false,[]⟩,⟨3,false,[]⟩,⟨4,false,[]⟩,⟨5,false,[]⟩,⟨6,false,[]⟩,⟨7,false,[]⟩,⟨8,false,[]⟩,⟨9,false,[]⟩,⟨10,false,[]⟩,⟨11,false,[]⟩,⟨12,false,[]⟩,⟨13,false,[]⟩,⟨14,false,[]⟩,⟨15,false,[]⟩,⟨16,false,[]⟩,⟨17,false,[]⟩,⟨18,false,[]⟩,⟨19,false,[]⟩,⟨20,false,[]⟩,⟨21,false,[]⟩,⟨22,false,[]⟩,⟨23,false,[]⟩,⟨24,false,[]⟩,⟨25,false,[]⟩,⟨26,false,[]⟩,⟨27,false,[]⟩,⟨28,false,[]⟩,⟨29,false,[]⟩,⟨30,false,[]⟩,⟨31,false,[]⟩,⟨32,false,[]⟩,⟨33,false,[]⟩,⟨34,false,[]⟩,⟨35,true,[]⟩]),(14,[⟨0,false,[]⟩,⟨1,false,[]⟩,⟨2,false,[]⟩,⟨3,false,[]⟩,⟨4,false,[]⟩,⟨5,false,[]⟩,⟨6,false,[]⟩,⟨7,false,[]⟩,⟨8,false,[]⟩,⟨9,false,[]⟩,⟨10,false,[]⟩,⟨11,false,[]⟩,⟨12,true,[]⟩]),(18,[⟨0,false,[]⟩,⟨1,false,[]⟩,⟨2,false,[]⟩,⟨3,false,[]⟩,⟨4,true,[2,1,0]⟩,⟨5,false,[]⟩,⟨6,false,[]⟩,⟨7,false,[]⟩,⟨8,false,[]⟩,⟨9,false,[]⟩,⟨10,false,[]⟩,⟨11,false,[]⟩,⟨12,false,[]⟩,⟨13,false,[]⟩,⟨14,false,[]⟩,⟨15,false,[]⟩,⟨16,false,[]⟩,⟨17,false,[]⟩,⟨18,false,[]⟩,⟨19,true,[]⟩,⟨20,false,[]⟩,⟨21,true,[]⟩])]
theorem ok4:qF prog 4 ord4=true:=by kernel_rfl
def ord5:Ord:=[(2,[⟨0,false,[]⟩,⟨1,false,[]⟩,⟨3,false,[]⟩,⟨4,false,[]⟩,⟨5,false,[]⟩,⟨8,false,[]⟩,⟨2,true,[8,5,4,3]⟩,⟨6,true,[8,4,3]⟩,⟨7,false,[]⟩,⟨9,true,[7,4,3]⟩,⟨10,false,[]⟩,⟨11,false,[]⟩,⟨12,true,[]⟩])]
theorem ok5:qF prog 5 ord5=true:=by kernel_rfl
def co5:=qO ok5
def ord10:Ord:=[]
theorem ok10:qF prog 10 ord10=true:=by kernel_rfl
def co10:=qO ok10
def ord13:Ord:=[]
theorem ok13:qF prog 13 ord13=true:=by kernel_rfl
def co13:=qO ok13
def ord14:Ord:=[(3,[⟨0,false,[]⟩,⟨1,false,[]⟩,⟨2,false,[]⟩,⟨3,false,[]⟩,⟨4,false,[]⟩,⟨5,false,[]⟩,⟨6,false,[]⟩,⟨7,false,[]⟩,⟨8,false,[]⟩,⟨9,false,[]⟩,⟨10,false,[]⟩,⟨11,false,[]⟩,⟨12,false,[]⟩,⟨13,true,[]⟩,⟨14,true,[]⟩,⟨15,true,[]⟩])]
theorem ok14:qF prog 14 ord14=true:=by kernel_rfl
def co14:=qO ok14
def ord15:Ord:=[(3,[⟨0,false,[]⟩,⟨1,false,[]⟩,⟨2,false,[]⟩,⟨3,false,[]⟩,⟨4,false,[]⟩,⟨5,false,[]⟩,⟨6,false,[]⟩,⟨7,false,[]⟩,⟨8,false,[]⟩,⟨9,true,[0]⟩,⟨10,false,[]⟩,⟨11,false,[]⟩,⟨12,true,[]⟩,⟨13,false,[]⟩,⟨14,false,[]⟩,⟨15,true,[]⟩,⟨16,true,[]⟩])]
theorem ok15:qF prog 15 ord15=true:=by kernel_rfl
def co15:=qO ok15
def ord16:Ord:=[(10,[⟨0,false,[]⟩,⟨1,false,[]⟩,⟨2,false,[]⟩,⟨3,false,[]⟩,⟨4,false,[]⟩,⟨5,false,[]⟩,⟨6,false,[]⟩,⟨7,false,[]⟩,⟨8,false,[]⟩,⟨9,true,[0]⟩,⟨10,false,[]⟩,⟨11,false,[]⟩,⟨12,true,[]⟩,⟨13,false,[]⟩,⟨14,false,[]⟩,⟨15,true,[]⟩,⟨16,true,[]⟩])]
theorem ok16:qF prog 16 ord16=true:=by kernel_rfl
def co16:=qO ok16
def ord18:Ord:=[(3,[⟨0,false,[]⟩,⟨1,false,[]⟩,⟨2,false,[]⟩,⟨3,false,[]⟩,⟨4,false,[]⟩,⟨5,true,[3,2,1,0]⟩,⟨6,false,[]⟩,⟨7,true,[]⟩]),(5,[⟨0,false,[]⟩,⟨1,false,[]⟩,⟨2,false,[]⟩,⟨3,false,[]⟩,⟨4,false,[]⟩,⟨5,false,[]⟩,⟨6,false,[]⟩,⟨7,true,[]⟩])]
theorem ok18:qF prog 18 ord18=true:=by kernel_rfl
def co18:=qO ok18
def ord19:Ord:=[]
theorem ok19:qF prog 19 ord19=true:=by kernel_rfl
def co19:=qO ok19
def ord20:Ord:=[]
theorem ok20:qF prog 20 ord20=true:=by kernel_rfl
def co20:=qO ok20
def ord21:Ord:=[]
theorem ok21:qF prog 21 ord21=true:=by kernel_rfl
def co21:=qO ok21
def ord22:Ord:=[(3,[⟨0,false,[]⟩,⟨1,false,[]⟩,⟨2,false,[]⟩,⟨3,false,[]⟩,⟨4,false,[]⟩,⟨5,false,[]⟩,⟨6,true,[4,3,2,1,0]⟩,⟨7,false,[]⟩,⟨8,true,[0]⟩,⟨9,false,[]⟩,⟨10,false,[]⟩,⟨11,true,[]⟩])]
theorem ok22:qF prog 22 ord22=true:=by kernel_rfl
def co22:=qO ok22
def ord23:Ord:=[(3,[⟨0,false,[]⟩,⟨1,false,[]⟩,⟨2,false,[]⟩,⟨3,false,[]⟩,⟨4,false,[]⟩,⟨5,false,[]⟩,⟨6,false,[]⟩,⟨7,true,[]⟩])]
theorem ok23:qF prog 23 ord23=true:=by kernel_rfl
def co23:=qO ok23
def ord25:Ord:=[]
theorem ok25:qF prog 25 ord25=true:=by kernel_rfl
def co25:=qO ok25
def ord26:Ord:=[]
theorem ok26:qF prog 26 ord26=true:=by kernel_rfl
def co26:=qO ok26
def ord27:Ord:=[]
theorem ok27:qF prog 27 ord27=true:=by kernel_rfl
def co27:=qO ok27
def ord28:Ord:=[]
theorem ok28:qF prog 28 ord28=true:=by kernel_rfl
def co28:=qO ok28
def ord29:Ord:=[]
theorem ok29:qF prog 29 ord29=true:=by kernel_rfl
def co29:=qO ok29
def ord30:Ord:=[(6,[⟨0,false,[]⟩,⟨1,false,[]⟩,⟨2,false,[]⟩,⟨3,false,[]⟩,⟨4,false,[]⟩,⟨5,false,[]⟩,⟨6,false,[]⟩,⟨7,false,[]⟩,⟨8,false,[]⟩,⟨9,false,[]⟩,⟨10,false,[]⟩,⟨11,false,[]⟩,⟨12,false,[]⟩,⟨13,false,[]⟩,⟨14,false,[]⟩,⟨15,false,[]⟩,⟨16,false,[]⟩,⟨17,false,[]⟩,⟨18,false,[]⟩,⟨19,false,[]⟩,⟨20,true,[19,18,17,16,15,14,13,12,11,10,9,8,7,6,5,4]⟩,⟨21,true,[]⟩]),(17,[⟨0,false,[]⟩,⟨1,false,[]⟩,⟨2,false,[]⟩,⟨3,false,[]⟩,⟨4,false,[]⟩,⟨5,true,[2,1,0]⟩,⟨6,false,[]⟩,⟨7,true,[]⟩]),(20,[⟨0,false,[]⟩,⟨1,false,[]⟩,⟨2,false,[]⟩,⟨3,false,[]⟩,⟨4,false,[]⟩,⟨5,false,[]⟩,⟨6,false,[]⟩,⟨7,false,[]⟩,⟨8,true,[5,4,3,2,1,0]⟩,⟨9,false,[]⟩,⟨10,true,[]⟩])]
theorem ok30:qF prog 30 ord30=true:=by kernel_rfl
def co30:=qO ok30
def ord31:Ord:=[(6,[⟨0,false,[]⟩,⟨1,false,[]⟩,⟨2,false,[]⟩,⟨3,false,[]⟩,⟨4,false,[]⟩,⟨5,false,[]⟩,⟨6,false,[]⟩,⟨7,false,[]⟩,⟨8,true,[]⟩,⟨9,false,[]⟩])]
theorem ok31:qF prog 31 ord31=true:=by kernel_rfl
def co31:=qO ok31
def ord32:Ord:=[]
theorem ok32:qF prog 32 ord32=true:=by kernel_rfl
def co32:=qO ok32
def ord33:Ord:=[(1,[⟨0,false,[]⟩,⟨1,false,[]⟩,⟨3,false,[]⟩,⟨4,false,[]⟩,⟨6,false,[]⟩,⟨7,false,[]⟩,⟨9,false,[]⟩,⟨10,false,[]⟩,⟨2,true,[10,9,7,6,4,3]⟩,⟨5,true,[10,9,7,6]⟩,⟨8,true,[10,9]⟩,⟨11,true,[]⟩,⟨12,false,[]⟩,⟨13,true,[]⟩])]
theorem ok33:qF prog 33 ord33=true:=by kernel_rfl
def co33:=qO ok33
def ord34:Ord:=[(1,[⟨0,false,[]⟩,⟨3,false,[]⟩,⟨4,false,[]⟩,⟨6,false,[]⟩,⟨7,false,[]⟩,⟨1,true,[7,6,4,3]⟩,⟨2,true,[7,6,4,3]⟩,⟨5,true,[7,6]⟩,⟨8,true,[]⟩,⟨9,false,[]⟩,⟨10,false,[]⟩,⟨11,true,[]⟩])]
theorem ok34:qF prog 34 ord34=true:=by kernel_rfl
def co34:=qO ok34
def ord35:Ord:=[]
theorem ok35:qF prog 35 ord35=true:=by kernel_rfl
def co35:=qO ok35
def ord40:Ord:=[]
theorem ok40:qF prog 40 ord40=true:=by kernel_rfl
def co40:=qO ok40
def ord45:Ord:=[(3,[⟨0,false,[]⟩,⟨1,false,[]⟩,⟨2,false,[]⟩,⟨3,false,[]⟩,⟨4,false,[]⟩,⟨5,false,[]⟩,⟨6,false,[]⟩,⟨7,false,[]⟩,⟨8,true,[]⟩,⟨9,true,[]⟩,⟨10,true,[]⟩])]
theorem ok45:qF prog 45 ord45=true:=by kernel_rfl
def co45:=qO ok45
def ord49:Ord:=[]
theorem ok49:qF prog 49 ord49=true:=by kernel_rfl
def co49:=qO ok49
def ord52:Ord:=[(2,[⟨0,false,[]⟩,⟨1,false,[]⟩,⟨2,false,[]⟩,⟨3,false,[]⟩,⟨4,false,[]⟩,⟨5,false,[]⟩,⟨6,false,[]⟩,⟨7,false,[]⟩,⟨8,true,[5,4,2,1]⟩,⟨9,false,[]⟩,⟨10,false,[]⟩,⟨11,true,[5,2]⟩,⟨12,false,[]⟩,⟨13,false,[]⟩,⟨14,true,[]⟩])]
theorem ok52:qF prog 52 ord52=true:=by kernel_rfl
def co52:=qO ok52
def ord58:Ord:=[]
theorem ok58:qF prog 58 ord58=true:=by kernel_rfl
def co58:=qO ok58
def ord61:Ord:=[]
theorem ok61:qF prog 61 ord61=true:=by kernel_rfl
def co61:=qO ok61
def ord62:Ord:=[(3,[⟨0,false,[]⟩,⟨1,false,[]⟩,⟨2,false,[]⟩,⟨3,false,[]⟩,⟨4,false,[]⟩,⟨5,false,[]⟩,⟨6,false,[]⟩,⟨7,false,[]⟩,⟨8,false,[]⟩,⟨9,false,[]⟩,⟨10,true,[]⟩])]
theorem ok62:qF prog 62 ord62=true:=by kernel_rfl
def co62:=qO ok62
def ord63:Ord:=[]
theorem ok63:qF prog 63 ord63=true:=by kernel_rfl
def co63:=qO ok63
def ord64:Ord:=[]
theorem ok64:qF prog 64 ord64=true:=by kernel_rfl
def co64:=qO ok64
def ord65:Ord:=[]
theorem ok65:qF prog 65 ord65=true:=by kernel_rfl
def co65:=qO ok65
def ord66:Ord:=[(1,[⟨0,false,[]⟩,⟨1,false,[]⟩,⟨2,false,[]⟩,⟨3,false,[]⟩,⟨4,false,[]⟩,⟨5,false,[]⟩,⟨6,false,[]⟩,⟨7,false,[]⟩,⟨8,false,[]⟩,⟨9,false,[]⟩,⟨10,false,[]⟩,⟨11,false,[]⟩,⟨12,false,[]⟩,⟨13,false,[]⟩,⟨14,false,[]⟩,⟨15,false,[]⟩,⟨16,true,[15,14,13,12]⟩,⟨17,true,[]⟩])]
theorem ok66:qF prog 66 ord66=true:=by kernel_rfl
def co66:=qO ok66
def ord67:Ord:=[]
theorem ok67:qF prog 67 ord67=true:=by kernel_rfl
def co67:=qO ok67
def ord68:Ord:=[]
theorem ok68:qF prog 68 ord68=true:=by kernel_rfl
def co68:=qO ok68
def ord69:Ord:=[]
theorem ok69:qF prog 69 ord69=true:=by kernel_rfl
def co69:=qO ok69
def ord70:Ord:=[(4,[⟨0,false,[]⟩,⟨1,false,[]⟩,⟨2,false,[]⟩,⟨3,false,[]⟩,⟨4,false,[]⟩,⟨5,true,[]⟩,⟨6,false,[]⟩,⟨7,true,[]⟩]),(6,[⟨0,false,[]⟩,⟨1,false,[]⟩,⟨2,false,[]⟩,⟨3,false,[]⟩,⟨4,false,[]⟩,⟨5,false,[]⟩,⟨6,true,[]⟩,⟨7,false,[]⟩]),(8,[⟨0,false,[]⟩,⟨1,false,[]⟩,⟨2,false,[]⟩,⟨3,false,[]⟩,⟨4,false,[]⟩,⟨5,false,[]⟩,⟨6,false,[]⟩,⟨7,false,[]⟩,⟨8,false,[]⟩,⟨9,true,[]⟩,⟨10,false,[]⟩,⟨11,false,[]⟩,⟨12,false,[]⟩,⟨13,true,[12]⟩,⟨14,true,[]⟩]),(12,[⟨0,false,[]⟩,⟨1,false,[]⟩,⟨2,false,[]⟩,⟨3,false,[]⟩,⟨4,true,[0]⟩,⟨5,true,[]⟩,⟨6,false,[]⟩]),(15,[⟨0,false,[]⟩,⟨1,false,[]⟩,⟨2,false,[]⟩,⟨3,false,[]⟩,⟨4,false,[]⟩,⟨5,false,[]⟩,⟨6,false,[]⟩,⟨7,false,[]⟩,⟨8,false,[]⟩,⟨13,false,[]⟩,⟨9,true,[13]⟩,⟨10,false,[]⟩,⟨11,false,[]⟩,⟨12,false,[]⟩,⟨14,true,[12]⟩,⟨15,true,[]⟩]),(19,[⟨0,false,[]⟩,⟨1,false,[]⟩,⟨2,false,[]⟩,⟨3,false,[]⟩,⟨4,false,[]⟩,⟨5,true,[]⟩,⟨6,true,[]⟩]),(23,[⟨0,false,[]⟩,⟨1,false,[]⟩,⟨2,false,[]⟩,⟨3,false,[]⟩,⟨4,false,[]⟩,⟨5,false,[]⟩,⟨6,false,[]⟩,⟨7,false,[]⟩,⟨8,false,[]⟩,⟨9,false,[]⟩,⟨10,false,[]⟩,⟨11,false,[]⟩,⟨12,false,[]⟩,⟨13,true,[]⟩,⟨14,false,[]⟩,⟨15,false,[]⟩,⟨16,false,[]⟩,⟨17,false,[]⟩,⟨18,false,[]⟩,⟨19,true,[]⟩,⟨20,false,[]⟩,⟨21,false,[]⟩])]
theorem ok70:qF prog 70 ord70=true:=by kernel_rfl
def co70:=qO ok70
def ord71:Ord:=[]
theorem ok71:qF prog 71 ord71=true:=by kernel_rfl
def co71:=qO ok71
def ord72:Ord:=[]
theorem ok72:qF prog 72 ord72=true:=by kernel_rfl
def co72:=qO ok72
def ord73:Ord:=[]
theorem ok73:qF prog 73 ord73=true:=by kernel_rfl
def co73:=qO ok73
def ord74:Ord:=[(1,[⟨0,false,[]⟩,⟨1,false,[]⟩,⟨2,false,[]⟩,⟨3,false,[]⟩,⟨4,false,[]⟩,⟨5,false,[]⟩,⟨6,false,[]⟩,⟨7,false,[]⟩,⟨8,false,[]⟩,⟨9,false,[]⟩,⟨10,false,[]⟩,⟨11,false,[]⟩,⟨12,false,[]⟩,⟨13,false,[]⟩,⟨14,true,[]⟩,⟨15,true,[]⟩])]
theorem ok74:qF prog 74 ord74=true:=by kernel_rfl
def co74:=qO ok74
def ord75:Ord:=[(11,[⟨0,false,[]⟩,⟨1,false,[]⟩,⟨2,false,[]⟩,⟨3,false,[]⟩,⟨4,false,[]⟩,⟨5,false,[]⟩,⟨6,false,[]⟩,⟨7,true,[]⟩,⟨8,true,[]⟩]),(12,[⟨0,false,[]⟩,⟨1,false,[]⟩,⟨2,false,[]⟩,⟨3,false,[]⟩,⟨4,false,[]⟩,⟨5,false,[]⟩,⟨6,false,[]⟩,⟨7,true,[]⟩])]
theorem ok75:qF prog 75 ord75=true:=by kernel_rfl
def co75:=qO ok75
def ord76:Ord:=[]
theorem ok76:qF prog 76 ord76=true:=by kernel_rfl
def co76:=qO ok76
def ord77:Ord:=[(1,[⟨0,false,[]⟩,⟨1,false,[]⟩,⟨2,false,[]⟩,⟨3,false,[]⟩,⟨4,false,[]⟩,⟨5,false,[]⟩,⟨6,false,[]⟩,⟨7,false,[]⟩,⟨8,false,[]⟩,⟨9,true,[]⟩,⟨10,true,[]⟩])]
theorem ok77:qF prog 77 ord77=true:=by kernel_rfl
def co77:=qO ok77
def ord78:Ord:=[(10,[⟨0,false,[]⟩,⟨2,false,[]⟩,⟨3,false,[]⟩,⟨4,false,[]⟩,⟨5,false,[]⟩,⟨1,true,[5,4,3,2]⟩,⟨6,false,[]⟩]),(17,[⟨0,false,[]⟩,⟨1,false,[]⟩,⟨2,false,[]⟩,⟨3,false,[]⟩,⟨4,false,[]⟩,⟨5,false,[]⟩,⟨6,false,[]⟩,⟨7,false,[]⟩,⟨8,false,[]⟩,⟨9,true,[2,1,0]⟩,⟨10,false,[]⟩,⟨11,false,[]⟩,⟨12,true,[1]⟩,⟨13,false,[]⟩,⟨14,false,[]⟩,⟨15,true,[]⟩]),(19,[⟨0,false,[]⟩,⟨1,false,[]⟩,⟨3,false,[]⟩,⟨4,false,[]⟩,⟨2,true,[4,3]⟩,⟨5,true,[]⟩])]
theorem ok78:qF prog 78 ord78=true:=by kernel_rfl
def co78:=qO ok78
def ord79:Ord:=[]
theorem ok79:qF prog 79 ord79=true:=by kernel_rfl
def co79:=qO ok79
def ord80:Ord:=[]
theorem ok80:qF prog 80 ord80=true:=by kernel_rfl
def co80:=qO ok80
def ord81:Ord:=[]
theorem ok81:qF prog 81 ord81=true:=by kernel_rfl
def co81:=qO ok81
def ord85:Ord:=[(1,[⟨0,false,[]⟩,⟨1,false,[]⟩,⟨2,false,[]⟩,⟨3,false,[]⟩,⟨4,false,[]⟩,⟨5,false,[]⟩,⟨6,false,[]⟩,⟨7,false,[]⟩,⟨8,false,[]⟩,⟨9,false,[]⟩,⟨10,false,[]⟩,⟨11,false,[]⟩,⟨12,false,[]⟩,⟨13,false,[]⟩,⟨14,false,[]⟩,⟨15,false,[]⟩,⟨16,false,[]⟩,⟨17,false,[]⟩,⟨18,false,[]⟩,⟨19,false,[]⟩,⟨20,false,[]⟩,⟨21,false,[]⟩,⟨22,false,[]⟩,⟨23,false,[]⟩,⟨24,false,[]⟩,⟨25,false,[]⟩,⟨26,false,[]⟩,⟨27,false,[]⟩,⟨28,false,[]⟩,⟨29,false,[]⟩,⟨30,false,[]⟩,⟨31,false,[]⟩,⟨32,false,[]⟩,⟨33,false,[]⟩,⟨34,false,[]⟩,⟨35,false,[]⟩,⟨36,false,[]⟩,⟨37,false,[]⟩,⟨38,false,[]⟩,⟨39,false,[]⟩,⟨40,false,[]⟩,⟨41,false,[]⟩,⟨42,false,[]⟩]),(3,[⟨0,false,[]⟩,⟨1,false,[]⟩,⟨2,false,[]⟩,⟨3,false,[]⟩,⟨4,false,[]⟩,⟨5,false,[]⟩,⟨6,false,[]⟩,⟨7,false,[]⟩,⟨8,false,[]⟩,⟨9,false,[]⟩,⟨10,false,[]⟩,⟨11,false,[]⟩,⟨12,false,[]⟩,⟨13,false,[]⟩,⟨14,false,[]⟩,⟨15,false,[]⟩,⟨16,true,[]⟩]),(8,[⟨0,false,[]⟩,⟨1,false,[]⟩,⟨2,false,[]⟩,⟨3,false,[]⟩,⟨4,false,[]⟩,⟨5,false,[]⟩,⟨6,false,[]⟩,⟨7,false,[]⟩,⟨8,false,[]⟩,⟨9,false,[]⟩,⟨10,false,[]⟩,⟨11,false,[]⟩,⟨12,false,[]⟩]),(18,[⟨0,false,[]⟩,⟨1,false,[]⟩,⟨2,false,[]⟩,⟨3,false,[]⟩,⟨4,false,[]⟩,⟨5,false,[]⟩,⟨6,false,[]⟩,⟨7,false,[]⟩,⟨8,false,[]⟩,⟨9,false,[]⟩,⟨10,false,[]⟩,⟨11,false,[]⟩,⟨12,false,[]⟩,⟨13,false,[]⟩,⟨14,false,[]⟩,⟨15,false,[]⟩,⟨16,false,[]⟩,⟨17,false,[]⟩,⟨18,true,[17,16,15,14]⟩,⟨19,true,[]⟩])]
theorem ok85:qF prog 85 ord85=true:=by kernel_rfl
def co85:=qO ok85
def ord86:Ord:=[]
theorem ok86:qF prog 86 ord86=true:=by kernel_rfl
def co86:=qO ok86
def ord87:Ord:=[(7,[⟨0,false,[]⟩,⟨1,false,[]⟩,⟨2,false,[]⟩,⟨4,false,[]⟩,⟨5,false,[]⟩,⟨6,false,[]⟩,⟨3,true,[6,5,4]⟩,⟨7,false,[]⟩,⟨8,true,[]⟩])]
theorem ok87:qF prog 87 ord87=true:=by kernel_rfl
def co87:=qO ok87
def ord88:Ord:=[]
theorem ok88:qF prog 88 ord88=true:=by kernel_rfl
def co88:=qO ok88
def ord89:Ord:=[(3,[⟨0,false,[]⟩,⟨1,false,[]⟩,⟨2,false,[]⟩,⟨3,false,[]⟩,⟨4,true,[0]⟩,⟨5,true,[]⟩,⟨6,true,[]⟩,⟨7,true,[]⟩]),(5,[⟨0,false,[]⟩,⟨1,false,[]⟩,⟨2,false,[]⟩,⟨3,false,[]⟩,⟨4,false,[]⟩,⟨5,false,[]⟩,⟨6,false,[]⟩,⟨7,false,[]⟩,⟨8,false,[]⟩,⟨9,false,[]⟩,⟨10,true,[]⟩]),(8,[⟨0,false,[]⟩,⟨1,false,[]⟩,⟨2,false,[]⟩,⟨3,false,[]⟩,⟨4,false,[]⟩,⟨5,false,[]⟩,⟨6,false,[]⟩,⟨7,true,[0]⟩,⟨8,true,[]⟩,⟨9,true,[]⟩,⟨10,true,[]⟩]),(10,[⟨0,false,[]⟩,⟨1,false,[]⟩,⟨2,false,[]⟩,⟨3,false,[]⟩,⟨4,false,[]⟩,⟨5,false,[]⟩,⟨6,false,[]⟩,⟨7,false,[]⟩,⟨8,false,[]⟩,⟨9,false,[]⟩,⟨10,false,[]⟩,⟨11,false,[]⟩,⟨12,false,[]⟩,⟨13,false,[]⟩,⟨14,false,[]⟩,⟨15,false,[]⟩,⟨16,false,[]⟩,⟨17,false,[]⟩,⟨18,false,[]⟩,⟨19,false,[]⟩,⟨20,false,[]⟩,⟨21,false,[]⟩,⟨22,true,[2,1,0]⟩,⟨23,true,[]⟩,⟨24,true,[]⟩,⟨25,true,[]⟩]),(12,[⟨0,false,[]⟩,⟨1,false,[]⟩,⟨2,false,[]⟩,⟨3,false,[]⟩,⟨4,false,[]⟩,⟨5,false,[]⟩,⟨6,false,[]⟩,⟨7,false,[]⟩,⟨8,false,[]⟩,⟨9,false,[]⟩,⟨10,false,[]⟩,⟨11,false,[]⟩,⟨12,false,[]⟩,⟨13,false,[]⟩,⟨14,false,[]⟩,⟨15,false,[]⟩,⟨16,false,[]⟩,⟨17,false,[]⟩,⟨18,false,[]⟩,⟨19,false,[]⟩,⟨20,true,[0]⟩,⟨21,true,[]⟩,⟨22,true,[]⟩,⟨23,true,[]⟩]),(14,[⟨0,false,[]⟩,⟨1,false,[]⟩,⟨2,false,[]⟩,⟨3,false,[]⟩,⟨4,false,[]⟩,⟨5,false,[]⟩,⟨6,false,[]⟩,⟨7,false,[]⟩,⟨8,false,[]⟩,⟨9,false,[]⟩,⟨10,false,[]⟩,⟨11,true,[0]⟩,⟨12,true,[]⟩,⟨13,true,[]⟩,⟨14,true,[]⟩]),(16,[⟨0,false,[]⟩,⟨1,false,[]⟩,⟨2,false,[]⟩,⟨3,false,[]⟩,⟨4,false,[]⟩,⟨5,false,[]⟩,⟨6,false,[]⟩,⟨7,false,[]⟩,⟨8,false,[]⟩,⟨9,false,[]⟩,⟨10,false,[]⟩,⟨11,true,[0]⟩,⟨12,true,[]⟩,⟨13,true,[]⟩,⟨14,true,[]⟩]),(18,[⟨0,false,[]⟩,⟨1,false,[]⟩,⟨2,false,[]⟩,⟨3,false,[]⟩,⟨4,false,[]⟩,⟨5,false,[]⟩,⟨6,false,[]⟩,⟨7,false,[]⟩,⟨8,true,[0]⟩,⟨9,true,[]⟩,⟨10,true,[]⟩,⟨11,true,[]⟩]),(20,[⟨0,false,[]⟩,⟨1,false,[]⟩,⟨2,false,[]⟩,⟨3,false,[]⟩,⟨4,false,[]⟩,⟨5,true,[0]⟩,⟨6,true,[]⟩,⟨7,true,[]⟩,⟨8,true,[]⟩]),(28,[⟨0,false,[]⟩,⟨1,false,[]⟩,⟨2,false,[]⟩,⟨3,false,[]⟩,⟨4,false,[]⟩,⟨5,false,[]⟩,⟨6,false,[]⟩,⟨7,false,[]⟩,⟨8,false,[]⟩,⟨9,false,[]⟩,⟨10,false,[]⟩,⟨11,false,[]⟩,⟨12,false,[]⟩,⟨13,false,[]⟩,⟨14,false,[]⟩,⟨15,false,[]⟩,⟨16,true,[]⟩,⟨17,false,[]⟩,⟨18,false,[]⟩,⟨19,false,[]⟩,⟨20,true,[19]⟩,⟨21,true,[]⟩]),(30,[⟨0,false,[]⟩,⟨1,false,[]⟩,⟨2,false,[]⟩,⟨3,false,[]⟩,⟨4,false,[]⟩,⟨5,false,[]⟩,⟨6,false,[]⟩,⟨7,true,[]⟩,⟨8,false,[]⟩,⟨9,false,[]⟩,⟨10,false,[]⟩,⟨11,true,[10]⟩,⟨12,true,[]⟩]),(32,[⟨0,false,[]⟩,⟨1,false,[]⟩,⟨2,false,[]⟩,⟨3,false,[]⟩,⟨4,false,[]⟩,⟨5,false,[]⟩,⟨6,true,[]⟩,⟨7,false,[]⟩,⟨8,false,[]⟩,⟨9,false,[]⟩,⟨10,true,[9]⟩,⟨11,true,[]⟩]),(34,[⟨0,false,[]⟩,⟨1,false,[]⟩,⟨2,false,[]⟩,⟨3,false,[]⟩,⟨4,false,[]⟩,⟨5,false,[]⟩,⟨6,false,[]⟩,⟨7,false,[]⟩,⟨8,false,[]⟩,⟨9,true,[]⟩,⟨10,false,[]⟩,⟨11,false,[]⟩,⟨12,false,[]⟩,⟨13,true,[12]⟩,⟨14,true,[]⟩])]
theorem ok89:qF prog 89 ord89=true:=by kernel_rfl
def co89:=qO ok89
def ord90:Ord:=[(2,[⟨0,false,[]⟩,⟨1,false,[]⟩,⟨2,false,[]⟩,⟨3,false,[]⟩,⟨4,false,[]⟩,⟨5,false,[]⟩,⟨6,false,[]⟩,⟨7,false,[]⟩,⟨8,false,[]⟩,⟨9,false,[]⟩,⟨10,true,[0]⟩,⟨11,false,[]⟩,⟨12,false,[]⟩,⟨13,true,[]⟩])]
theorem ok90:qF prog 90 ord90=true:=by kernel_rfl
def co90:=qO ok90
def ord91:Ord:=[]
theorem ok91:qF prog 91 ord91=true:=by kernel_rfl
def co91:=qO ok91
def ord92:Ord:=[]
theorem ok92:qF prog 92 ord92=true:=by kernel_rfl
def co92:=qO ok92
def ord93:Ord:=[]
theorem ok93:qF prog 93 ord93=true:=by kernel_rfl
def co93:=qO ok93
def ord94:Ord:=[]
theorem ok94:qF prog 94 ord94=true:=by kernel_rfl
def co94:=qO ok94
def ord95:Ord:=[]
theorem ok95:qF prog 95 ord95=true:=by kernel_rfl
def co95:=qO ok95
def ord96:Ord:=[]
theorem ok96:qF prog 96 ord96=true:=by kernel_rfl
def co96:=qO ok96
def ord100:Ord:=[]
theorem ok100:qF prog 100 ord100=true:=by kernel_rfl
def co100:=qO ok100
def ord109:Ord:=[]
theorem ok109:qF prog 109 ord109=true:=by kernel_rfl
def co109:=qO ok109
def ord111:Ord:=[]
theorem ok111:qF prog 111 ord111=true:=by kernel_rfl
def co111:=qO ok111
def ord127:Ord:=[]
theorem ok127:qF prog 127 ord127=true:=by kernel_rfl
def co127:=qO ok127
def ord128:Ord:=[]
theorem ok128:qF prog 128 ord128=true:=by kernel_rfl
def co128:=qO ok128
def ord129:Ord:=[]
theorem ok129:qF prog 129 ord129=true:=by kernel_rfl
def co129:=qO ok129
def ord130:Ord:=[]
theorem ok130:qF prog 130 ord130=true:=by kernel_rfl
def co130:=qO ok130
def ord133:Ord:=[]
theorem ok133:qF prog 133 ord133=true:=by kernel_rfl
def co133:=qO ok133
def ord134:Ord:=[]
theorem ok134:qF prog 134 ord134=true:=by kernel_rfl
def co134:=qO ok134
def ord135:Ord:=[]
theorem ok135:qF prog 135 ord135=true:=by kernel_rfl
def co135:=qO ok135
def ord136:Ord:=[]
theorem ok136:qF prog 136 ord136=true:=by kernel_rfl
def co136:=qO ok136
def ord145:Ord:=[]
theorem ok145:qF prog 145 ord145=true:=by kernel_rfl
def co145:=qO ok145
def ord146:Ord:=[]
theorem ok146:qF prog 146 ord146=true:=by kernel_rfl
def co146:=qO ok146
def ord147:Ord:=[]
theorem ok147:qF prog 147 ord147=true:=by kernel_rfl
def co147:=qO ok147
def ord148:Ord:=[]
theorem ok148:qF prog 148 ord148=true:=by kernel_rfl
def co148:=qO ok148
def ord149:Ord:=[]
theorem ok149:qF prog 149 ord149=true:=by kernel_rfl
def co149:=qO ok149
def ord150:Ord:=[]
theorem ok150:qF prog 150 ord150=true:=by kernel_rfl
def co150:=qO ok150
def ord151:Ord:=[]
theorem ok151:qF prog 151 ord151=true:=by kernel_rfl
def co151:=qO ok151
def ord152:Ord:=[(1,[⟨0,false,[]⟩,⟨1,false,[]⟩,⟨2,false,[]⟩,⟨3,false,[]⟩,⟨4,false,[]⟩,⟨5,false,[]⟩,⟨6,false,[]⟩,⟨7,false,[]⟩,⟨8,false,[]⟩,⟨9,true,[]⟩,⟨10,true,[]⟩])]
theorem ok152:qF prog 152 ord152=true:=by kernel_rfl
def co152:=qO ok152
def ord153:Ord:=[(12,[⟨0,false,[]⟩,⟨1,false,[]⟩,⟨2,false,[]⟩,⟨3,false,[]⟩,⟨4,false,[]⟩,⟨5,false,[]⟩,⟨6,false,[]⟩,⟨7,false,[]⟩,⟨8,false,[]⟩,⟨9,true,[]⟩,⟨10,true,[]⟩])]
theorem ok153:qF prog 153 ord153=true:=by kernel_rfl
def co153:=qO ok153
theorem no154:qK prog 154=false:=by kernel_rfl
theorem no155:qK prog 155=false:=by kernel_rfl
def ord156:Ord:=[]
theorem ok156:qF prog 156 ord156=true:=by kernel_rfl
def co156:=qO ok156
def ord159:Ord:=[]
theorem ok159:qF prog 159 ord159=true:=by kernel_rfl
def co159:=qO ok159
def ord160:Ord:=[]
theorem ok160:qF prog 160 ord160=true:=by kernel_rfl
def co160:=qO ok160
def ord161:Ord:=[]
theorem ok161:qF prog 161 ord161=true:=by kernel_rfl
def co161:=qO ok161
def ord162:Ord:=[(3,[⟨0,false,[]⟩,⟨1,false,[]⟩,⟨2,false,[]⟩,⟨3,false,[]⟩,⟨4,false,[]⟩,⟨5,false,[]⟩,⟨6,false,[]⟩,⟨7,false,[]⟩,⟨8,false,[]⟩,⟨9,false,[]⟩,⟨11,false,[]⟩,⟨10,true,[11,3,2,1,0]⟩,⟨12,false,[]⟩,⟨13,true,[]⟩]),(4,[⟨0,false,[]⟩,⟨1,false,[]⟩,⟨3,false,[]⟩,⟨4,false,[]⟩,⟨2,true,[4,3]⟩,⟨5,true,[]⟩])]
theorem ok162:qF prog 162 ord162=true:=by kernel_rfl
def co162:=qO ok162
def ord163:Ord:=[]
theorem ok163:qF prog 163 ord163=true:=by kernel_rfl
def co163:=qO ok163
def ord164:Ord:=[(6,[⟨0,false,[]⟩,⟨1,false,[]⟩,⟨2,false,[]⟩,⟨3,false,[]⟩,⟨4,false,[]⟩,⟨5,false,[]⟩,⟨6,false,[]⟩,⟨7,false,[]⟩,⟨8,false,[]⟩,⟨9,false,[]⟩,⟨10,true,[4,3,2,1,0]⟩,⟨11,true,[]⟩,⟨12,true,[]⟩])]
theorem ok164:qF prog 164 ord164=true:=by kernel_rfl
def co164:=qO ok164
def ord165:Ord:=[]
theorem ok165:qF prog 165 ord165=true:=by kernel_rfl
def co165:=qO ok165
def ord166:Ord:=[(5,[⟨0,false,[]⟩,⟨1,false,[]⟩,⟨2,false,[]⟩,⟨3,false,[]⟩,⟨4,false,[]⟩,⟨5,false,[]⟩,⟨6,false,[]⟩,⟨7,false,[]⟩,⟨8,true,[]⟩]),(7,[⟨0,false,[]⟩,⟨1,false,[]⟩,⟨2,false,[]⟩,⟨3,false,[]⟩,⟨4,false,[]⟩,⟨5,false,[]⟩,⟨6,false,[]⟩,⟨7,false,[]⟩,⟨8,false,[]⟩,⟨9,false,[]⟩,⟨10,true,[]⟩]),(8,[⟨0,false,[]⟩,⟨1,false,[]⟩,⟨2,false,[]⟩,⟨3,false,[]⟩,⟨4,false,[]⟩,⟨5,false,[]⟩,⟨6,false,[]⟩,⟨7,false,[]⟩,⟨8,false,[]⟩,⟨9,true,[0]⟩,⟨10,false,[]⟩,⟨11,false,[]⟩,⟨12,true,[]⟩])]
theorem ok166:qF prog 166 ord166=true:=by kernel_rfl
def co166:=qO ok166
def ord167:Ord:=[(1,[⟨0,false,[]⟩,⟨1,false,[]⟩,⟨2,false,[]⟩,⟨3,false,[]⟩,⟨4,false,[]⟩,⟨5,false,[]⟩,⟨6,true,[]⟩])]
theorem ok167:qF prog 167 ord167=true:=by kernel_rfl
def co167:=qO ok167
def ord168:Ord:=[]
theorem ok168:qF prog 168 ord168=true:=by kernel_rfl
def co168:=qO ok168
def ord169:Ord:=[]
theorem ok169:qF prog 169 ord169=true:=by kernel_rfl
def co169:=qO ok169
def ord170:Ord:=[]
theorem ok170:qF prog 170 ord170=true:=by kernel_rfl
def co170:=qO ok170
def ord171:Ord:=[(16,[⟨0,false,[]⟩,⟨1,false,[]⟩,⟨2,false,[]⟩,⟨3,false,[]⟩,⟨4,false,[]⟩,⟨5,false,[]⟩,⟨6,false,[]⟩,⟨7,false,[]⟩,⟨8,false,[]⟩,⟨9,false,[]⟩,⟨10,false,[]⟩,⟨11,false,[]⟩,⟨12,false,[]⟩,⟨13,false,[]⟩,⟨14,false,[]⟩]),(25,[⟨0,false,[]⟩,⟨1,false,[]⟩,⟨2,false,[]⟩,⟨3,false,[]⟩,⟨4,false,[]⟩,⟨5,false,[]⟩,⟨6,false,[]⟩,⟨7,false,[]⟩,⟨8,false,[]⟩,⟨9,false,[]⟩,⟨10,false,[]⟩,⟨11,false,[]⟩,⟨12,false,[]⟩,⟨13,false,[]⟩,⟨14,false,[]⟩,⟨15,false,[]⟩,⟨16,false,[]⟩,⟨17,false,[]⟩,⟨18,false,[]⟩,⟨19,false,[]⟩,⟨20,false,[]⟩,⟨21,false,[]⟩,⟨22,false,[]⟩,⟨23,false,[]⟩,⟨24,false,[]⟩,⟨25,false,[]⟩,⟨26,false,[]⟩,⟨27,false,[]⟩,⟨28,false,[]⟩,⟨29,false,[]⟩,⟨30,false,[]⟩,⟨31,false,[]⟩,⟨32,false,[]⟩,⟨33,false,[]⟩,⟨34,false,[]⟩])]
theorem ok171:qF prog 171 ord171=true:=by kernel_rfl
def co171:=qO ok171
def ord176:Ord:=[]
theorem ok176:qF prog 176 ord176=true:=by kernel_rfl
def co176:=qO ok176
def ord177:Ord:=[(15,[⟨0,false,[]⟩,⟨1,false,[]⟩,⟨2,false,[]⟩,⟨3,false,[]⟩,⟨4,false,[]⟩,⟨5,false,[]⟩,⟨6,false,[]⟩,⟨7,false,[]⟩,⟨8,true,[]⟩,⟨9,true,[]⟩])]
theorem ok177:qF prog 177 ord177=true:=by kernel_rfl
def co177:=qO ok177
theorem no178:qK prog 178=false:=by kernel_rfl
def ord186:Ord:=[]
theorem ok186:qF prog 186 ord186=true:=by kernel_rfl
def co186:=qO ok186
def ord199:Ord:=[(1,[⟨0,false,[]⟩,⟨1,false,[]⟩,⟨2,false,[]⟩,⟨3,false,[]⟩,⟨4,false,[]⟩,⟨5,false,[]⟩,⟨6,false,[]⟩,⟨7,false,[]⟩,⟨8,true,[]⟩,⟨9,true,[]⟩]),(4,[⟨0,false,[]⟩,⟨1,false,[]⟩,⟨2,false,[]⟩,⟨3,false,[]⟩,⟨4,false,[]⟩,⟨5,false,[]⟩,⟨6,false,[]⟩,⟨7,false,[]⟩,⟨8,true,[]⟩,⟨9,false,[]⟩,⟨10,false,[]⟩,⟨11,true,[]⟩,⟨12,true,[]⟩])]
theorem ok199:qF prog 199 ord199=true:=by kernel_rfl
def co199:=qO ok199
def ord200:Ord:=[]
theorem ok200:qF prog 200 ord200=true:=by kernel_rfl
def co200:=qO ok200
def ord201:Ord:=[(1,[⟨0,false,[]⟩,⟨1,false,[]⟩,⟨2,false,[]⟩,⟨3,false,[]⟩,⟨4,false,[]⟩,⟨5,false,[]⟩,⟨6,false,[]⟩,⟨7,false,[]⟩,⟨8,false,[]⟩,⟨9,false,[]⟩]),(3,[⟨0,false,[]⟩,⟨1,false,[]⟩,⟨2,false,[]⟩,⟨3,false,[]⟩,⟨4,false,[]⟩,⟨5,false,[]⟩,⟨6,false,[]⟩,⟨7,true,[0]⟩,⟨8,false,[]⟩,⟨9,false,[]⟩,⟨10,true,[]⟩])]
theorem ok201:qF prog 201 ord201=true:=by kernel_rfl
def co201:=qO ok201
def ord210:Ord:=[]
theorem ok210:qF prog 210 ord210=true:=by kernel_rfl
def co210:=qO ok210
def ord211:Ord:=[]
theorem ok211:qF prog 211 ord211=true:=by kernel_rfl
def co211:=qO ok211
def ord212:Ord:=[]
theorem ok212:qF prog 212 ord212=true:=by kernel_rfl
def co212:=qO ok212
def ord213:Ord:=[]
theorem ok213:qF prog 213 ord213=true:=by kernel_rfl
def co213:=qO ok213
def ord214:Ord:=[]
theorem ok214:qF prog 214 ord214=true:=by kernel_rfl
def co214:=qO ok214
def ord215:Ord:=[]
theorem ok215:qF prog 215 ord215=true:=by kernel_rfl
def co215:=qO ok215
def ord216:Ord:=[]
theorem ok216:qF prog 216 ord216=true:=by kernel_rfl
def co216:=qO ok216
def ord217:Ord:=[]
theorem ok217:qF prog 217 ord217=true:=by kernel_rfl
def co217:=qO ok217
def ord219:Ord:=[]
theorem ok219:qF prog 219 ord219=true:=by kernel_rfl
def co219:=qO ok219
def ord220:Ord:=[]
theorem ok220:qF prog 220 ord220=true:=by kernel_rfl
def co220:=qO ok220
def ord221:Ord:=[]
theorem ok221:qF prog 221 ord221=true:=by kernel_rfl
def co221:=qO ok221
def ord222:Ord:=[]
theorem ok222:qF prog 222 ord222=true:=by kernel_rfl
def co222:=qO ok222
def ord223:Ord:=[]
theorem ok223:qF prog 223 ord223=true:=by kernel_rfl
def co223:=qO ok223
def ord224:Ord:=[]
theorem ok224:qF prog 224 ord224=true:=by kernel_rfl
def co224:=qO ok224
def ord225:Ord:=[]
theorem ok225:qF prog 225 ord225=true:=by kernel_rfl
def co225:=qO ok225
def ord226:Ord:=[(7,[⟨0,false,[]⟩,⟨1,false,[]⟩,⟨2,false,[]⟩,⟨3,false,[]⟩,⟨4,false,[]⟩,⟨5,false,[]⟩,⟨6,false,[]⟩,⟨7,false,[]⟩,⟨8,false,[]⟩,⟨9,false,[]⟩,⟨10,false,[]⟩,⟨11,false,[]⟩,⟨12,false,[]⟩,⟨13,true,[]⟩,⟨14,true,[]⟩])]
theorem ok226:qF prog 226 ord226=true:=by kernel_rfl
def co226:=qO ok226
def ord227:Ord:=[]
theorem ok227:qF prog 227 ord227=true:=by kernel_rfl
def co227:=qO ok227
def ord228:Ord:=[]
theorem ok228:qF prog 228 ord228=true:=by kernel_rfl
def co228:=qO ok228
def ord229:Ord:=[]
theorem ok229:qF prog 229 ord229=true:=by kernel_rfl
def co229:=qO ok229
def ord230:Ord:=[]
theorem ok230:qF prog 230 ord230=true:=by kernel_rfl
def co230:=qO ok230
def ord242:Ord:=[]
theorem ok242:qF prog 242 ord242=true:=by kernel_rfl
def co242:=qO ok242
def ord259:Ord:=[]
theorem ok259:qF prog 259 ord259=true:=by kernel_rfl
def co259:=qO ok259
def ord260:Ord:=[]
theorem ok260:qF prog 260 ord260=true:=by kernel_rfl
def co260:=qO ok260
def ord261:Ord:=[]
theorem ok261:qF prog 261 ord261=true:=by kernel_rfl
def co261:=qO ok261
def ord264:Ord:=[]
theorem ok264:qF prog 264 ord264=true:=by kernel_rfl
def co264:=qO ok264
def ord265:Ord:=[]
theorem ok265:qF prog 265 ord265=true:=by kernel_rfl
def co265:=qO ok265
def ord266:Ord:=[]
theorem ok266:qF prog 266 ord266=true:=by kernel_rfl
def co266:=qO ok266
def ord267:Ord:=[]
theorem ok267:qF prog 267 ord267=true:=by kernel_rfl
def co267:=qO ok267
def ord268:Ord:=[]
theorem ok268:qF prog 268 ord268=true:=by kernel_rfl
def co268:=qO ok268
def ord269:Ord:=[]
theorem ok269:qF prog 269 ord269=true:=by kernel_rfl
def co269:=qO ok269
def ord270:Ord:=[]
theorem ok270:qF prog 270 ord270=true:=by kernel_rfl
def co270:=qO ok270
def ord271:Ord:=[(0,[⟨0,false,[]⟩,⟨1,false,[]⟩,⟨2,false,[]⟩,⟨3,false,[]⟩,⟨4,false,[]⟩,⟨5,false,[]⟩,⟨6,false,[]⟩,⟨7,false,[]⟩,⟨8,false,[]⟩,⟨9,false,[]⟩,⟨10,false,[]⟩,⟨11,false,[]⟩,⟨12,false,[]⟩,⟨13,false,[]⟩,⟨14,false,[]⟩,⟨15,false,[]⟩,⟨16,false,[]⟩,⟨17,false,[]⟩,⟨18,false,[]⟩,⟨19,false,[]⟩]),(5,[⟨0,false,[]⟩,⟨1,false,[]⟩,⟨2,false,[]⟩,⟨3,false,[]⟩,⟨4,false,[]⟩,⟨5,false,[]⟩,⟨6,false,[]⟩,⟨7,true,[]⟩])]
theorem ok271:qF prog 271 ord271=true:=by kernel_rfl
def co271:=qO ok271
def ord280:Ord:=[(3,[⟨0,false,[]⟩,⟨1,false,[]⟩,⟨2,false,[]⟩,⟨3,false,[]⟩,⟨4,false,[]⟩,⟨5,false,[]⟩,⟨6,false,[]⟩,⟨7,false,[]⟩,⟨8,false,[]⟩,⟨9,false,[]⟩,⟨10,false,[]⟩,⟨11,false,[]⟩,⟨12,false,[]⟩,⟨13,true,[3,2]⟩,⟨14,false,[]⟩,⟨15,true,[]⟩])]
theorem ok280:qF prog 280 ord280=true:=by kernel_rfl
def co280:=qO ok280
theorem no281:qK prog 281=false:=by kernel_rfl
def ord282:Ord:=[(2,[⟨0,false,[]⟩,⟨1,false,[]⟩,⟨2,false,[]⟩,⟨3,false,[]⟩,⟨4,false,[]⟩,⟨5,true,[]⟩,⟨6,true,[]⟩])]
theorem ok282:qF prog 282 ord282=true:=by kernel_rfl
def co282:=qO ok282
def ord283:Ord:=[]
theorem ok283:qF prog 283 ord283=true:=by kernel_rfl
def co283:=qO ok283
def ord284:Ord:=[]
theorem ok284:qF prog 284 ord284=true:=by kernel_rfl
def co284:=qO ok284
def ord291:Ord:=[]
theorem ok291:qF prog 291 ord291=true:=by kernel_rfl
def co291:=qO ok291
theorem sz2:szOf prog 2=some 1:=by kernel_rfl
theorem is2:(prog.info? 2).isSome=true:=by kernel_rfl
theorem ce2:prog.cellsOf 2=1:=by kernel_rfl
theorem ag2:aggT prog 2=some false:=by kernel_rfl
theorem ze2:czero prog 2=some (.int .i64 0):=by kernel_rfl
theorem sz3:szOf prog 3=some 1:=by kernel_rfl
theorem is3:(prog.info? 3).isSome=true:=by kernel_rfl
theorem ce3:prog.cellsOf 3=1:=by kernel_rfl
theorem ag3:aggT prog 3=some false:=by kernel_rfl
theorem ze3:czero prog 3=some (.int .i64 0):=by kernel_rfl
theorem sz4:szOf prog 4=some 1:=by kernel_rfl
theorem is4:(prog.info? 4).isSome=true:=by kernel_rfl
theorem ce4:prog.cellsOf 4=1:=by kernel_rfl
theorem ag4:aggT prog 4=some false:=by kernel_rfl
theorem ze4:czero prog 4=some (.bool false):=by kernel_rfl
theorem be4{x y:Operand}{a b:Bool}:cbin prog .eql 4 x y (.bool a) (.bool b)=some (.bool (a == b)):=by kernel_rfl
theorem bn4{x y:Operand}{a b:Bool}:cbin prog .neq 4 x y (.bool a) (.bool b)=some (.bool (!(a == b))):=by kernel_rfl
theorem sz5:szOf prog 5=some 1:=by kernel_rfl
theorem sz9:szOf prog 9=some 1:=by kernel_rfl
theorem is9:(prog.info? 9).isSome=true:=by kernel_rfl
theorem ce9:prog.cellsOf 9=1:=by kernel_rfl
theorem ag9:aggT prog 9=some false:=by kernel_rfl
theorem ze9:czero prog 9=some (.string ByteArray.empty):=by kernel_rfl
theorem sz24:szOf prog 24=some 4:=by kernel_rfl
theorem is24:(prog.info? 24).isSome=true:=by kernel_rfl
theorem ce24:prog.cellsOf 24=4:=by kernel_rfl
theorem ag24:aggT prog 24=some true:=by kernel_rfl
theorem ze24:czero prog 24=some (.agg #[.int .i64 0,.int .i64 0,.int .i64 0,.int .i64 0]):=by kernel_rfl
theorem fa24x0:faOk prog 24 0=some 0:=by kernel_rfl
theorem fa24x1:faOk prog 24 1=some 1:=by kernel_rfl
theorem fa24x2:faOk prog 24 2=some 2:=by kernel_rfl
theorem fa24x3:faOk prog 24 3=some 3:=by kernel_rfl
theorem sz25:szOf prog 25=some 1:=by kernel_rfl
theorem is25:(prog.info? 25).isSome=true:=by kernel_rfl
theorem ce25:prog.cellsOf 25=1:=by kernel_rfl
theorem ag25:aggT prog 25=some false:=by kernel_rfl
theorem ze25:czero prog 25=some (.pointer none):=by kernel_rfl
theorem nt25{x y:Operand}:cbin prog .eql 25 x y (.pointer none) (.pointer none)=some (.bool true):=by kernel_rfl
theorem nn25{x y:Operand}:cbin prog .neq 25 x y (.pointer none) (.pointer none)=some (.bool false):=by kernel_rfl
theorem nf25{x y:Operand}{a:Addr}:cbin prog .eql 25 x y (.pointer (some a)) (.pointer none)=some (.bool false):=by kernel_rfl
theorem ng25{x y:Operand}{a:Addr}:cbin prog .neq 25 x y (.pointer (some a)) (.pointer none)=some (.bool true):=by kernel_rfl
theorem sz31:szOf prog 31=some 3:=by kernel_rfl
theorem is31:(prog.info? 31).isSome=true:=by kernel_rfl
theorem ce31:prog.cellsOf 31=3:=by kernel_rfl
theorem ag31:aggT prog 31=some true:=by kernel_rfl
theorem ze31:czero prog 31=some (.agg #[.int .i64 0,.int .i64 0,.string ByteArray.empty]):=by kernel_rfl
theorem fa31x0:faOk prog 31 0=some 0:=by kernel_rfl
theorem fa31x1:faOk prog 31 1=some 1:=by kernel_rfl
theorem fa31x2:faOk prog 31 2=some 2:=by kernel_rfl
theorem sz38:szOf prog 38=some 1:=by kernel_rfl
theorem is38:(prog.info? 38).isSome=true:=by kernel_rfl
theorem ce38:prog.cellsOf 38=1:=by kernel_rfl
theorem ag38:aggT prog 38=some false:=by kernel_rfl
theorem ze38:czero prog 38=some (.int .i64 0):=by kernel_rfl
theorem sz39:szOf prog 39=some 1:=by kernel_rfl
theorem is39:(prog.info? 39).isSome=true:=by kernel_rfl
theorem ce39:prog.cellsOf 39=1:=by kernel_rfl
theorem ag39:aggT prog 39=some false:=by kernel_rfl
theorem ze39:czero prog 39=some (.slice none 0 0):=by kernel_rfl
theorem sz43:szOf prog 43=some 1:=by kernel_rfl
theorem is43:(prog.info? 43).isSome=true:=by kernel_rfl
theorem ce43:prog.cellsOf 43=1:=by kernel_rfl
theorem ag43:aggT prog 43=some false:=by kernel_rfl
theorem sz48:szOf prog 48=some 1:=by kernel_rfl
theorem is48:(prog.info? 48).isSome=true:=by kernel_rfl
theorem ce48:prog.cellsOf 48=1:=by kernel_rfl
theorem ag48:aggT prog 48=some false:=by kernel_rfl
theorem ze48:czero prog 48=some (.slice none 0 0):=by kernel_rfl
theorem sz58:szOf prog 58=some 1:=by kernel_rfl
theorem is58:(prog.info? 58).isSome=true:=by kernel_rfl
theorem ce58:prog.cellsOf 58=1:=by kernel_rfl
theorem ag58:aggT prog 58=some false:=by kernel_rfl
theorem ze58:czero prog 58=some (.slice none 0 0):=by kernel_rfl
theorem sz60:szOf prog 60=some 3:=by kernel_rfl
theorem is60:(prog.info? 60).isSome=true:=by kernel_rfl
theorem ce60:prog.cellsOf 60=3:=by kernel_rfl
theorem ag60:aggT prog 60=some true:=by kernel_rfl
theorem ze60:czero prog 60=some (.agg #[.int .i64 0,.slice none 0 0,.slice none 0 0]):=by kernel_rfl
theorem fa60x0:faOk prog 60 0=some 0:=by kernel_rfl
theorem fa60x1:faOk prog 60 1=some 1:=by kernel_rfl
theorem fa60x2:faOk prog 60 2=some 2:=by kernel_rfl
theorem sz62:szOf prog 62=some 7:=by kernel_rfl
theorem is62:(prog.info? 62).isSome=true:=by kernel_rfl
theorem ce62:prog.cellsOf 62=7:=by kernel_rfl
theorem ag62:aggT prog 62=some true:=by kernel_rfl
theorem ze62:czero prog 62=some (.agg #[.int .i64 0,.int .i64 0,.slice none 0 0,.slice none 0 0,.int .i64 0,.int .i64 0,.string ByteArray.empty]):=by kernel_rfl
theorem fa62x0:faOk prog 62 0=some 0:=by kernel_rfl
theorem fa62x1:faOk prog 62 1=some 1:=by kernel_rfl
theorem fa62x2:faOk prog 62 2=some 2:=by kernel_rfl
theorem fa62x3:faOk prog 62 3=some 3:=by kernel_rfl
theorem fa62x4:faOk prog 62 4=some 4:=by kernel_rfl
theorem sz66:szOf prog 66=some 8:=by kernel_rfl
theorem is66:(prog.info? 66).isSome=true:=by kernel_rfl
theorem ce66:prog.cellsOf 66=8:=by kernel_rfl
theorem ag66:aggT prog 66=some true:=by kernel_rfl
theorem ze66:czero prog 66=some (.agg #[.int .i64 0,.int .i64 0,.int .i64 0,.string ByteArray.empty,.int .i64 0,.int .i64 0,.string ByteArray.empty,.slice none 0 0]):=by kernel_rfl
theorem fa66x0:faOk prog 66 0=some 0:=by kernel_rfl
theorem fa66x1:faOk prog 66 1=some 1:=by kernel_rfl
theorem fa66x2:faOk prog 66 2=some 4:=by kernel_rfl
theorem fa66x3:faOk prog 66 3=some 7:=by kernel_rfl
theorem sz68:szOf prog 68=some 1:=by kernel_rfl
theorem is68:(prog.info? 68).isSome=true:=by kernel_rfl
theorem ce68:prog.cellsOf 68=1:=by kernel_rfl
theorem ag68:aggT prog 68=some false:=by kernel_rfl
theorem ze68:czero prog 68=some (.pointer none):=by kernel_rfl
theorem nt68{x y:Operand}:cbin prog .eql 68 x y (.pointer none) (.pointer none)=some (.bool true):=by kernel_rfl
theorem nn68{x y:Operand}:cbin prog .neq 68 x y (.pointer none) (.pointer none)=some (.bool false):=by kernel_rfl
theorem nf68{x y:Operand}{a:Addr}:cbin prog .eql 68 x y (.pointer (some a)) (.pointer none)=some (.bool false):=by kernel_rfl
theorem ng68{x y:Operand}{a:Addr}:cbin prog .neq 68 x y (.pointer (some a)) (.pointer none)=some (.bool true):=by kernel_rfl
theorem sz70:szOf prog 70=some 1:=by kernel_rfl
theorem is70:(prog.info? 70).isSome=true:=by kernel_rfl
theorem ce70:prog.cellsOf 70=1:=by kernel_rfl
theorem ag70:aggT prog 70=some false:=by kernel_rfl
theorem ze70:czero prog 70=some (.slice none 0 0):=by kernel_rfl
theorem sz72:szOf prog 72=some 5:=by kernel_rfl
theorem is72:(prog.info? 72).isSome=true:=by kernel_rfl
theorem ce72:prog.cellsOf 72=5:=by kernel_rfl
theorem ag72:aggT prog 72=some true:=by kernel_rfl
theorem ze72:czero prog 72=some (.agg #[.int .i64 0,.int .i64 0,.int .i64 0,.int .i64 0,.slice none 0 0]):=by kernel_rfl
theorem fa72x0:faOk prog 72 0=some 0:=by kernel_rfl
theorem fa72x1:faOk prog 72 1=some 1:=by kernel_rfl
theorem fa72x2:faOk prog 72 2=some 2:=by kernel_rfl
theorem fa72x3:faOk prog 72 3=some 3:=by kernel_rfl
theorem fa72x4:faOk prog 72 4=some 4:=by kernel_rfl
theorem sz74:szOf prog 74=some 3:=by kernel_rfl
theorem is74:(prog.info? 74).isSome=true:=by kernel_rfl
theorem ce74:prog.cellsOf 74=3:=by kernel_rfl
theorem ag74:aggT prog 74=some true:=by kernel_rfl
theorem ze74:czero prog 74=some (.agg #[.int .i64 0,.int .i64 0,.int .i64 0]):=by kernel_rfl
theorem fa74x0:faOk prog 74 0=some 0:=by kernel_rfl
theorem fa74x1:faOk prog 74 1=some 1:=by kernel_rfl
theorem fa74x2:faOk prog 74 2=some 2:=by kernel_rfl
theorem sz75:szOf prog 75=some 1:=by kernel_rfl
theorem is75:(prog.info? 75).isSome=true:=by kernel_rfl
theorem ce75:prog.cellsOf 75=1:=by kernel_rfl
theorem ag75:aggT prog 75=some false:=by kernel_rfl
theorem sz78:szOf prog 78=some 1:=by kernel_rfl
theorem is78:(prog.info? 78).isSome=true:=by kernel_rfl
theorem ce78:prog.cellsOf 78=1:=by kernel_rfl
theorem ag78:aggT prog 78=some false:=by kernel_rfl
theorem ze78:czero prog 78=some (.pointer none):=by kernel_rfl
theorem nt78{x y:Operand}:cbin prog .eql 78 x y (.pointer none) (.pointer none)=some (.bool true):=by kernel_rfl
theorem nn78{x y:Operand}:cbin prog .neq 78 x y (.pointer none) (.pointer none)=some (.bool false):=by kernel_rfl
theorem nf78{x y:Operand}{a:Addr}:cbin prog .eql 78 x y (.pointer (some a)) (.pointer none)=some (.bool false):=by kernel_rfl
theorem ng78{x y:Operand}{a:Addr}:cbin prog .neq 78 x y (.pointer (some a)) (.pointer none)=some (.bool true):=by kernel_rfl
theorem sz80:szOf prog 80=some 1:=by kernel_rfl
theorem is80:(prog.info? 80).isSome=true:=by kernel_rfl
theorem ce80:prog.cellsOf 80=1:=by kernel_rfl
theorem ag80:aggT prog 80=some false:=by kernel_rfl
theorem ze80:czero prog 80=some (.pointer none):=by kernel_rfl
theorem nt80{x y:Operand}:cbin prog .eql 80 x y (.pointer none) (.pointer none)=some (.bool true):=by kernel_rfl
theorem nn80{x y:Operand}:cbin prog .neq 80 x y (.pointer none) (.pointer none)=some (.bool false):=by kernel_rfl
theorem nf80{x y:Operand}{a:Addr}:cbin prog .eql 80 x y (.pointer (some a)) (.pointer none)=some (.bool false):=by kernel_rfl
theorem ng80{x y:Operand}{a:Addr}:cbin prog .neq 80 x y (.pointer (some a)) (.pointer none)=some (.bool true):=by kernel_rfl
theorem sz87:szOf prog 87=some 1:=by kernel_rfl
theorem is87:(prog.info? 87).isSome=true:=by kernel_rfl
theorem ce87:prog.cellsOf 87=1:=by kernel_rfl
theorem ag87:aggT prog 87=some true:=by kernel_rfl
theorem ze87:czero prog 87=some (.agg #[.int .i64 0]):=by kernel_rfl
theorem fa87x2:faOk prog 87 2=some 0:=by kernel_rfl
theorem sz88:szOf prog 88=some 1:=by kernel_rfl
theorem is88:(prog.info? 88).isSome=true:=by kernel_rfl
theorem ce88:prog.cellsOf 88=1:=by kernel_rfl
theorem ag88:aggT prog 88=some false:=by kernel_rfl
theorem ze88:czero prog 88=some (.slice none 0 0):=by kernel_rfl
theorem sz90:szOf prog 90=some 17:=by kernel_rfl
theorem is90:(prog.info? 90).isSome=true:=by kernel_rfl
theorem ce90:prog.cellsOf 90=17:=by kernel_rfl
theorem ag90:aggT prog 90=some true:=by kernel_rfl
theorem ze90:czero prog 90=some (.agg #[.pointer none,.pointer none,.int .i64 0,.int .i64 0,.int .i64 0,.int .i64 0,.slice none 0 0,.int .i64 0,.int .i64 0,.int .i64 0,.slice none 0 0,.slice none 0 0,.int .i64 0,.int .i64 0,.int .i64 0,.int .i64 0,.string ByteArray.empty]):=by kernel_rfl
theorem fa90x0:faOk prog 90 0=some 0:=by kernel_rfl
theorem fa90x1:faOk prog 90 1=some 1:=by kernel_rfl
theorem fa90x2:faOk prog 90 2=some 2:=by kernel_rfl
theorem fa90x3:faOk prog 90 3=some 6:=by kernel_rfl
theorem fa90x4:faOk prog 90 4=some 7:=by kernel_rfl
theorem fa90x5:faOk prog 90 5=some 8:=by kernel_rfl
theorem fa90x6:faOk prog 90 6=some 9:=by kernel_rfl
theorem fa90x7:faOk prog 90 7=some 10:=by kernel_rfl
theorem fa90x8:faOk prog 90 8=some 11:=by kernel_rfl
theorem fa90x9:faOk prog 90 9=some 12:=by kernel_rfl
theorem fa90x10:faOk prog 90 10=some 13:=by kernel_rfl
theorem fa90x11:faOk prog 90 11=some 14:=by kernel_rfl
theorem sz115:szOf prog 115=some 1:=by kernel_rfl
theorem is115:(prog.info? 115).isSome=true:=by kernel_rfl
theorem ce115:prog.cellsOf 115=1:=by kernel_rfl
theorem ag115:aggT prog 115=some false:=by kernel_rfl
theorem sz120:szOf prog 120=some 1:=by kernel_rfl
theorem is120:(prog.info? 120).isSome=true:=by kernel_rfl
theorem ce120:prog.cellsOf 120=1:=by kernel_rfl
theorem ag120:aggT prog 120=some false:=by kernel_rfl
theorem sz122:szOf prog 122=some 1:=by kernel_rfl
theorem is122:(prog.info? 122).isSome=true:=by kernel_rfl
theorem ce122:prog.cellsOf 122=1:=by kernel_rfl
theorem ag122:aggT prog 122=some false:=by kernel_rfl
theorem sz130:szOf prog 130=some 1:=by kernel_rfl
theorem is130:(prog.info? 130).isSome=true:=by kernel_rfl
theorem ce130:prog.cellsOf 130=1:=by kernel_rfl
theorem ag130:aggT prog 130=some false:=by kernel_rfl
theorem ze130:czero prog 130=some (.nilFunc):=by kernel_rfl
theorem sz137:szOf prog 137=some 1:=by kernel_rfl
theorem is137:(prog.info? 137).isSome=true:=by kernel_rfl
theorem ce137:prog.cellsOf 137=1:=by kernel_rfl
theorem ag137:aggT prog 137=some false:=by kernel_rfl
theorem sz141:szOf prog 141=some 1:=by kernel_rfl
theorem is141:(prog.info? 141).isSome=true:=by kernel_rfl
theorem ce141:prog.cellsOf 141=1:=by kernel_rfl
theorem ag141:aggT prog 141=some false:=by kernel_rfl
theorem sz143:szOf prog 143=some 1:=by kernel_rfl
theorem is143:(prog.info? 143).isSome=true:=by kernel_rfl
theorem ce143:prog.cellsOf 143=1:=by kernel_rfl
theorem ag143:aggT prog 143=some false:=by kernel_rfl
theorem ze143:czero prog 143=some (.pointer none):=by kernel_rfl
theorem nt143{x y:Operand}:cbin prog .eql 143 x y (.pointer none) (.pointer none)=some (.bool true):=by kernel_rfl
theorem nn143{x y:Operand}:cbin prog .neq 143 x y (.pointer none) (.pointer none)=some (.bool false):=by kernel_rfl
theorem nf143{x y:Operand}{a:Addr}:cbin prog .eql 143 x y (.pointer (some a)) (.pointer none)=some (.bool false):=by kernel_rfl
theorem ng143{x y:Operand}{a:Addr}:cbin prog .neq 143 x y (.pointer (some a)) (.pointer none)=some (.bool true):=by kernel_rfl
theorem sz145:szOf prog 145=some 1:=by kernel_rfl
theorem is145:(prog.info? 145).isSome=true:=by kernel_rfl
theorem ce145:prog.cellsOf 145=1:=by kernel_rfl
theorem ag145:aggT prog 145=some false:=by kernel_rfl
theorem ze145:czero prog 145=some (.pointer none):=by kernel_rfl
theorem nt145{x y:Operand}:cbin prog .eql 145 x y (.pointer none) (.pointer none)=some (.bool true):=by kernel_rfl
theorem nn145{x y:Operand}:cbin prog .neq 145 x y (.pointer none) (.pointer none)=some (.bool false):=by kernel_rfl
theorem nf145{x y:Operand}{a:Addr}:cbin prog .eql 145 x y (.pointer (some a)) (.pointer none)=some (.bool false):=by kernel_rfl
theorem ng145{x y:Operand}{a:Addr}:cbin prog .neq 145 x y (.pointer (some a)) (.pointer none)=some (.bool true):=by kernel_rfl
theorem sz147:szOf prog 147=some 1:=by kernel_rfl
theorem is147:(prog.info? 147).isSome=true:=by kernel_rfl
theorem ce147:prog.cellsOf 147=1:=by kernel_rfl
theorem ag147:aggT prog 147=some false:=by kernel_rfl
theorem ze147:czero prog 147=some (.slice none 0 0):=by kernel_rfl
theorem sz149:szOf prog 149=some 5:=by kernel_rfl
theorem is149:(prog.info? 149).isSome=true:=by kernel_rfl
theorem ce149:prog.cellsOf 149=5:=by kernel_rfl
theorem ag149:aggT prog 149=some true:=by kernel_rfl
theorem ze149:czero prog 149=some (.agg #[.slice none 0 0,.pointer none,.pointer none,.int .i64 0,.int .i64 0]):=by kernel_rfl
theorem fa149x0:faOk prog 149 0=some 0:=by kernel_rfl
theorem fa149x1:faOk prog 149 1=some 1:=by kernel_rfl
theorem fa149x2:faOk prog 149 2=some 2:=by kernel_rfl
theorem fa149x3:faOk prog 149 3=some 3:=by kernel_rfl
theorem fa149x4:faOk prog 149 4=some 4:=by kernel_rfl
theorem sz167:szOf prog 167=some 1:=by kernel_rfl
theorem is167:(prog.info? 167).isSome=true:=by kernel_rfl
theorem ce167:prog.cellsOf 167=1:=by kernel_rfl
theorem ag167:aggT prog 167=some false:=by kernel_rfl
theorem ze173:czero prog 173=some (.agg #[.int .u8 0,.int .u8 0,.int .u8 0,.int .u8 0,.int .u8 0,.int .u8 0,.int .u8 0,.int .u8 0,.int .u8 0,.int .u8 0,.int .u8 0,.int .u8 0,.int .u8 0,.int .u8 0,.int .u8 0,.int .u8 0,.int .u8 0,.int .u8 0,.int .u8 0,.int .u8 0]):=by kernel_rfl
theorem sz176:szOf prog 176=some 1:=by kernel_rfl
theorem is176:(prog.info? 176).isSome=true:=by kernel_rfl
theorem ce176:prog.cellsOf 176=1:=by kernel_rfl
theorem ag176:aggT prog 176=some false:=by kernel_rfl
theorem ze176:czero prog 176=some (.pointer none):=by kernel_rfl
theorem nt176{x y:Operand}:cbin prog .eql 176 x y (.pointer none) (.pointer none)=some (.bool true):=by kernel_rfl
theorem nn176{x y:Operand}:cbin prog .neq 176 x y (.pointer none) (.pointer none)=some (.bool false):=by kernel_rfl
theorem nf176{x y:Operand}{a:Addr}:cbin prog .eql 176 x y (.pointer (some a)) (.pointer none)=some (.bool false):=by kernel_rfl
theorem ng176{x y:Operand}{a:Addr}:cbin prog .neq 176 x y (.pointer (some a)) (.pointer none)=some (.bool true):=by kernel_rfl
theorem sz177:szOf prog 177=some 1:=by kernel_rfl
theorem is177:(prog.info? 177).isSome=true:=by kernel_rfl
theorem ce177:prog.cellsOf 177=1:=by kernel_rfl
theorem ag177:aggT prog 177=some false:=by kernel_rfl
theorem ze177:czero prog 177=some (.pointer none):=by kernel_rfl
theorem nt177{x y:Operand}:cbin prog .eql 177 x y (.pointer none) (.pointer none)=some (.bool true):=by kernel_rfl
theorem nn177{x y:Operand}:cbin prog .neq 177 x y (.pointer none) (.pointer none)=some (.bool false):=by kernel_rfl
theorem nf177{x y:Operand}{a:Addr}:cbin prog .eql 177 x y (.pointer (some a)) (.pointer none)=some (.bool false):=by kernel_rfl
theorem ng177{x y:Operand}{a:Addr}:cbin prog .neq 177 x y (.pointer (some a)) (.pointer none)=some (.bool true):=by kernel_rfl
theorem sz180:szOf prog 180=some 1:=by kernel_rfl
theorem is180:(prog.info? 180).isSome=true:=by kernel_rfl
theorem ce180:prog.cellsOf 180=1:=by kernel_rfl
theorem ag180:aggT prog 180=some true:=by kernel_rfl
theorem ze180:czero prog 180=some (.agg #[.pointer none]):=by kernel_rfl
theorem fa180x0:faOk prog 180 0=some 0:=by kernel_rfl
theorem sz182:szOf prog 182=some 1:=by kernel_rfl
theorem is182:(prog.info? 182).isSome=true:=by kernel_rfl
theorem ce182:prog.cellsOf 182=1:=by kernel_rfl
theorem ag182:aggT prog 182=some false:=by kernel_rfl
theorem ze182:czero prog 182=some (.nilIface):=by kernel_rfl
theorem sz184:szOf prog 184=some 3:=by kernel_rfl
theorem is184:(prog.info? 184).isSome=true:=by kernel_rfl
theorem ce184:prog.cellsOf 184=3:=by kernel_rfl
theorem ag184:aggT prog 184=some true:=by kernel_rfl
theorem ze184:czero prog 184=some (.agg #[.nilIface,.int .i64 0,.int .i64 0]):=by kernel_rfl
theorem fa184x0:faOk prog 184 0=some 0:=by kernel_rfl
theorem fa184x1:faOk prog 184 1=some 1:=by kernel_rfl
theorem fa184x2:faOk prog 184 2=some 2:=by kernel_rfl
theorem sz185:szOf prog 185=some 1:=by kernel_rfl
theorem is185:(prog.info? 185).isSome=true:=by kernel_rfl
theorem ce185:prog.cellsOf 185=1:=by kernel_rfl
theorem ag185:aggT prog 185=some false:=by kernel_rfl
theorem ze185:czero prog 185=some (.pointer none):=by kernel_rfl
theorem nt185{x y:Operand}:cbin prog .eql 185 x y (.pointer none) (.pointer none)=some (.bool true):=by kernel_rfl
theorem nn185{x y:Operand}:cbin prog .neq 185 x y (.pointer none) (.pointer none)=some (.bool false):=by kernel_rfl
theorem nf185{x y:Operand}{a:Addr}:cbin prog .eql 185 x y (.pointer (some a)) (.pointer none)=some (.bool false):=by kernel_rfl
theorem ng185{x y:Operand}{a:Addr}:cbin prog .neq 185 x y (.pointer (some a)) (.pointer none)=some (.bool true):=by kernel_rfl
theorem sz187:szOf prog 187=some 2:=by kernel_rfl
theorem is187:(prog.info? 187).isSome=true:=by kernel_rfl
theorem ce187:prog.cellsOf 187=2:=by kernel_rfl
theorem ag187:aggT prog 187=some true:=by kernel_rfl
theorem ze187:czero prog 187=some (.agg #[.int .i64 0,.slice none 0 0]):=by kernel_rfl
theorem fa187x0:faOk prog 187 0=some 0:=by kernel_rfl
theorem fa187x1:faOk prog 187 1=some 1:=by kernel_rfl
theorem sz193:szOf prog 193=some 3:=by kernel_rfl
theorem is193:(prog.info? 193).isSome=true:=by kernel_rfl
theorem ce193:prog.cellsOf 193=3:=by kernel_rfl
theorem ag193:aggT prog 193=some true:=by kernel_rfl
theorem ze193:czero prog 193=some (.agg #[.slice none 0 0,.int .i64 0,.int .i64 0]):=by kernel_rfl
theorem fa193x0:faOk prog 193 0=some 0:=by kernel_rfl
theorem fa193x1:faOk prog 193 1=some 1:=by kernel_rfl
theorem fa193x2:faOk prog 193 2=some 2:=by kernel_rfl
theorem sz209:szOf prog 209=some 1:=by kernel_rfl
theorem is209:(prog.info? 209).isSome=true:=by kernel_rfl
theorem ce209:prog.cellsOf 209=1:=by kernel_rfl
theorem ag209:aggT prog 209=some false:=by kernel_rfl
theorem ze209:czero prog 209=some (.pointer none):=by kernel_rfl
theorem nt209{x y:Operand}:cbin prog .eql 209 x y (.pointer none) (.pointer none)=some (.bool true):=by kernel_rfl
theorem nn209{x y:Operand}:cbin prog .neq 209 x y (.pointer none) (.pointer none)=some (.bool false):=by kernel_rfl
theorem nf209{x y:Operand}{a:Addr}:cbin prog .eql 209 x y (.pointer (some a)) (.pointer none)=some (.bool false):=by kernel_rfl
theorem ng209{x y:Operand}{a:Addr}:cbin prog .neq 209 x y (.pointer (some a)) (.pointer none)=some (.bool true):=by kernel_rfl
theorem sz211:szOf prog 211=some 1:=by kernel_rfl
theorem is211:(prog.info? 211).isSome=true:=by kernel_rfl
theorem ce211:prog.cellsOf 211=1:=by kernel_rfl
theorem ag211:aggT prog 211=some false:=by kernel_rfl
theorem ze211:czero prog 211=some (.pointer none):=by kernel_rfl
theorem nt211{x y:Operand}:cbin prog .eql 211 x y (.pointer none) (.pointer none)=some (.bool true):=by kernel_rfl
theorem nn211{x y:Operand}:cbin prog .neq 211 x y (.pointer none) (.pointer none)=some (.bool false):=by kernel_rfl
theorem nf211{x y:Operand}{a:Addr}:cbin prog .eql 211 x y (.pointer (some a)) (.pointer none)=some (.bool false):=by kernel_rfl
theorem ng211{x y:Operand}{a:Addr}:cbin prog .neq 211 x y (.pointer (some a)) (.pointer none)=some (.bool true):=by kernel_rfl
theorem sz220:szOf prog 220=some 1:=by kernel_rfl
theorem is220:(prog.info? 220).isSome=true:=by kernel_rfl
theorem ce220:prog.cellsOf 220=1:=by kernel_rfl
theorem ag220:aggT prog 220=some false:=by kernel_rfl
theorem sz224:szOf prog 224=some 1:=by kernel_rfl
theorem is224:(prog.info? 224).isSome=true:=by kernel_rfl
theorem ce224:prog.cellsOf 224=1:=by kernel_rfl
theorem ag224:aggT prog 224=some false:=by kernel_rfl
theorem sz227:szOf prog 227=some 1:=by kernel_rfl
theorem is227:(prog.info? 227).isSome=true:=by kernel_rfl
theorem ce227:prog.cellsOf 227=1:=by kernel_rfl
theorem ag227:aggT prog 227=some false:=by kernel_rfl
theorem sz234:szOf prog 234=some 1:=by kernel_rfl
theorem is234:(prog.info? 234).isSome=true:=by kernel_rfl
theorem ce234:prog.cellsOf 234=1:=by kernel_rfl
theorem ag234:aggT prog 234=some false:=by kernel_rfl
theorem ze234:czero prog 234=some (.map none):=by kernel_rfl
theorem nt234{x y:Operand}:cbin prog .eql 234 x y (.map none) (.map none)=some (.bool true):=by kernel_rfl
theorem nn234{x y:Operand}:cbin prog .neq 234 x y (.map none) (.map none)=some (.bool false):=by kernel_rfl
theorem nf234{x y:Operand}{a:Nat}:cbin prog .eql 234 x y (.map (some a)) (.map none)=some (.bool false):=by kernel_rfl
theorem ng234{x y:Operand}{a:Nat}:cbin prog .neq 234 x y (.map (some a)) (.map none)=some (.bool true):=by kernel_rfl
theorem sz235:szOf prog 235=some 1:=by kernel_rfl
theorem ag235:aggT prog 235=some false:=by kernel_rfl
theorem sz237:szOf prog 237=some 3:=by kernel_rfl
theorem is237:(prog.info? 237).isSome=true:=by kernel_rfl
theorem ce237:prog.cellsOf 237=3:=by kernel_rfl
theorem ag237:aggT prog 237=some true:=by kernel_rfl
theorem ze237:czero prog 237=some (.agg #[.slice none 0 0,.map none,.int .i64 0]):=by kernel_rfl
theorem fa237x0:faOk prog 237 0=some 0:=by kernel_rfl
theorem fa237x1:faOk prog 237 1=some 1:=by kernel_rfl
theorem fa237x2:faOk prog 237 2=some 2:=by kernel_rfl
theorem sz238:szOf prog 238=some 1:=by kernel_rfl
theorem is238:(prog.info? 238).isSome=true:=by kernel_rfl
theorem ce238:prog.cellsOf 238=1:=by kernel_rfl
theorem ag238:aggT prog 238=some false:=by kernel_rfl
theorem ze238:czero prog 238=some (.map none):=by kernel_rfl
theorem nt238{x y:Operand}:cbin prog .eql 238 x y (.map none) (.map none)=some (.bool true):=by kernel_rfl
theorem nn238{x y:Operand}:cbin prog .neq 238 x y (.map none) (.map none)=some (.bool false):=by kernel_rfl
theorem nf238{x y:Operand}{a:Nat}:cbin prog .eql 238 x y (.map (some a)) (.map none)=some (.bool false):=by kernel_rfl
theorem ng238{x y:Operand}{a:Nat}:cbin prog .neq 238 x y (.map (some a)) (.map none)=some (.bool true):=by kernel_rfl
theorem sz240:szOf prog 240=some 2:=by kernel_rfl
theorem is240:(prog.info? 240).isSome=true:=by kernel_rfl
theorem ce240:prog.cellsOf 240=2:=by kernel_rfl
theorem ag240:aggT prog 240=some true:=by kernel_rfl
theorem ze240:czero prog 240=some (.agg #[.map none,.slice none 0 0]):=by kernel_rfl
theorem fa240x0:faOk prog 240 0=some 0:=by kernel_rfl
theorem fa240x1:faOk prog 240 1=some 1:=by kernel_rfl
theorem sz262:szOf prog 262=some 1:=by kernel_rfl
theorem ag262:aggT prog 262=some false:=by kernel_rfl
theorem is264:(prog.info? 264).isSome=true:=by kernel_rfl
theorem fa264x0:faOk prog 264 0=some 0:=by kernel_rfl
theorem fa264x1:faOk prog 264 1=some 1:=by kernel_rfl
theorem sz265:szOf prog 265=some 1:=by kernel_rfl
theorem is265:(prog.info? 265).isSome=true:=by kernel_rfl
theorem ce265:prog.cellsOf 265=1:=by kernel_rfl
theorem ag265:aggT prog 265=some false:=by kernel_rfl
theorem sz268:szOf prog 268=some 5:=by kernel_rfl
theorem is268:(prog.info? 268).isSome=true:=by kernel_rfl
theorem ce268:prog.cellsOf 268=5:=by kernel_rfl
theorem ag268:aggT prog 268=some true:=by kernel_rfl
theorem ze268:czero prog 268=some (.agg #[.int .i64 0,.int .i64 0,.int .i64 0,.int .i64 0,.map none]):=by kernel_rfl
theorem fa268x0:faOk prog 268 0=some 0:=by kernel_rfl
theorem fa268x1:faOk prog 268 1=some 1:=by kernel_rfl
theorem fa268x2:faOk prog 268 2=some 2:=by kernel_rfl
theorem fa268x3:faOk prog 268 3=some 3:=by kernel_rfl
theorem fa268x4:faOk prog 268 4=some 4:=by kernel_rfl
theorem sz290:szOf prog 290=some 1:=by kernel_rfl
theorem is290:(prog.info? 290).isSome=true:=by kernel_rfl
theorem ce290:prog.cellsOf 290=1:=by kernel_rfl
theorem ag290:aggT prog 290=some false:=by kernel_rfl
theorem sz292:szOf prog 292=some 5:=by kernel_rfl
theorem is292:(prog.info? 292).isSome=true:=by kernel_rfl
theorem ce292:prog.cellsOf 292=5:=by kernel_rfl
theorem ag292:aggT prog 292=some true:=by kernel_rfl
theorem ze292:czero prog 292=some (.agg #[.string ByteArray.empty,.int .i64 0,.int .i64 0,.string ByteArray.empty,.bool false]):=by kernel_rfl
theorem fa292x0:faOk prog 292 0=some 0:=by kernel_rfl
theorem fa292x1:faOk prog 292 1=some 1:=by kernel_rfl
theorem fa292x2:faOk prog 292 2=some 4:=by kernel_rfl
theorem nt306{x y:Operand}:cbin prog .eql 306 x y (.pointer none) (.pointer none)=some (.bool true):=by kernel_rfl
theorem nn306{x y:Operand}:cbin prog .neq 306 x y (.pointer none) (.pointer none)=some (.bool false):=by kernel_rfl
theorem nf306{x y:Operand}{a:Addr}:cbin prog .eql 306 x y (.pointer (some a)) (.pointer none)=some (.bool false):=by kernel_rfl
theorem ng306{x y:Operand}{a:Addr}:cbin prog .neq 306 x y (.pointer (some a)) (.pointer none)=some (.bool true):=by kernel_rfl
section
def vA(k n:Int)(x:ByteArray):Value := .agg #[.int .i64 k,.int .i64 n,.string x]
def vB(k n:Int)(x:ByteArray):Blk := .cells [.int .i64 k,.int .i64 n,.string x] 31 true
theorem isKey_spec{k n:Int}{x:ByteArray}(h:R (.bool (decide (k=3))) (s.new (vB k n x))):QC prog w0 151 #[vA k n x] s R:=by
 refine wfun2 hmix ok151 func151 rfl ntmps151 results151 (by simp) ?_
 simp -implicitDefEqProofs only[↓Zd,(Zp),Zr,simprocAttr,qP,Value.cells,cut,qC,cld2,underlying3,underlying4,underlying31,vA,is31,ag31,ce31,fa31x0,fa31x1,fa31x2,ag3,ce3,ag9,ce9]
 exact h
def truthV(k n:Int):Bool := !decide (k=0) && (!decide (k=1) || !decide (n=0))
theorem truth_spec{k n:Int}{x:ByteArray}(h:R (.bool (truthV k n)) (s.new (vB k n x))):QC prog w0 176 #[vA k n x] s R:=by
 refine wfun2 hmix ok176 func176 rfl ntmps176 results176 (by simp) ?_
 unfold truthV at h
 by_cases h0:k=0
 ·simp only[h0,decide_true,Bool.not_true,Bool.false_and]at h
  subst h0
  simp -implicitDefEqProofs only[↓Zd,(Zp),Zr,simprocAttr,qP,Value.cells,cut,qC,cld2,underlying3,underlying4,underlying31,vA,is31,ag31,ce31,fa31x0,fa31x1,fa31x2,ag3,ce3,ag9,ce9]
  exact h
 ·by_cases h1:k=1
  ·subst h1
   by_cases h2:n=0
   ·subst h2
    simp -implicitDefEqProofs only[↓Zd,(Zp),Zr,simprocAttr,qP,Value.cells,cut,qC,cld2,underlying3,underlying4,underlying31,vA,is31,ag31,ce31,fa31x0,fa31x1,fa31x2,ag3,ce3,ag9,ce9]
    exact h
   ·simp only[h2,decide_false,Bool.not_false,Bool.or_true,Bool.and_true]at h
    simp -implicitDefEqProofs only[↓Zd,(Zp),Zr,simprocAttr,qP,Value.cells,cut,qC,cld2,underlying3,underlying4,underlying31,vA,is31,ag31,ce31,fa31x0,fa31x1,fa31x2,ag3,ce3,ag9,ce9,h2]
    exact h
  ·simp only[h0,h1,decide_false,Bool.not_false,Bool.true_or,Bool.and_true]at h
   simp -implicitDefEqProofs only[↓Zd,(Zp),Zr,simprocAttr,qP,Value.cells,cut,qC,cld2,underlying3,underlying4,underlying31,vA,is31,ag31,ce31,fa31x0,fa31x1,fa31x2,ag3,ce3,ag9,ce9,h0,h1]
   exact h
end
def I64(n:Int):Prop := -9223372036854775808≤n∧n≤9223372036854775807
def idxOf:List ByteArray→ByteArray→Option Nat
 | [],_=>none
 |y::T,x=>if y=x then some 0 else (idxOf T x).map (·+1)
def entsFrom:List ByteArray→Nat→List MapEntry
 | [],_=>[]
 |y::T,i=>{ key := .string y,val := .int .i64 ((i+1:Nat):Int),born:=i }::entsFrom T (i+1)
theorem ents_app:∀ (T:List ByteArray) (x:ByteArray) (i:Nat),entsFrom (T ++ [x]) i=entsFrom T i ++ [{ key := .string x,val := .int .i64 ((i+T.length+1:Nat):Int),born:=i+T.length }]:=by
 intro T;induction T with
 |nil=>intro x i;rfl
 |cons y T ih=>intro x i;simp only[List.cons_append,entsFrom,ih,List.length_cons];rw[show i+1+T.length=i+(T.length+1) from by omega]
theorem find_ents:∀ (T:List ByteArray) (x:ByteArray) (i:Nat),Instr.findNow .string (.string x) (entsFrom T i) i=some ((idxOf T x).map fun j=>(i+j,.int .i64 ((i+j+1:Nat):Int))):=by
 intro T;induction T with
 |nil=>intro x i;rfl
 |cons y T ih =>
  intro x i
  simp only[entsFrom,Instr.findNow,Instr.sameNow,idxOf]
  by_cases e:y=x
  ·subst e
   have:(y == y)=true:=ba_beq_iff.2 rfl
   rw[this]
   simp
  ·have:(x == y)=false:=by rw[Bool.eq_false_iff];intro h;exact e (ba_beq_iff.1 h).symm
   rw[this]
   simp only[if_neg e,ih]
   cases idxOf T x with
   |none=>rfl
   |some j=>simp;omega
theorem cfind_ents(T:List ByteArray)(x:ByteArray):cfind prog 9 (.string x) (entsFrom T 0)=some ((idxOf T x).map fun j=>(j,.int .i64 ((j+1:Nat):Int))):=by
 unfold cfind
 rw[if_pos (show plain 6 (Value.string x)=true from rfl),underlying9]
 simp only[find_ents,Nat.zero_add]
theorem idx_lt:∀ {T:List ByteArray}{x:ByteArray}{j:Nat},idxOf T x=some j→j<T.length∧T[j]?=some x:=by
 intro T;induction T with
 |nil=>intro x j h;cases h
 |cons y T ih =>
  intro x j h
  unfold idxOf at h
  split at h
  ·rename_i e;cases h;simp[e]
  ·obtain⟨i,hi,rfl⟩:=Option.map_eq_some_iff.1 h
   have:=ih hi
   simpa using this
def ofT(T:List ByteArray)(x:ByteArray):List ByteArray:=match idxOf T x with
 |some _=>T
 |none=>T ++ [x]
def ofN(T:List ByteArray)(x:ByteArray):Int:=match idxOf T x with
 |some j=>((j+1:Nat):Int)
 |none=>((T.length+1:Nat):Int)
theorem infoStr:∃ ie,prog.info? 9=some ie∧ie.size=1∧ie.bytes=16:=by
 obtain⟨ie,h⟩:=Option.isSome_iff_exists.1 is9
 have h1:=ce9
 have h2:prog.bytesOf 9=16:=by kernel_rfl
 rw[cellsOf_info h]at h1
 simp only[Program.bytesOf,h]at h2
 exact⟨ie,h,h1,h2⟩
theorem rowStr(x:ByteArray):crow prog 39 1 #[(0,.string x)]=some (.cells [.string x] 9 true):=by kernel_rfl
section
theorem app_str{s:St M}{sl:Value}{T:List ByteArray}{x:ByteArray}(hlen:T.length≤1099511627776)(hsl:SlC 9 1 s sl (T.map .string) T.length)(hfr:∀ q m c,sl = .slice (some q) m c→q.block<s.next) :
  ∃ s',capp prog #[39,39] #[sl,.slice (some ⟨s.next,0,none⟩) 1 1] (s.new (.cells [.string x] 9 true))=some (.slice (some ⟨s.next+1,0,none⟩) (T.length+1) UNK,s')∧s'.next=s.next+2 ∧
   s'.at' (s.next+1)=some (.cells ((T ++ [x]).map .string) 9 true)∧(∀ b,b<s.next→(∀ q m c,sl = .slice (some q) m c→b≠q.block)→s'.at' b=s.at' b):=by
 obtain⟨ie,hie,h1,h2⟩:=infoStr
 have hcapp:capp prog #[39,39] #[sl,.slice (some ⟨s.next,0,none⟩) 1 1] (s.new (.cells [.string x] 9 true))=capp3 prog 9 ie sl (s.new (.cells [.string x] 9 true)) (cmore ie.size (.slice (some ⟨s.next,0,none⟩) 1 1) (s.new (.cells [.string x] 9 true))):=
  app_eq underlying39 underlying39 hie
 have hv:cmore ie.size (.slice (some ⟨s.next,0,none⟩) 1 1) (s.new (.cells [.string x] 9 true))=some (1,[.string x]):=by
  simp only[more_at,St.at_new,if_true,more2,h1];rfl
 obtain⟨s',h3,h4,h5,h6⟩:=app_row (n:=T.length) (k:=1) hie ze9 (by rw[h1];rfl) (by omega) hcapp (by omega) (by rw[h2];omega) rfl hv (by rw[h1];exact hsl.same fun q m c e=>by rw[St.at_new,if_neg (by have:=hfr q m c e;omega)])
 refine⟨s',by simpa using h3,by simp at h4;omega,by simpa using h5,fun b hb hq=>?_⟩
 rw[h6 b (by simp;omega) hq,St.at_new,if_neg (by omega)]
structure TabAt(lo:Nat)(s:St M)(p:Nat)(T:List ByteArray)(O:Nat→Prop):Prop where
 own:∀ b,O b→lo≤b∧b<s.next
 pin:O p
 bl:∃ m sl,s.at' p=some (.cells [.map (some m),sl] 240 true)∧s.at' m=some (.map (entsFrom T 0) T.length)∧O m∧m≠p∧SlC 9 1 s sl (T.map .string) T.length∧(∀ q n c,sl = .slice (some q) n c→O q.block∧q.block≠p∧q.block≠m)
theorem TabAt.same{lo:Nat}{s s':St M}{p:Nat}{T:List ByteArray}{O:Nat→Prop}(h:TabAt lo s p T O)(hn:s.next≤s'.next)(hs:∀ b,O b→s'.at' b=s.at' b):TabAt lo s' p T O:=by
 obtain⟨h1,h2,m,sl,h3,h4,h5,h6,h7,h8⟩:=h
 exact⟨fun b hb=>⟨(h1 b hb).1,by have:=(h1 b hb).2;omega⟩,h2,m,sl,by rw[hs _ h2];exact h3,by rw[hs _ h5];exact h4,h5,h6,h7.same fun q n c e=>hs _ (h8 q n c e).1,h8⟩
theorem dead_spec{p:Nat}{m:Nat}{sl:Value}(h0:s.at' p=some (.cells [.map (some m),sl] 240 true))(h:R (.bool false) s):QC prog w0 267 #[.pointer (some ⟨p,0,none⟩)] s R:=by
 refine wfun2 hmix ok267 func267 rfl ntmps267 results267 (by simp) ?_
 simp -implicitDefEqProofs only[↓Zd,(Zp),Zr,simprocAttr,qP,Value.cells,cut,qC,cld2,underlying3,underlying4,underlying9,underlying5,underlying38,underlying0,be4,bn4,underlying238,h0,nf145,nf238,fa240x0,ag238]
 exact h
theorem find_spec{lo p:Nat}{T:List ByteArray}{x:ByteArray}{O:Nat→Prop}(hT:TabAt lo s p T O)(h:R (match idxOf T x with|some j => .tuple #[.int .i64 ((j+1:Nat):Int),.bool true]|none => .tuple #[.int .i64 0,.bool false]) s) :
  QC prog w0 219 #[.pointer (some ⟨p,0,none⟩),.string x] s R:=by
 refine wfun2 hmix ok219 func219 rfl ntmps219 results219 (by simp) ?_
 obtain⟨h1,h2,m,sl,h3,h4,h5,h6,h7,h8⟩:=hT
 simp -implicitDefEqProofs only[↓Zd,(Zp),Zr,simprocAttr,qP,Value.cells,cut,qC,cld2,underlying3,underlying4,underlying9,underlying5,underlying38,underlying0,be4,bn4,co267]
 refine dead_spec h3 ?_
 cases hi:idxOf T x with
 |none =>
  rw[hi]at h
  simp -implicitDefEqProofs only[↓Zd,(Zp),Zr,simprocAttr,qP,Value.cells,cut,qC,cld2,underlying3,underlying4,underlying9,underlying5,underlying38,underlying0,be4,bn4,underlying238,underlying265,h3,h4,cfind_ents,hi,ze3,fa240x0,ag238]
  exact h
 |some j =>
  rw[hi]at h
  simp -implicitDefEqProofs only[↓Zd,(Zp),Zr,simprocAttr,qP,Value.cells,cut,qC,cld2,underlying3,underlying4,underlying9,underlying5,underlying38,underlying0,be4,bn4,underlying238,underlying265,h3,h4,cfind_ents,hi,ze3,fa240x0,ag238]
  exact h
theorem of_spec{lo p:Nat}{T:List ByteArray}{x:ByteArray}{O:Nat→Prop}(hT:TabAt lo s p T O)(hlo:lo≤s.next)(hlen:T.length≤1099511627776)
  (h:∀ s' O',TabAt lo s' p (ofT T x) O'→s.next≤s'.next→(∀ b,b<s.next→¬ O b→s'.at' b=s.at' b)→(∀ b,O' b→O b∨s.next≤b)→R (.int .i64 (ofN T x)) s') :
  QC prog w0 227 #[.pointer (some ⟨p,0,none⟩),.string x] s R:=by
 refine wfun2 hmix ok227 func227 rfl ntmps227 results227 (by simp) ?_
 have hT0:=hT
 obtain⟨h1,h2,m,sl,h3,h4,h5,h6,h7,h8⟩:=hT
 simp -implicitDefEqProofs only[↓Zd,(Zp),Zr,simprocAttr,qP,Value.cells,cut,qC,cld2,underlying3,underlying4,underlying9,underlying5,underlying38,underlying0,be4,bn4,co267]
 refine dead_spec h3 ?_
 cases hi:idxOf T x with
 |some j =>
  unfold ofT ofN at h
  simp only[hi]at h
  simp -implicitDefEqProofs only[↓Zd,(Zp),Zr,simprocAttr,qP,Value.cells,cut,qC,cld2,underlying3,underlying4,underlying9,underlying5,underlying38,underlying0,be4,bn4,underlying238,underlying265,h3,h4,cfind_ents,hi,ze3,fa240x0,ag238]
  exact h s O hT0 (Nat.le_refl _) (fun _ _ _=>rfl) (fun b hb => .inl hb)
 |none =>
  unfold ofT ofN at h
  simp only[hi]at h
  obtain⟨s3,happ,hn3,hat3,hk3⟩:=app_str (x:=x) hlen h7 (fun q n c e=>(h1 _ (h8 q n c e).1).2)
  have hp3:s3.at' p=some (.cells [.map (some m),sl] 240 true):=by rw[hk3 p (h1 p h2).2 (fun q n c e=>(h8 q n c e).2.1.symm)];exact h3
  have hm3:s3.at' m=some (.map (entsFrom T 0) T.length):=by rw[hk3 m (h1 m h5).2 (fun q n c e=>(h8 q n c e).2.2.symm)];exact h4
  have hmp:¬ m=p:=h6
  have hpm:¬ p=m:=fun e=>h6 e.symm
  have hpn:p<s.next:=(h1 p h2).2
  have hmn:m<s.next:=(h1 m h5).2
  simp -implicitDefEqProofs only[↓Zd,(Zp),Zr,simprocAttr,qP,Value.cells,cut,qC,cld2,underlying3,underlying4,underlying9,underlying5,underlying38,underlying0,be4,bn4,underlying238,underlying39,underlying265,h3,h4,cfind_ents,hi,ze3,fa240x0,fa240x1,ag238,ag39,sz39,rowStr,happ,hp3,hm3,hmp,hpm]
  refine h _ (fun b=>b=p∨b=m∨b=s.next+1) ⟨?_,.inl rfl,m,.slice (some ⟨s.next+1,0,none⟩) (T.length+1) UNK,?_,?_,.inr (.inl rfl),h6,?_,?_⟩ ?_ ?_ ?_
  ·rintro b (rfl|rfl|rfl)
   ·exact⟨(h1 _ h2).1,by simp only[St.next_put];omega⟩
   ·exact⟨(h1 _ h5).1,by simp only[St.next_put];omega⟩
   ·exact⟨by omega,by simp only[St.next_put];omega⟩
  ·rw[St.at_put,if_neg hpm,St.at_put,if_pos rfl]
  ·rw[St.at_put,if_pos rfl,ents_app]
   simp
  ·refine .inr ⟨s.next+1,UNK,by simp,.inl rfl,?_,by simp⟩
   rw[St.at_put,if_neg (by omega),St.at_put,if_neg (by omega)]
   exact hat3
  ·intro q n c e
   cases e
   exact⟨.inr (.inr rfl),by show s.next+1≠p;omega,by show s.next+1≠m;omega⟩
  ·simp only[St.next_put];omega
  ·intro b hb ho
   rw[St.at_put,if_neg (fun e:b=m=>ho (e▸h5)),St.at_put,if_neg (fun e:b=p=>ho (e▸h2))]
   exact hk3 b hb (fun q n c e e2=>ho (e2▸(h8 q n c e).1))
  ·rintro b (rfl|rfl|rfl)
   ·exact .inl h2
   ·exact .inl h5
   ·exact .inr (by omega)
def txtV(T:List ByteArray)(i:Int):Value:=if 1≤i∧i≤T.length then .tuple #[.string (T.getD (i.toNat - 1) ⟨#[]⟩),.bool true] else .tuple #[.string ⟨#[]⟩,.bool false]
theorem text_spec{lo p:Nat}{T:List ByteArray}{O:Nat→Prop}{i:Int}(hi : -9223372036854775808≤i∧i≤9223372036854775807)(hT:TabAt lo s p T O)(h:R (txtV T i) s):QC prog w0 260 #[.pointer (some ⟨p,0,none⟩),.int .i64 i] s R:=by
 refine wfun2 hmix ok260 func260 rfl ntmps260 results260 (by simp) ?_
 obtain⟨h1,h2,m,sl,h3,h4,h5,h6,h7,h8⟩:=hT
 unfold txtV at h
 simp -implicitDefEqProofs only[↓Zd,(Zp),Zr,simprocAttr,qP,Value.cells,cut,qC,cld2,underlying3,underlying4,underlying9,underlying5,underlying38,underlying0,be4,bn4,co267]
 refine dead_spec h3 ?_
 by_cases i1:i<1
 ·rw[if_neg (by omega)]at h
  simp -implicitDefEqProofs only[↓Zd,(Zp),Zr,simprocAttr,qP,Value.cells,cut,qC,cld2,underlying3,underlying4,underlying9,underlying5,underlying38,underlying0,be4,bn4,i1]
  exact h
 ·rcases h7 with ⟨e1,_,rfl⟩|⟨b,c,rfl,_,h9,_⟩
  ·have i2:0<i:=by omega
   rw[if_neg (by omega)]at h
   simp -implicitDefEqProofs only[↓Zd,(Zp),Zr,simprocAttr,qP,Value.cells,cut,qC,cld2,underlying3,underlying4,underlying9,underlying5,underlying38,underlying0,be4,bn4,underlying39,h3,fa240x1,ag39,i1,i2]
   exact h
  ·by_cases i2:(T.length:Int)<i
   ·rw[if_neg (by omega)]at h
    simp -implicitDefEqProofs only[↓Zd,(Zp),Zr,simprocAttr,qP,Value.cells,cut,qC,cld2,underlying3,underlying4,underlying9,underlying5,underlying38,underlying0,be4,bn4,underlying39,h3,fa240x1,ag39,i1,i2]
    exact h
   ·rw[if_pos (by omega)]at h
    obtain⟨j,rfl⟩:∃ j:Nat,i=((j+1:Nat):Int):=⟨(i - 1).toNat,by omega⟩
    have w1:IntKind.i64.wrap (((j+1:Nat):Int) - 1)=(j:Int):=by rw[wrap_i64 (by omega)];omega
    have hj:(0:Int)≤(j:Int)∧(j:Int)<(T.length:Int):=by omega
    have hx:(T.map Value.string)[j]?=some (.string (T.getD j ⟨#[]⟩)):=by
     have:j<T.length:=by omega
     simp[this]
    simp -implicitDefEqProofs only[↓Zd,(Zp),Zr,simprocAttr,qP,Value.cells,cut,qC,cld2,underlying3,underlying4,underlying9,underlying5,underlying38,underlying0,be4,bn4,underlying39,h3,h9,fa240x1,ag39,ag9,sz9,i1,i2,w1,hj,hx,Nat.mul_one,Nat.zero_add]
    simpa using h
end
section
end
section
structure BAt(s0 s:St M)(p:Nat)(l:List UInt8):Prop where
 le:s0.le s
 lo:s0.next≤p
 hi:p<s.next
 bl:∃ ad sl,s.at' p=some (.cells [ad,sl] 105 true)∧(ad = .pointer none∨ad = .pointer (some ⟨p,0,none⟩)) ∧
  ((l=[]∧sl = .slice none 0 0)∨(l ≠ []∧∃ b,sl = .slice (some ⟨b,0,none⟩) l.length UNK∧s.at' b=some (.cells (l.map toV) 5 true)∧b≠p∧s0.next≤b∧b<s.next))
theorem BAt.more{s0 s s1 s3:St M}{p q:Nat}{l new:List UInt8}{sl:Value}(hlo:s0.next≤p)(hle:s0.le s3)(hp3:s3.at' p=some (.cells [.pointer (some ⟨p,0,none⟩),sl] 105 true))(hne:new ≠ [])(hq:s3.at' q=some (.cells ((l++new).map toV) 5 true))(hqp:q≠p)(hq0:s0.next≤q)(hq1:q<s3.next)(hp1:p<s3.next) :
  BAt s0 (s3.put p (.cells [.pointer (some ⟨p,0,none⟩),.slice (some ⟨q,0,none⟩) (l++new).length UNK] 105 true)) p (l++new) where
 le:=lP hle hlo
 lo:=hlo
 hi:=hp1
 bl:=⟨_,_,by rw[St.at_put,if_pos rfl],.inr rfl,.inr ⟨by simp[hne],q,rfl,by rw[St.at_put,if_neg hqp];exact hq,hqp,hq0,hq1⟩⟩
end

section
end
section
theorem digits_spec {n : Int} (hn : -9223372036854775808 ≤ n ∧ n ≤ 9223372036854775807) (h : ∀ s', s.le s' → R (.string (digS n)) s') : QC prog w0 58 #[.int .i64 n] s R := by
  refine wfun2 hmix ok58 func58 rfl ntmps58 results58 (by simp) ?_
  by_cases hneg : n < 0
  all_goals
    simp -implicitDefEqProofs only [↓Zd, (Zp), if_true, if_false, ne_eq, implies_true, forall_const, Nat.reduceEqDiff, reduceIte, reduceCtorEq, Int.reduceEq, Int.reduceNeg, Int.reduceLE, Int.reduceLT, Nat.reduceAdd, Nat.reduceLeDiff, Int.reduceToNat, Nat.reduceMul, Nat.reduceBEq, qP, Value.cells, cut, qC, cld2, underlying3, underlying4, underlying174, underlying9, underlying5, underlying173, hneg, ze173]
    refine wloop_fix hmix [12, 13, 4, 14, 15, 16, 17, 18, 19, 20, 21, 5, 22, 23] (fun k env s' => ∃ (at' left : Nat) (vs : List Value) (l : List UInt8), k = at' ∧ at' ≤ 20 ∧ env 4 = .int .i64 at' ∧ env 5 = .int .u64 left ∧
      s.le s' ∧ s'.at' s.next = some (.cells vs 173 true) ∧ vs.length = 20 ∧ vs.drop at' = l.map toV ∧ decL n.natAbs = decL left ++ l ∧ (1 ≤ left ∨ at' = 20) ∧ left < 10 ^ (at' - if n < 0 then 1 else 0) ∧ left ≤ 9223372036854775808) 20 ?_ ?_
    · refine ⟨20, n.natAbs, _, [], rfl, by omega, ?_, ?_, ?_, by simp only [St.at_new, if_true]; rfl, ?_, ?_, ?_, ?_, ?_, by omega⟩
      · rfl
      · show Value.int IntKind.u64 _ = _
        congr 1
        first
          | (rw [wrap_u64_negneg (by omega)]; omega)
          | (rw [wrap_u64 (by omega)]; omega)
      · exact lN (lR s)
      · rfl
      · rfl
      · simp
      · simp
      · split <;> simp <;> omega
    · rintro k env s' hF ⟨at', left, vs, l, rfl, h20, e4, e5, hs, hb, hl, hd, hN, h1, hp, hl64⟩
      have e3 : env 3 = .pointer (some ⟨s.next, 0, none⟩) := by rw [hF 3 rfl]; rfl
      have e0 : env 0 = .int .i64 n := by rw [hF 0 rfl]; rfl
      obtain ⟨j, rfl⟩ : ∃ j, k = j + 1 := by
        cases k with
        | zero =>
          have : (0 - if n < 0 then 1 else 0) = 0 := by omega
          rw [this] at hp
          omega
        | succ j => exact ⟨j, rfl⟩
      have w1 : IntKind.i64.wrap (((j + 1 : Nat) : Int) - 1) = (j : Int) := by rw [wrap_i64 (by omega)]; omega
      have w2 : (left : Int).tmod 10 = ((left % 10 : Nat) : Int) := by rw [Int.tmod_eq_emod_of_nonneg (by omega)]; omega
      have w3 : IntKind.u8.wrap ((left % 10 : Nat) : Int) = ((left % 10 : Nat) : Int) := wrap_u8 (by omega)
      have w4 : IntKind.u8.wrap (48 + ((left % 10 : Nat) : Int)) = ((48 + left % 10 : Nat) : Int) := by rw [wrap_u8 (by omega)]; omega
      have w5 : (left : Int).tdiv 10 = ((left / 10 : Nat) : Int) := by rw [Int.tdiv_eq_ediv_of_nonneg (by omega)]; omega
      have w6 : IntKind.u64.wrap ((left / 10 : Nat) : Int) = ((left / 10 : Nat) : Int) := wrap_u64 (by omega)
      have hj : (0 : Int) ≤ (j : Int) ∧ (j : Int) < ((20 : Nat) : Int) := by omega
      have hj' : j + 1 ≤ vs.length := by omega
      simp -implicitDefEqProofs only [↓Zd, (Zp), if_true, if_false, ne_eq, implies_true, forall_const, Nat.reduceEqDiff, reduceIte, reduceCtorEq, Int.reduceEq, Int.reduceNeg, Int.reduceLE, Int.reduceLT, Nat.reduceAdd, Nat.reduceLeDiff, Int.reduceToNat, Nat.reduceMul, Nat.reduceBEq, qP, Value.cells, cut, qC, cld2, underlying3, underlying4, underlying174, underlying9, underlying5, underlying173, hneg, e0, e3, e4, e5, w1, w2, w3, w4, w5, w6, hb, sz5, hj, hj']
      refine c2_split (fun hz => ?_) (fun hz => ?_)
      · have hz' : left < 10 := by simp at hz; omega
        rw [decL_lt hz'] at hN
        have hvs : (vs.set j (.int .u8 ((48 + left % 10 : Nat) : Int))).drop j = (UInt8.ofNat (48 + left) :: l).map toV := by
          rw [drop_set_self (by omega), hd, List.map_cons, toV_ofNat (by omega), Nat.mod_eq_of_lt hz']
        simp only [List.cons_append, List.nil_append] at hN
        have hr : ∀ (i : Nat), i < 20 → cslice prog 173 (.pointer (some ⟨s.next, 0, none⟩)) (some (.int .i64 (i : Int))) (some (.int .i64 20)) (some (.int .i64 20)) = some (.slice (some ⟨s.next, i, none⟩) (20 - i) (20 - i)) := by
          intro i hi
          have := sl_arr3 (k1 := .i64) (k2 := .i64) (k3 := .i64) (a := ⟨s.next, 0, none⟩) (l := i) (h := 20) (m := 20) underlying173 sz5 (by omega) (by omega) (by omega) (by simp [UNK])
          rw [if_neg (by omega), add_mk, Nat.mul_one, Nat.zero_add] at this
          exact this
        rcases (show n < 0 ∨ 0 ≤ n by omega) with hlt | hge
        · first
          | exact absurd hlt hneg
          | (have hj1 : 1 ≤ j := by
               rcases Nat.eq_zero_or_pos j with h0 | h0
               · subst h0; simp only [hneg, if_true] at hp; omega
               · exact h0
             obtain ⟨i, rfl⟩ : ∃ i, j = i + 1 := ⟨j - 1, by omega⟩
             have w7 : IntKind.i64.wrap (((i + 1 : Nat) : Int) - 1) = (i : Int) := by rw [wrap_i64 (by omega)]; omega
             have hi : (0 : Int) ≤ (i : Int) ∧ (i : Int) < ((20 : Nat) : Int) := by omega
             have hi' : i + 1 ≤ (vs.set (i + 1) (.int .u8 ((48 + left % 10 : Nat) : Int))).length := by simp; omega
             have hsl := hr i (by omega)
             have hbs := cbs2_drop (e := 173) (w := true) (vs := (vs.set (i + 1) (.int .u8 ((48 + left % 10 : Nat) : Int))).set i (.int .u8 45)) (j := i) (N := 20) (l := 45 :: UInt8.ofNat (48 + left) :: l) (by simp [hl]) (by omega) (by
               rw [drop_set_self (by simp; omega), hvs]; rfl)
             simp -implicitDefEqProofs only [↓Zd, (Zp), if_true, if_false, ne_eq, implies_true, forall_const, Nat.reduceEqDiff, reduceIte, reduceCtorEq, Int.reduceEq, Int.reduceNeg, Int.reduceLE, Int.reduceLT, Nat.reduceAdd, Nat.reduceLeDiff, Int.reduceToNat, Nat.reduceMul, Nat.reduceBEq, qP, Value.cells, cut, qC, cld2, underlying3, underlying4, underlying174, underlying9, underlying5, underlying173, underlying103, hneg, e0, e3, w7, hb, sz5, hi, hi', hsl, hbs, ↓o_bs underlying103 underlying9 underlying5]
             have e : digS n = ⟨(45 :: UInt8.ofNat (48 + left) :: l).toArray⟩ := by simp [digS, digL, hneg, hN]
             rw [← e]
             exact h _ (lP (lP hs (Nat.le_refl _)) (Nat.le_refl _)))
        · first
          | exact absurd hneg (Int.not_lt.2 hge)
          | (have hsl := hr j (by omega)
             have hbs := cbs2_drop (e := 173) (w := true) (vs := vs.set j (.int .u8 ((48 + left % 10 : Nat) : Int))) (j := j) (N := 20) (l := UInt8.ofNat (48 + left) :: l) (by simp [hl]) (by omega) hvs
             simp -implicitDefEqProofs only [↓Zd, (Zp), if_true, if_false, ne_eq, implies_true, forall_const, Nat.reduceEqDiff, reduceIte, reduceCtorEq, Int.reduceEq, Int.reduceNeg, Int.reduceLE, Int.reduceLT, Nat.reduceAdd, Nat.reduceLeDiff, Int.reduceToNat, Nat.reduceMul, Nat.reduceBEq, qP, Value.cells, cut, qC, cld2, underlying3, underlying4, underlying174, underlying9, underlying5, underlying173, underlying103, hneg, e0, e3, hb, sz5, hsl, hbs, ↓o_bs underlying103 underlying9 underlying5]
             have e : digS n = ⟨(UInt8.ofNat (48 + left) :: l).toArray⟩ := by simp [digS, digL, hneg, hN]
             rw [← e]
             exact h _ (lP hs (Nat.le_refl _)))
      · have hz' : 10 ≤ left := by simp at hz; omega
        simp -implicitDefEqProofs only [↓Zd, (Zp), if_true, if_false, ne_eq, implies_true, forall_const, Nat.reduceEqDiff, reduceIte, reduceCtorEq, Int.reduceEq, Int.reduceNeg, Int.reduceLE, Int.reduceLT, Nat.reduceAdd, Nat.reduceLeDiff, Int.reduceToNat, Nat.reduceMul, Nat.reduceBEq, qP, Value.cells, cut, qC, cld2]
        refine ⟨?_, j, by omega, j, left / 10, _, UInt8.ofNat (48 + left % 10) :: l, rfl, by omega, rfl, rfl, lP hs (Nat.le_refl _), rfl, ?_, ?_, ?_, ?_, ?_, ?_⟩
        · repeat (first | exact hF | refine Fix.upd (by decide) ?_)
        · simp [hl]
        · rw [drop_set_self (by omega), hd, List.map_cons, toV_ofNat (by omega)]
        · rw [hN, decL_ge hz', List.append_assoc]; rfl
        · left; omega
        · rw [Nat.div_lt_iff_lt_mul (by omega)]
          refine Nat.lt_of_lt_of_le hp ?_
          rw [← Nat.pow_succ]
          exact Nat.pow_le_pow_right (by omega) (by omega)
        · omega
end
section
end
def showV(k n:Int)(x:ByteArray):ByteArray:=if k=0 then ⟨#[110,117,108,108]⟩ else if k=1 then (if n=0 then ⟨#[102,97,108,115,101]⟩ else ⟨#[116,114,117,101]⟩) else if k=2 then digS n else if k=3 then x else if k=4 then ⟨#[111,98,106,101,99,116]⟩ else if k=5 then ⟨#[102,117,110,99,116,105,111,110]⟩ else ⟨#[]⟩
theorem kinds(k:Int):k=0∨k=1∨k=2∨k=3∨k=4∨k=5∨(¬ k=0∧¬ k=1∧¬ k=2∧¬ k=3∧¬ k=4∧¬ k=5):=by omega
section
theorem show_spec{k n:Int}{x:ByteArray}(hn : -9223372036854775808≤n∧n≤9223372036854775807)(h:∀ s',s.le s'→R (.string (showV k n x)) s'):QC prog w0 61 #[vA k n x] s R:=by
 refine wfun2 hmix ok61 func61 rfl ntmps61 results61 (by simp) ?_
 unfold showV at h
 rcases kinds k with rfl|rfl|rfl|rfl|rfl|rfl|⟨h0,h1,h2,h3,h4,h5⟩
 ·simp -implicitDefEqProofs only[↓Zd,(Zp),Zr,simprocAttr,qP,Value.cells,cut,qC,cld2,underlying3,underlying4,underlying9,underlying31,vA,is31,ag31,ce31,fa31x0,fa31x1,fa31x2,ag3,ce3,ag9,ce9,underlying3,underlying4,underlying9,underlying5,underlying38,underlying0,be4,bn4]
  exact h _ (lN (lR s))
 ·by_cases hz:n=0
  ·simp -implicitDefEqProofs only[↓Zd,(Zp),Zr,simprocAttr,qP,Value.cells,cut,qC,cld2,underlying3,underlying4,underlying9,underlying31,vA,is31,ag31,ce31,fa31x0,fa31x1,fa31x2,ag3,ce3,ag9,ce9,underlying3,underlying4,underlying9,underlying5,underlying38,underlying0,be4,bn4,hz]
   simp only[hz]at h
   exact h _ (lN (lR s))
  ·simp -implicitDefEqProofs only[↓Zd,(Zp),Zr,simprocAttr,qP,Value.cells,cut,qC,cld2,underlying3,underlying4,underlying9,underlying31,vA,is31,ag31,ce31,fa31x0,fa31x1,fa31x2,ag3,ce3,ag9,ce9,underlying3,underlying4,underlying9,underlying5,underlying38,underlying0,be4,bn4,hz]
   simp only[hz]at h
   exact h _ (lN (lR s))
 ·simp -implicitDefEqProofs only[↓Zd,(Zp),Zr,simprocAttr,qP,Value.cells,cut,qC,cld2,underlying3,underlying4,underlying9,underlying31,vA,is31,ag31,ce31,fa31x0,fa31x1,fa31x2,ag3,ce3,ag9,ce9,underlying3,underlying4,underlying9,underlying5,underlying38,underlying0,be4,bn4,co58]
  refine digits_spec hn fun s1 hs1=>?_
  simp -implicitDefEqProofs only[↓Zd,(Zp),Zr,simprocAttr,qP,Value.cells,cut,qC,cld2,underlying3,underlying4,underlying9,underlying31,vA,is31,ag31,ce31,fa31x0,fa31x1,fa31x2,ag3,ce3,ag9,ce9,underlying3,underlying4,underlying9,underlying5,underlying38,underlying0,be4,bn4]
  exact h _ (lT (lN (lR s)) hs1)
 ·simp -implicitDefEqProofs only[↓Zd,(Zp),Zr,simprocAttr,qP,Value.cells,cut,qC,cld2,underlying3,underlying4,underlying9,underlying31,vA,is31,ag31,ce31,fa31x0,fa31x1,fa31x2,ag3,ce3,ag9,ce9,underlying3,underlying4,underlying9,underlying5,underlying38,underlying0,be4,bn4]
  exact h _ (lN (lR s))
 ·simp -implicitDefEqProofs only[↓Zd,(Zp),Zr,simprocAttr,qP,Value.cells,cut,qC,cld2,underlying3,underlying4,underlying9,underlying31,vA,is31,ag31,ce31,fa31x0,fa31x1,fa31x2,ag3,ce3,ag9,ce9,underlying3,underlying4,underlying9,underlying5,underlying38,underlying0,be4,bn4]
  exact h _ (lN (lR s))
 ·simp -implicitDefEqProofs only[↓Zd,(Zp),Zr,simprocAttr,qP,Value.cells,cut,qC,cld2,underlying3,underlying4,underlying9,underlying31,vA,is31,ag31,ce31,fa31x0,fa31x1,fa31x2,ag3,ce3,ag9,ce9,underlying3,underlying4,underlying9,underlying5,underlying38,underlying0,be4,bn4]
  exact h _ (lN (lR s))
 ·simp only[h0,h1,h2,h3,h4,h5,if_false]at h
  simp -implicitDefEqProofs only[↓Zd,(Zp),Zr,simprocAttr,qP,Value.cells,cut,qC,cld2,underlying3,underlying4,underlying9,underlying31,vA,is31,ag31,ce31,fa31x0,fa31x1,fa31x2,ag3,ce3,ag9,ce9,underlying3,underlying4,underlying9,underlying5,underlying38,underlying0,be4,bn4,h0,h1,h2,h3,h4,h5]
  exact h _ (lN (lR s))
end
section
def wrapN(n:Int):Int:=(IntKind.i64.wrap (IntKind.u64.wrap (IntKind.u64.wrap n*2 ^ min 1 IntKind.u64.bits))).fdiv (2 ^ min 1 IntKind.i64.bits)
theorem wrap_spec{n:Int}(h:R (.int .i64 (wrapN n)) s):QC prog w0 264 #[.int .i64 n] s R:=by
 refine wfun2 hmix ok264 func264 rfl ntmps264 results264 (by simp) ?_
 simp -implicitDefEqProofs only[↓Zd,(Zp),Zr,simprocAttr,qP,Value.cells,cut,qC,cld2,underlying3,underlying174,underlying2]
 exact h
def addM(a b:Int):Int:=wrapN (IntKind.i64.wrap (IntKind.u64.wrap (IntKind.u64.wrap a+IntKind.u64.wrap b)))
theorem add_spec{a b:Int}(h:R (.int .i64 (addM a b)) s):QC prog w0 210 #[.int .i64 a,.int .i64 b] s R:=by
 refine wfun2 hmix ok210 func210 rfl ntmps210 results210 (by simp) ?_
 simp -implicitDefEqProofs only[↓Zd,(Zp),Zr,simprocAttr,qP,Value.cells,cut,qC,cld2,underlying3,underlying174,underlying2,co264]
 refine wrap_spec ?_
 simp -implicitDefEqProofs only[↓Zd,(Zp),Zr,simprocAttr,qP,Value.cells,cut,qC,cld2,underlying3,underlying174,underlying2,co264]
 exact h
def subN(a b:Int):Int:=wrapN (IntKind.i64.wrap (IntKind.u64.wrap (IntKind.u64.wrap a - IntKind.u64.wrap b)))
theorem sub_spec{a b:Int}(h:R (.int .i64 (subN a b)) s):QC prog w0 211 #[.int .i64 a,.int .i64 b] s R:=by
 refine wfun2 hmix ok211 func211 rfl ntmps211 results211 (by simp) ?_
 simp -implicitDefEqProofs only[↓Zd,(Zp),Zr,simprocAttr,qP,Value.cells,cut,qC,cld2,underlying3,underlying174,underlying2,co264]
 refine wrap_spec ?_
 simp -implicitDefEqProofs only[↓Zd,(Zp),Zr,simprocAttr,qP,Value.cells,cut,qC,cld2,underlying3,underlying174,underlying2,co264]
 exact h
def mulN(a b:Int):Int:=wrapN (IntKind.i64.wrap (IntKind.u64.wrap (IntKind.u64.wrap a*IntKind.u64.wrap b)))
theorem mul_spec{a b:Int}(h:R (.int .i64 (mulN a b)) s):QC prog w0 212 #[.int .i64 a,.int .i64 b] s R:=by
 refine wfun2 hmix ok212 func212 rfl ntmps212 results212 (by simp) ?_
 simp -implicitDefEqProofs only[↓Zd,(Zp),Zr,simprocAttr,qP,Value.cells,cut,qC,cld2,underlying3,underlying174,underlying2,co264]
 refine wrap_spec ?_
 simp -implicitDefEqProofs only[↓Zd,(Zp),Zr,simprocAttr,qP,Value.cells,cut,qC,cld2,underlying3,underlying174,underlying2,co264]
 exact h
theorem neg_spec{a:Int}(h:R (.int .i64 (subN 0 a)) s):QC prog w0 242 #[.int .i64 a] s R:=by
 refine wfun2 hmix ok242 func242 rfl ntmps242 results242 (by simp) ?_
 simp -implicitDefEqProofs only[↓Zd,(Zp),Zr,simprocAttr,qP,Value.cells,cut,qC,cld2,underlying3,underlying174,underlying2,co211]
 refine sub_spec ?_
 simp -implicitDefEqProofs only[↓Zd,(Zp),Zr,simprocAttr,qP,Value.cells,cut,qC,cld2,underlying3,underlying174,underlying2,co211]
 exact h
def wrapR(n:Int):Int:=
 if n>4611686018427387903 then IntKind.i64.wrap (IntKind.i64.wrap (IntKind.i64.wrap (IntKind.i64.wrap (n - 4611686018427387903) - 1) - 4611686018427387903) - 1)
 else if n < -4611686018427387904 then IntKind.i64.wrap (IntKind.i64.wrap (IntKind.i64.wrap (IntKind.i64.wrap (n+4611686018427387903)+1)+4611686018427387903)+1)
 else n
end
def w63(n:Int):Int:=(n+4611686018427387904) % 9223372036854775808 - 4611686018427387904
theorem wrap64(n:Int):IntKind.i64.wrap n=(n+9223372036854775808) % 18446744073709551616 - 9223372036854775808:=by
 simp only[IntKind.wrap,IntKind.bits,IntKind.signed,Bool.true_and,decide_eq_true_eq,Int.reducePow,Nat.reduceSub,ge_iff_le]
 split<;>omega
theorem wrapu64(n:Int):IntKind.u64.wrap n=n % 18446744073709551616:=by
 simp[IntKind.wrap,IntKind.bits,IntKind.signed]
theorem wrap64_I64(n:Int):I64 (IntKind.i64.wrap n):=by rw[wrap64];unfold I64;omega
theorem wrapN_eq(n:Int):wrapN n=w63 n:=by
 unfold wrapN w63
 rw[Int.fdiv_eq_ediv_of_nonneg _ (by simp[IntKind.bits])]
 simp only[wrap64,wrapu64,IntKind.bits,show min 1 64=1 from rfl,Int.pow_one]
 omega
theorem w63_wrap64(n:Int):w63 (IntKind.i64.wrap n)=w63 n:=by rw[wrap64];unfold w63;omega
theorem w63_ex(a:Int):∃ k,w63 a=a+9223372036854775808*k:=⟨-((a+4611686018427387904) / 9223372036854775808),by unfold w63;omega⟩
theorem w63_shift(a k:Int):w63 (a+9223372036854775808*k)=w63 a:=by unfold w63;omega
theorem w63_mul(a b:Int):w63 (w63 a*w63 b)=w63 (a*b):=by
 obtain⟨i,hi⟩:=w63_ex a
 obtain⟨j,hj⟩:=w63_ex b
 rw[hi,hj,show (a+9223372036854775808*i)*(b+9223372036854775808*j)=a*b+9223372036854775808*(a*j+i*b+i*(9223372036854775808*j)) from by
  simp only[Int.add_mul,Int.mul_add,Int.mul_assoc,Int.mul_comm,Int.mul_left_comm];omega,w63_shift]
theorem addN_eq(a b:Int):addM a b=w63 (a+b):=by
 unfold addM
 rw[wrapN_eq]
 simp only[wrap64,wrapu64,w63]
 omega
theorem subN_eq(a b:Int):subN a b=w63 (a - b):=by
 unfold subN
 rw[wrapN_eq]
 simp only[wrap64,wrapu64,w63]
 omega
theorem mulN_eq(a b:Int):mulN a b=w63 (a*b):=by
 unfold mulN
 rw[wrapN_eq,w63_wrap64]
 have h:∀ x,w63 (IntKind.u64.wrap x)=w63 x:=fun x=>by rw[wrapu64];unfold w63;omega
 rw[h,← w63_mul,h,h,w63_mul]
theorem wrapR_eq{n:Int}(h:I64 n):wrapR n=w63 n:=by
 unfold wrapR I64 at *
 split
 ·simp only[wrap64];unfold w63;omega
 ·split
  ·simp only[wrap64];unfold w63;omega
  ·unfold w63;omega
theorem wrapR_wrap(n:Int):wrapR (IntKind.i64.wrap n)=w63 n:=by rw[wrapR_eq (wrap64_I64 n),w63_wrap64]
section
theorem castR{R:Value→St M→Prop}{s:St M}{b b':Bool}(h:R (.bool b) s)(e:b'=b):R (.bool b') s:=e▸h
end
section
end
theorem guard31:Program.eqGuardType prog prog.depth 31=false:=by kernel_rfl
theorem stood31:prog.stoodInHeld 31=false:=by kernel_rfl
theorem part31x0(k n:Int)(x:ByteArray):pureRun prog (part 3 #[.int .i64 k,.int .i64 n,.string x] 0)=some (.int .i64 k):=by kernel_rfl
theorem part31x1(k n:Int)(x:ByteArray):pureRun prog (part 3 #[.int .i64 k,.int .i64 n,.string x] 1)=some (.int .i64 n):=by kernel_rfl
theorem part31x2(k n:Int)(x:ByteArray):pureRun prog (part 9 #[.int .i64 k,.int .i64 n,.string x] 2)=some (.string x):=by kernel_rfl
theorem eq31{k n k' n':Int}{x x':ByteArray}:pureRun prog (Go.binOp .eql 31 (vA k n x) (vA k' n' x'))=some (.bool ((k == k') && ((n == n') && (decide (x=x') && true)))):=by
 unfold vA
 simp only[Go.binOp,pureRun_bind]
 have:=pr_eqStruct (P:=prog) (d:=9999) (xs:=#[.int .i64 k,.int .i64 n,.string x]) (ys:=#[.int .i64 k',.int .i64 n',.string x']) underlying31 stood31
 rw[show Op.equal 31 (Value.agg #[.int .i64 k,.int .i64 n,.string x]) (Value.agg #[.int .i64 k',.int .i64 n',.string x'])=Op.equalIn (9999+1) 31 (Value.agg #[.int .i64 k,.int .i64 n,.string x]) (Value.agg #[.int .i64 k',.int .i64 n',.string x']) from rfl,this]
 rw[pr_eqCons (by decide) (part31x0 k n x) (part31x0 k' n' x') (pr_eqInt (d:=9998) underlying3) (pr_eqCons (by decide) (part31x1 k n x) (part31x1 k' n' x') (pr_eqInt (d:=9998) underlying3) (pr_eqCons (by decide) (part31x2 k n x) (part31x2 k' n' x') (pr_eqString (d:=9998) underlying9) pr_eqNil))]
 rfl
theorem same31{k n k' n':Int}{x x':ByteArray}{ox oy:Operand}:cbin prog .eql 31 ox oy (vA k n x) (vA k' n' x')=some (.bool (decide (k=k') && (decide (n=n') && decide (x=x')))):=by
 have h:=eq31 (k:=k) (n:=n) (x:=x) (k':=k') (n':=n') (x':=x')
 have h1:plain 6 (vA k n x)=true:=by kernel_rfl
 have h2:plain 6 (vA k' n' x')=true:=by kernel_rfl
 have h3:pureRun prog (eqGuard .eql 31 ox oy (vA k n x) (vA k' n' x'))=some ():=by
  unfold vA eqGuard
  simp only[pureRun_bind,pureRun_program,Option.bind_some,guard31,Bool.not_false,if_true,pureRun_ite,pureRun_pure]
  rfl
 unfold vA at h1 h2 h3 h ⊢
 unfold cbin
 dsimp only
 rw[if_pos ⟨h1,h2⟩]
 unfold pure6
 rw[pureRun_bind,h3,Option.bind_some,h]
 show some (Value.bool _)=_
 rw[Bool.and_true]
 congr 2
section
def sameV(k n:Int)(x:ByteArray)(k' n':Int)(x':ByteArray):Bool:=decide (k=k') && (decide (n=n') && decide (x=x'))
theorem same_spec{k n:Int}{x:ByteArray}{k' n':Int}{x':ByteArray}(h:R (.bool (sameV k n x k' n' x')) ((s.new (vB k n x)).new (vB k' n' x'))):QC prog w0 146 #[vA k n x,vA k' n' x'] s R:=by
 refine wfun2 hmix ok146 func146 rfl ntmps146 results146 (by simp) ?_
 unfold vB at h
 have he:=fun ox oy=>same31 (k:=k) (n:=n) (x:=x) (k':=k') (n':=n') (x':=x') (ox:=ox) (oy:=oy)
 unfold vA at he ⊢
 simp -implicitDefEqProofs only[↓Zd,(Zp),Zr,simprocAttr,qP,Value.cells,cut,qC,cld2,underlying3,underlying4,underlying9,underlying31,is31,ag31,ce31,wbin,he]
 exact h
theorem rsame_spec{k n:Int}{x:ByteArray}{k' n':Int}{x':ByteArray}(h:R (.bool (sameV k n x k' n' x')) ((s.new (vB k n x)).new (vB k' n' x'))):QC prog w0 91 #[vA k n x,vA k' n' x'] s R:=by
 refine wfun2 hmix ok91 func91 rfl ntmps91 results91 (by simp) ?_
 unfold vB at h
 by_cases h1:k=k'
 ·by_cases h2:n=n'
  ·simp -implicitDefEqProofs only[↓Zd,(Zp),Zr,simprocAttr,qP,Value.cells,cut,qC,cld2,underlying3,underlying4,underlying9,underlying31,vA,is31,ag31,ce31,fa31x0,fa31x1,fa31x2,ag3,ce3,ag9,ce9,h1,h2]
   refine castR (by simpa only[h1,h2] using h) ?_
   simp[sameV]
  ·simp -implicitDefEqProofs only[↓Zd,(Zp),Zr,simprocAttr,qP,Value.cells,cut,qC,cld2,underlying3,underlying4,underlying9,underlying31,vA,is31,ag31,ce31,fa31x0,fa31x1,fa31x2,ag3,ce3,ag9,ce9,h1,h2]
   refine castR (by simpa only[h1] using h) ?_
   simp[sameV,h2]
 ·simp -implicitDefEqProofs only[↓Zd,(Zp),Zr,simprocAttr,qP,Value.cells,cut,qC,cld2,underlying3,underlying4,underlying9,underlying31,vA,is31,ag31,ce31,fa31x0,fa31x1,fa31x2,ag3,ce3,ag9,ce9,h1]
  refine castR h ?_
  simp[sameV,h1]
end
section
end
section
def divN(a b:Int):Int:=if b=0 then 0 else if b = -1 then w63 (0 - a) else w63 (a.tdiv b)
def modN(a b:Int):Int:=if b=0 then 0 else if b = -1 then 0 else if b=1 then 0 else a.tmod b
def erN(b:Int):Int:=if b=0 then 31 else 0
theorem wrapN_div(a b:Int):wrapN (IntKind.i64.wrap (a.tdiv b))=w63 (a.tdiv b):=by rw[wrapN_eq,w63_wrap64]
theorem div_spec{a b:Int}(h:R (.tuple #[.int .i64 (divN a b),.int .i64 (erN b)]) s):QC prog w0 213 #[.int .i64 a,.int .i64 b] s R:=by
 refine wfun2 hmix ok213 func213 rfl ntmps213 results213 (by simp) ?_
 by_cases h0:b=0
 ·subst h0
  simp -implicitDefEqProofs only[↓Zd,(Zp),Zr,simprocAttr,qP,Value.cells,cut,qC,cld2,underlying3,underlying4,underlying38]
  exact h
 ·by_cases h1:b = -1
  ·subst h1
   simp -implicitDefEqProofs only[↓Zd,(Zp),Zr,simprocAttr,qP,Value.cells,cut,qC,cld2,underlying3,underlying4,underlying38,co242]
   refine neg_spec ?_
   simp -implicitDefEqProofs only[↓Zd,(Zp),Zr,simprocAttr,qP,Value.cells,cut,qC,cld2,underlying3,underlying4,underlying38,co242,subN_eq]
   exact h
  ·simp -implicitDefEqProofs only[↓Zd,(Zp),Zr,simprocAttr,qP,Value.cells,cut,qC,cld2,underlying3,underlying4,underlying38,co264,h0,h1]
   refine wrap_spec ?_
   simp -implicitDefEqProofs only[↓Zd,(Zp),Zr,simprocAttr,qP,Value.cells,cut,qC,cld2,underlying3,underlying4,underlying38,co264,wrapN_div]
   unfold divN erN at h
   rw[if_neg h0,if_neg h1,if_neg h0]at h
   exact h
theorem mod_spec{a b:Int}(h:R (.tuple #[.int .i64 (modN a b),.int .i64 (erN b)]) s):QC prog w0 214 #[.int .i64 a,.int .i64 b] s R:=by
 refine wfun2 hmix ok214 func214 rfl ntmps214 results214 (by simp) ?_
 by_cases h0:b=0
 ·subst h0
  simp -implicitDefEqProofs only[↓Zd,(Zp),Zr,simprocAttr,qP,Value.cells,cut,qC,cld2,underlying3,underlying4,underlying38]
  exact h
 ·by_cases h1:b = -1
  ·subst h1
   simp -implicitDefEqProofs only[↓Zd,(Zp),Zr,simprocAttr,qP,Value.cells,cut,qC,cld2,underlying3,underlying4,underlying38]
   exact h
  ·by_cases h2:b=1
   ·subst h2
    simp -implicitDefEqProofs only[↓Zd,(Zp),Zr,simprocAttr,qP,Value.cells,cut,qC,cld2,underlying3,underlying4,underlying38]
    exact h
   ·simp -implicitDefEqProofs only[↓Zd,(Zp),Zr,simprocAttr,qP,Value.cells,cut,qC,cld2,underlying3,underlying4,underlying38,h0,h1,h2]
    unfold modN erN at h
    rw[if_neg h0,if_neg h1,if_neg h2,if_neg h0]at h
    exact h
end
section
end
theorem bv0:cbuild prog 31 #[]=some (.agg #[.int .i64 0,.int .i64 0,.string ⟨#[]⟩]):=by kernel_rfl
theorem bv1(a:Int):cbuild prog 31 #[(0,.int .i64 a)]=some (.agg #[.int .i64 a,.int .i64 0,.string ⟨#[]⟩]):=by kernel_rfl
theorem bv2(a b:Int):cbuild prog 31 #[(0,.int .i64 a),(1,.int .i64 b)]=some (.agg #[.int .i64 a,.int .i64 b,.string ⟨#[]⟩]):=by kernel_rfl
theorem bv3(a:Int)(x:ByteArray):cbuild prog 31 #[(0,.int .i64 a),(2,.string x)]=some (.agg #[.int .i64 a,.int .i64 0,.string x]):=by kernel_rfl
section
theorem truth_le{k n:Int}{x:ByteArray}(h:∀ s',s.le s'→R (.bool (truthV k n)) s'):QC prog w0 176 #[vA k n x] s R:=truth_spec (h _ (lN (lR s)))
theorem same_le{k n:Int}{x:ByteArray}{k' n':Int}{x':ByteArray}(h:∀ s',s.le s'→R (.bool (sameV k n x k' n' x')) s'):QC prog w0 146 #[vA k n x,vA k' n' x'] s R:=
 same_spec (h _ (lN (lN (lR s))))
theorem rsame_le{k n:Int}{x:ByteArray}{k' n':Int}{x':ByteArray}(h:∀ s',s.le s'→R (.bool (sameV k n x k' n' x')) s'):QC prog w0 91 #[vA k n x,vA k' n' x'] s R:=
 rsame_spec (h _ (lN (lN (lR s))))
def boolN(b:Bool):Int:=if b=true then 1 else 0
theorem otruth_spec{b:Bool}(h:∀ s',s.le s'→R (vA 1 (boolN b) ⟨#[]⟩) s'):QC prog w0 145 #[.bool b] s R:=by
 refine wfun2 hmix ok145 func145 rfl ntmps145 results145 (by simp) ?_
 unfold boolN vA at h
 cases b<;>simp only[if_true,Bool.false_eq_true,if_false]at h
 ·simp -implicitDefEqProofs only[↓Zd,(Zp),Zr,simprocAttr,qP,Value.cells,cut,qC,cld2,underlying3,underlying4,underlying9,underlying31,vA,is31,ag31,ce31,fa31x0,fa31x1,fa31x2,ag3,ce3,ag9,ce9,underlying3,underlying4,underlying9,underlying5,underlying38,underlying0,be4,bn4,bv0,bv1,bv2,bv3,ze31,sz31,sz3]
  exact h _ (by repeat (first|exact lR _|assumption|refine lN ?_|refine lP ?_ (by first|omega|(simp only[(Sn)];omega))|refine lT ?_ (by assumption)))
 ·simp -implicitDefEqProofs only[↓Zd,(Zp),Zr,simprocAttr,qP,Value.cells,cut,qC,cld2,underlying3,underlying4,underlying9,underlying31,vA,is31,ag31,ce31,fa31x0,fa31x1,fa31x2,ag3,ce3,ag9,ce9,underlying3,underlying4,underlying9,underlying5,underlying38,underlying0,be4,bn4,bv0,bv1,bv2,bv3,ze31,sz31,sz3]
  exact h _ (by repeat (first|exact lR _|assumption|refine lN ?_|refine lP ?_ (by first|omega|(simp only[(Sn)];omega))|refine lT ?_ (by assumption)))
theorem owhole_spec{n:Int}(h:∀ s',s.le s'→R (vA 2 n ⟨#[]⟩) s'):QC prog w0 150 #[.int .i64 n] s R:=by
 refine wfun2 hmix ok150 func150 rfl ntmps150 results150 (by simp) ?_
 unfold vA at h
 simp -implicitDefEqProofs only[↓Zd,(Zp),Zr,simprocAttr,qP,Value.cells,cut,qC,cld2,underlying3,underlying4,underlying9,underlying31,vA,is31,ag31,ce31,fa31x0,fa31x1,fa31x2,ag3,ce3,ag9,ce9,underlying3,underlying4,underlying9,underlying5,underlying38,underlying0,be4,bn4,bv0,bv1,bv2,bv3,ze31,sz31,sz3]
 exact h _ (by repeat (first|exact lR _|assumption|refine lN ?_|refine lP ?_ (by first|omega|(simp only[(Sn)];omega))|refine lT ?_ (by assumption)))
def wholeV(n e:Int):Value:=if e=0 then vA 2 n ⟨#[]⟩ else vA 0 0 ⟨#[]⟩
def joinV(x y:ByteArray)(most:Int):Value:=if (x.size:Int)+y.size>most then .tuple #[vA 0 0 ⟨#[]⟩,.int .i64 43] else .tuple #[vA 3 0 (x++y),.int .i64 0]
theorem join_spec{x y:ByteArray}{most:Int}(hm : -1≤most∧most≤9223372036854775807)(hx:True)(hy:True)(h:∀ s',s.le s'→R (joinV x y most) s'):QC prog w0 147 #[.string x,.string y,.int .i64 most] s R:=by
 refine wfun2 hmix ok147 func147 rfl ntmps147 results147 (by simp) ?_
 unfold joinV vA at h
 by_cases h1:most<(x.size:Int)
 ·rw[if_pos (by omega)]at h
  simp -implicitDefEqProofs only[↓Zd,(Zp),Zr,simprocAttr,qP,Value.cells,cut,qC,cld2,underlying3,underlying4,underlying9,underlying31,vA,is31,ag31,ce31,fa31x0,fa31x1,fa31x2,ag3,ce3,ag9,ce9,underlying3,underlying4,underlying9,underlying5,underlying38,underlying0,be4,bn4,bv0,bv1,bv2,bv3,ze31,sz31,sz3,h1]
  exact h _ (by repeat (first|exact lR _|assumption|refine lN ?_|refine lP ?_ (by first|omega|(simp only[(Sn)];omega))|refine lT ?_ (by assumption)))
 ·have w1:IntKind.i64.wrap (most - (x.size:Int))=most - (x.size:Int):=wrap_i64 (by omega)
  by_cases h2:most - (x.size:Int)<(y.size:Int)
  ·rw[if_pos (by omega)]at h
   simp -implicitDefEqProofs only[↓Zd,(Zp),Zr,simprocAttr,qP,Value.cells,cut,qC,cld2,underlying3,underlying4,underlying9,underlying31,vA,is31,ag31,ce31,fa31x0,fa31x1,fa31x2,ag3,ce3,ag9,ce9,underlying3,underlying4,underlying9,underlying5,underlying38,underlying0,be4,bn4,bv0,bv1,bv2,bv3,ze31,sz31,sz3,h1,w1,h2]
   exact h _ (by repeat (first|exact lR _|assumption|refine lN ?_|refine lP ?_ (by first|omega|(simp only[(Sn)];omega))|refine lT ?_ (by assumption)))
  ·rw[if_neg (by omega)]at h
   have hsz:x.size+y.size≤9223372036854775807:=by omega
   simp -implicitDefEqProofs only[↓Zd,(Zp),Zr,simprocAttr,qP,Value.cells,cut,qC,cld2,underlying3,underlying4,underlying9,underlying31,vA,is31,ag31,ce31,fa31x0,fa31x1,fa31x2,ag3,ce3,ag9,ce9,underlying3,underlying4,underlying9,underlying5,underlying38,underlying0,be4,bn4,bv0,bv1,bv2,bv3,ze31,sz31,sz3,h1,w1,h2,hsz]
   exact h _ (by repeat (first|exact lR _|assumption|refine lN ?_|refine lP ?_ (by first|omega|(simp only[(Sn)];omega))|refine lT ?_ (by assumption)))
end
def ltB:List UInt8→List UInt8→Bool
 | [],[]=>false
 | [],_::_=>true
 |_::_,[]=>false
 |a::l,b::m=>if a=b then ltB l m else decide (a.toNat<b.toNat)
def cmpL(l m:List UInt8):Int:=if ltB l m=true then -1 else if ltB m l=true then 1 else 0
theorem get_bang{x:ByteArray}{i:Nat}(h:i<x.size):x[i]! = x.data.toList[i]'(by simpa using h):=by
 rw[getElem!_pos x i h]
 rfl
theorem cmp_from(x y:ByteArray):∀ (d i:Nat),i+d=min x.size y.size →
  (match (List.range' i d).find? (fun i=>x[i]! != y[i]!) with
   |some i=>if x[i]! < y[i]! then (-1:Int) else 1
   |none=>if x.size<y.size then -1 else if x.size>y.size then 1 else 0)=cmpL (x.data.toList.drop i) (y.data.toList.drop i):=by
 intro d
 induction d with
 |zero =>
  intro i h
  simp only[List.range'_zero,List.find?_nil]
  by_cases h1:x.size<y.size
  ·have e1:x.data.toList.drop i=[]:=List.drop_eq_nil_of_le (by simp;omega)
   have e2:∃ c l,y.data.toList.drop i=c::l:=⟨_,_,List.drop_eq_getElem_cons (by simp;omega)⟩
   obtain⟨c,l,e2⟩:=e2
   rw[e1,e2,if_pos h1]
   rfl
  ·by_cases h2:x.size>y.size
   ·have e1:y.data.toList.drop i=[]:=List.drop_eq_nil_of_le (by simp;omega)
    have e2:∃ c l,x.data.toList.drop i=c::l:=⟨_,_,List.drop_eq_getElem_cons (by simp;omega)⟩
    obtain⟨c,l,e2⟩:=e2
    rw[e1,e2,if_neg h1,if_pos h2]
    rfl
   ·have e1:x.data.toList.drop i=[]:=List.drop_eq_nil_of_le (by simp;omega)
    have e2:y.data.toList.drop i=[]:=List.drop_eq_nil_of_le (by simp;omega)
    rw[e1,e2,if_neg h1,if_neg h2]
    rfl
 |succ d ih =>
  intro i h
  have hx:i<x.size:=by omega
  have hy:i<y.size:=by omega
  have ex:=List.drop_eq_getElem_cons (l:=x.data.toList) (i:=i) (by simpa using hx)
  have ey:=List.drop_eq_getElem_cons (l:=y.data.toList) (i:=i) (by simpa using hy)
  rw[List.range'_succ,List.find?_cons,ex,ey]
  have gx:=get_bang hx
  have gy:=get_bang hy
  generalize x.data.toList[i]'(by simpa using hx)=a at *
  generalize y.data.toList[i]'(by simpa using hy)=b at *
  by_cases e:a=b
  ·have:(x[i]! != y[i]!)=false:=by rw[gx,gy,e];simp
   rw[this]
   have:=ih (i+1) (by omega)
   simp only at this ⊢
   rw[this]
   simp[cmpL,ltB,e]
  ·have:(x[i]! != y[i]!)=true:=by rw[gx,gy];simpa using e
   rw[this]
   have e':¬ b=a:=fun h=>e h.symm
   simp only[cmpL,ltB,e,e',if_false,gx,gy,decide_eq_true_eq]
   have hn:a.toNat≠b.toNat:=fun h=>e (UInt8.toNat_inj.1 h)
   by_cases h1:a<b
   ·rw[if_pos h1,if_pos (UInt8.lt_iff_toNat_lt.1 h1)]
   ·have:¬ a.toNat<b.toNat:=fun h=>h1 (UInt8.lt_iff_toNat_lt.2 h)
    rw[if_neg h1,if_neg this,if_pos (by omega)]
theorem cmp_eq(x y:ByteArray):Extern.BytealgCompare.cmp x y=cmpL x.data.toList y.data.toList:=by
 have:=cmp_from x y (min x.size y.size) 0 (by omega)
 simp only[List.drop_zero]at this
 rw[← this]
 unfold Extern.BytealgCompare.cmp
 rw[List.range_eq_range']
 cases List.find? (fun i=>x[i]! != y[i]!) (List.range' 0 (min x.size y.size))<;>rfl
theorem extCmp(a b:ByteArray):cextern prog 281 #[.string a,.string b]=some (.int .i64 (Extern.BytealgCompare.cmp a b)):=by kernel_rfl
section
theorem cmpString_spec{x y:ByteArray}(h:R (.int .i64 (cmpL x.data.toList y.data.toList)) s):QC prog w0 265 #[.string x,.string y] s R:=by
 refine wfun2 hmix ok265 func265 rfl ntmps265 results265 (by simp) ?_
 simp -implicitDefEqProofs only[↓Zd,(Zp),Zr,simprocAttr,qP,Value.cells,cut,qC,cld2,underlying3,underlying4,underlying9,underlying5,underlying38,underlying0,be4,bn4,no281,extCmp,cmp_eq]
 exact h
theorem compare_spec{x y:ByteArray}(h:R (.int .i64 (cmpL x.data.toList y.data.toList)) s):QC prog w0 215 #[.string x,.string y] s R:=by
 refine wfun2 hmix ok215 func215 rfl ntmps215 results215 (by simp) ?_
 simp -implicitDefEqProofs only[↓Zd,(Zp),Zr,simprocAttr,qP,Value.cells,cut,qC,cld2,underlying3,underlying4,underlying9,underlying5,underlying38,underlying0,be4,bn4,co265]
 refine cmpString_spec ?_
 simp -implicitDefEqProofs only[↓Zd,(Zp),Zr,simprocAttr,qP,Value.cells,cut,qC,cld2,underlying3,underlying4,underlying9,underlying5,underlying38,underlying0,be4,bn4]
 exact h
def orderN(k n:Int)(x:ByteArray)(n':Int)(x':ByteArray):Int:=if k=3 then cmpL x.data.toList x'.data.toList else if n<n' then -1 else if n' < n then 1 else 0
theorem order_spec{k n k' n':Int}{x x':ByteArray}(h:∀ s',s.le s'→R (.int .i64 (orderN k n x n' x')) s'):QC prog w0 149 #[vA k n x,vA k' n' x'] s R:=by
 refine wfun2 hmix ok149 func149 rfl ntmps149 results149 (by simp) ?_
 unfold orderN at h
 by_cases hk:k=3
 ·simp only[hk,if_true]at h
  simp -implicitDefEqProofs only[↓Zd,(Zp),Zr,simprocAttr,qP,Value.cells,cut,qC,cld2,underlying3,underlying4,underlying9,underlying31,vA,is31,ag31,ce31,fa31x0,fa31x1,fa31x2,ag3,ce3,ag9,ce9,underlying3,underlying4,underlying9,underlying5,underlying38,underlying0,be4,bn4,hk,co215]
  refine compare_spec ?_
  simp -implicitDefEqProofs only[↓Zd,(Zp),Zr,simprocAttr,qP,Value.cells,cut,qC,cld2,underlying3,underlying4,underlying9,underlying31,vA,is31,ag31,ce31,fa31x0,fa31x1,fa31x2,ag3,ce3,ag9,ce9,underlying3,underlying4,underlying9,underlying5,underlying38,underlying0,be4,bn4]
  exact h _ (by repeat (first|exact lR _|assumption|refine lN ?_|refine lP ?_ (by first|omega|(simp only[(Sn)];omega))|refine lT ?_ (by assumption)))
 ·simp only[hk,if_false]at h
  by_cases h1:n<n'
  ·simp only[h1,if_true]at h
   simp -implicitDefEqProofs only[↓Zd,(Zp),Zr,simprocAttr,qP,Value.cells,cut,qC,cld2,underlying3,underlying4,underlying9,underlying31,vA,is31,ag31,ce31,fa31x0,fa31x1,fa31x2,ag3,ce3,ag9,ce9,underlying3,underlying4,underlying9,underlying5,underlying38,underlying0,be4,bn4,hk,h1]
   exact h _ (by repeat (first|exact lR _|assumption|refine lN ?_|refine lP ?_ (by first|omega|(simp only[(Sn)];omega))|refine lT ?_ (by assumption)))
  ·by_cases h2:n' < n
   ·simp only[h1,h2,if_true,if_false]at h
    simp -implicitDefEqProofs only[↓Zd,(Zp),Zr,simprocAttr,qP,Value.cells,cut,qC,cld2,underlying3,underlying4,underlying9,underlying31,vA,is31,ag31,ce31,fa31x0,fa31x1,fa31x2,ag3,ce3,ag9,ce9,underlying3,underlying4,underlying9,underlying5,underlying38,underlying0,be4,bn4,hk,h1,h2]
    exact h _ (by repeat (first|exact lR _|assumption|refine lN ?_|refine lP ?_ (by first|omega|(simp only[(Sn)];omega))|refine lT ?_ (by assumption)))
   ·simp only[h1,h2,if_false]at h
    simp -implicitDefEqProofs only[↓Zd,(Zp),Zr,simprocAttr,qP,Value.cells,cut,qC,cld2,underlying3,underlying4,underlying9,underlying31,vA,is31,ag31,ce31,fa31x0,fa31x1,fa31x2,ag3,ce3,ag9,ce9,underlying3,underlying4,underlying9,underlying5,underlying38,underlying0,be4,bn4,hk,h1,h2]
    exact h _ (by repeat (first|exact lR _|assumption|refine lN ?_|refine lP ?_ (by first|omega|(simp only[(Sn)];omega))|refine lT ?_ (by assumption)))
end
def mathN(op a b:Int):Int×Int:=if op=1 then (w63 (a+b),0) else if op=2 then (w63 (a - b),0) else if op=3 then (w63 (a*b),0) else if op=4 then (divN a b,erN b) else if op=5 then (modN a b,erN b) else (0,0)
def cmpOp(op c:Int):Bool:=if op=6 then decide (c<0) else if op=7 then decide (c≤0) else if op=8 then decide (0<c) else decide (0≤c)
def cmpI(a b:Int):Int:=if a<b then -1 else if b<a then 1 else 0
def binV(op k n:Int)(x:ByteArray)(k' n':Int)(x':ByteArray)(most:Int):Value:=
 if op<1∨11<op then .tuple #[vA 0 0 ⟨#[]⟩,.int .i64 2]
 else if op=10 then .tuple #[vA 1 (boolN (sameV k n x k' n' x')) ⟨#[]⟩,.int .i64 0]
 else if op=11 then .tuple #[vA 1 (boolN (!sameV k n x k' n' x')) ⟨#[]⟩,.int .i64 0]
 else if k=3∧k'=3 then
  (if op=1 then joinV x x' most else if op≤5 then .tuple #[vA 0 0 ⟨#[]⟩,.int .i64 30] else .tuple #[vA 1 (boolN (cmpOp op (cmpL x.data.toList x'.data.toList))) ⟨#[]⟩,.int .i64 0])
 else if k=2∧k'=2 then
  (if op≤5 then .tuple #[wholeV (mathN op n n').1 (mathN op n n').2,.int .i64 (mathN op n n').2] else .tuple #[vA 1 (boolN (cmpOp op (cmpI n n'))) ⟨#[]⟩,.int .i64 0])
 else .tuple #[vA 0 0 ⟨#[]⟩,.int .i64 30]
section
theorem j_normal{P:Program}{ord:Ord}{n:Nat}{c:Code}{Q:Exit→Env→St M→Prop}{J:Code→Env→St M→Prop}{env:Env}{s:St M}:wjump (P:=P) (ord:=ord) (n:=n) c Q J .normal env s=Q .normal env s:=rfl
theorem j_ret{P:Program}{ord:Ord}{n:Nat}{c:Code}{Q:Exit→Env→St M→Prop}{J:Code→Env→St M→Prop}{env:Env}{s:St M}:wjump (P:=P) (ord:=ord) (n:=n) c Q J .ret env s=Q .ret env s:=rfl
theorem j_goto{P:Program}{ord:Ord}{n:Nat}{c rest:Code}{Q:Exit→Env→St M→Prop}{J:Code→Env→St M→Prop}{env:Env}{s:St M}{l:Nat}(hf:findLabel c l=some rest)(hc:Go.Cs.codeOk P ord n rest=true)(h:J rest env s):wjump (P:=P) (ord:=ord) (n:=n) c Q J (.goto l) env s:=by
 unfold wjump
 simp only[hf]
 exact⟨hc,h⟩
theorem math_spec{op a b:Int}(ha:I64 a)(hop:1≤op∧op≤5)(h:∀ s',s.le s'→R (.tuple #[wholeV (mathN op a b).1 (mathN op a b).2,.int .i64 (mathN op a b).2]) s'):QC prog w0 148 #[.int .i64 op,.int .i64 a,.int .i64 b] s R:=by
 refine wfun2 hmix ok148 func148 rfl ntmps148 results148 (by simp) ?_
 unfold mathN wholeV vA at h
 rcases (show op=1∨op=2∨op=3∨op=4∨op=5 by omega) with rfl|rfl|rfl|rfl|rfl
 ·simp -implicitDefEqProofs only[↓Zd,(Zp),Zr,simprocAttr,qP,Value.cells,cut,qC,cld2,underlying3,underlying4,underlying9,underlying31,vA,is31,ag31,ce31,fa31x0,fa31x1,fa31x2,ag3,ce3,ag9,ce9,underlying3,underlying4,underlying9,underlying5,underlying38,underlying0,be4,bn4,bv0,bv1,bv2,bv3,ze31,sz31,sz3,underlying120,underlying253,underlying75,underlying115,co210]
  refine add_spec ?_
  simp -implicitDefEqProofs only[↓Zd,(Zp),Zr,simprocAttr,qP,Value.cells,cut,qC,cld2,underlying3,underlying4,underlying9,underlying31,vA,is31,ag31,ce31,fa31x0,fa31x1,fa31x2,ag3,ce3,ag9,ce9,underlying3,underlying4,underlying9,underlying5,underlying38,underlying0,be4,bn4,bv0,bv1,bv2,bv3,ze31,sz31,sz3,underlying120,underlying253,underlying75,underlying115,co150,addN_eq]
  refine owhole_spec fun s1 hs1=>?_
  have hl1:s.next<s1.next:=by have:=hs1.1;simp only[(Sn)]at this;omega
  unfold vA
  simp -implicitDefEqProofs only[↓Zd,(Zp),Zr,simprocAttr,qP,Value.cells,cut,qC,cld2,underlying3,underlying4,underlying9,underlying31,vA,is31,ag31,ce31,fa31x0,fa31x1,fa31x2,ag3,ce3,ag9,ce9,underlying3,underlying4,underlying9,underlying5,underlying38,underlying0,be4,bn4,bv0,bv1,bv2,bv3,ze31,sz31,sz3,underlying120,underlying253,underlying75,underlying115,hs1.2 s.next (by first|omega|(simp only[(Sn)];omega))]
  exact h _ (by repeat (first|exact lR _|assumption|refine lN ?_|refine lP ?_ (by first|omega|(simp only[(Sn)];omega))|refine lT ?_ (by assumption)))
 ·simp -implicitDefEqProofs only[↓Zd,(Zp),Zr,simprocAttr,qP,Value.cells,cut,qC,cld2,underlying3,underlying4,underlying9,underlying31,vA,is31,ag31,ce31,fa31x0,fa31x1,fa31x2,ag3,ce3,ag9,ce9,underlying3,underlying4,underlying9,underlying5,underlying38,underlying0,be4,bn4,bv0,bv1,bv2,bv3,ze31,sz31,sz3,underlying120,underlying253,underlying75,underlying115,co211]
  refine sub_spec ?_
  simp -implicitDefEqProofs only[↓Zd,(Zp),Zr,simprocAttr,qP,Value.cells,cut,qC,cld2,underlying3,underlying4,underlying9,underlying31,vA,is31,ag31,ce31,fa31x0,fa31x1,fa31x2,ag3,ce3,ag9,ce9,underlying3,underlying4,underlying9,underlying5,underlying38,underlying0,be4,bn4,bv0,bv1,bv2,bv3,ze31,sz31,sz3,underlying120,underlying253,underlying75,underlying115,co150,subN_eq]
  refine owhole_spec fun s1 hs1=>?_
  have hl1:s.next<s1.next:=by have:=hs1.1;simp only[(Sn)]at this;omega
  unfold vA
  simp -implicitDefEqProofs only[↓Zd,(Zp),Zr,simprocAttr,qP,Value.cells,cut,qC,cld2,underlying3,underlying4,underlying9,underlying31,vA,is31,ag31,ce31,fa31x0,fa31x1,fa31x2,ag3,ce3,ag9,ce9,underlying3,underlying4,underlying9,underlying5,underlying38,underlying0,be4,bn4,bv0,bv1,bv2,bv3,ze31,sz31,sz3,underlying120,underlying253,underlying75,underlying115,hs1.2 s.next (by first|omega|(simp only[(Sn)];omega))]
  exact h _ (by repeat (first|exact lR _|assumption|refine lN ?_|refine lP ?_ (by first|omega|(simp only[(Sn)];omega))|refine lT ?_ (by assumption)))
 ·simp -implicitDefEqProofs only[↓Zd,(Zp),Zr,simprocAttr,qP,Value.cells,cut,qC,cld2,underlying3,underlying4,underlying9,underlying31,vA,is31,ag31,ce31,fa31x0,fa31x1,fa31x2,ag3,ce3,ag9,ce9,underlying3,underlying4,underlying9,underlying5,underlying38,underlying0,be4,bn4,bv0,bv1,bv2,bv3,ze31,sz31,sz3,underlying120,underlying253,underlying75,underlying115,co212]
  refine mul_spec ?_
  simp -implicitDefEqProofs only[↓Zd,(Zp),Zr,simprocAttr,qP,Value.cells,cut,qC,cld2,underlying3,underlying4,underlying9,underlying31,vA,is31,ag31,ce31,fa31x0,fa31x1,fa31x2,ag3,ce3,ag9,ce9,underlying3,underlying4,underlying9,underlying5,underlying38,underlying0,be4,bn4,bv0,bv1,bv2,bv3,ze31,sz31,sz3,underlying120,underlying253,underlying75,underlying115,co150,mulN_eq]
  refine owhole_spec fun s1 hs1=>?_
  have hl1:s.next<s1.next:=by have:=hs1.1;simp only[(Sn)]at this;omega
  unfold vA
  simp -implicitDefEqProofs only[↓Zd,(Zp),Zr,simprocAttr,qP,Value.cells,cut,qC,cld2,underlying3,underlying4,underlying9,underlying31,vA,is31,ag31,ce31,fa31x0,fa31x1,fa31x2,ag3,ce3,ag9,ce9,underlying3,underlying4,underlying9,underlying5,underlying38,underlying0,be4,bn4,bv0,bv1,bv2,bv3,ze31,sz31,sz3,underlying120,underlying253,underlying75,underlying115,hs1.2 s.next (by first|omega|(simp only[(Sn)];omega))]
  exact h _ (by repeat (first|exact lR _|assumption|refine lN ?_|refine lP ?_ (by first|omega|(simp only[(Sn)];omega))|refine lT ?_ (by assumption)))
 ·by_cases hb:b=0
  ·subst hb
   have e31:erN 0=31:=rfl
   simp -implicitDefEqProofs only[↓Zd,(Zp),Zr,simprocAttr,qP,Value.cells,cut,qC,cld2,underlying3,underlying4,underlying9,underlying31,vA,is31,ag31,ce31,fa31x0,fa31x1,fa31x2,ag3,ce3,ag9,ce9,underlying3,underlying4,underlying9,underlying5,underlying38,underlying0,be4,bn4,bv0,bv1,bv2,bv3,ze31,sz31,sz3,underlying120,underlying253,underlying75,underlying115,co213]
   refine div_spec ?_
   simp -implicitDefEqProofs only[↓Zd,(Zp),Zr,simprocAttr,qP,Value.cells,cut,qC,cld2,underlying3,underlying4,underlying9,underlying31,vA,is31,ag31,ce31,fa31x0,fa31x1,fa31x2,ag3,ce3,ag9,ce9,underlying3,underlying4,underlying9,underlying5,underlying38,underlying0,be4,bn4,bv0,bv1,bv2,bv3,ze31,sz31,sz3,underlying120,underlying253,underlying75,underlying115,e31]
   simp only[e31]at h
   exact h _ (by repeat (first|exact lR _|assumption|refine lN ?_|refine lP ?_ (by first|omega|(simp only[(Sn)];omega))|refine lT ?_ (by assumption)))
  ·have e0:erN b=0:=by simp[erN,hb]
   simp -implicitDefEqProofs only[↓Zd,(Zp),Zr,simprocAttr,qP,Value.cells,cut,qC,cld2,underlying3,underlying4,underlying9,underlying31,vA,is31,ag31,ce31,fa31x0,fa31x1,fa31x2,ag3,ce3,ag9,ce9,underlying3,underlying4,underlying9,underlying5,underlying38,underlying0,be4,bn4,bv0,bv1,bv2,bv3,ze31,sz31,sz3,underlying120,underlying253,underlying75,underlying115,co213]
   refine div_spec ?_
   simp -implicitDefEqProofs only[↓Zd,(Zp),Zr,simprocAttr,qP,Value.cells,cut,qC,cld2,underlying3,underlying4,underlying9,underlying31,vA,is31,ag31,ce31,fa31x0,fa31x1,fa31x2,ag3,ce3,ag9,ce9,underlying3,underlying4,underlying9,underlying5,underlying38,underlying0,be4,bn4,bv0,bv1,bv2,bv3,ze31,sz31,sz3,underlying120,underlying253,underlying75,underlying115,e0,co150]
   refine owhole_spec fun s1 hs1=>?_
   have hl1:s.next<s1.next:=by have:=hs1.1;simp only[(Sn)]at this;omega
   unfold vA
   simp -implicitDefEqProofs only[↓Zd,(Zp),Zr,simprocAttr,qP,Value.cells,cut,qC,cld2,underlying3,underlying4,underlying9,underlying31,vA,is31,ag31,ce31,fa31x0,fa31x1,fa31x2,ag3,ce3,ag9,ce9,underlying3,underlying4,underlying9,underlying5,underlying38,underlying0,be4,bn4,bv0,bv1,bv2,bv3,ze31,sz31,sz3,underlying120,underlying253,underlying75,underlying115,e0,hs1.2 s.next (by first|omega|(simp only[(Sn)];omega))]
   simp only[e0]at h
   exact h _ (by repeat (first|exact lR _|assumption|refine lN ?_|refine lP ?_ (by first|omega|(simp only[(Sn)];omega))|refine lT ?_ (by assumption)))
 ·by_cases hb:b=0
  ·subst hb
   have e31:erN 0=31:=rfl
   simp -implicitDefEqProofs only[↓Zd,(Zp),Zr,simprocAttr,qP,Value.cells,cut,qC,cld2,underlying3,underlying4,underlying9,underlying31,vA,is31,ag31,ce31,fa31x0,fa31x1,fa31x2,ag3,ce3,ag9,ce9,underlying3,underlying4,underlying9,underlying5,underlying38,underlying0,be4,bn4,bv0,bv1,bv2,bv3,ze31,sz31,sz3,underlying120,underlying253,underlying75,underlying115,co214]
   refine mod_spec ?_
   simp -implicitDefEqProofs only[↓Zd,(Zp),Zr,simprocAttr,qP,Value.cells,cut,qC,cld2,underlying3,underlying4,underlying9,underlying31,vA,is31,ag31,ce31,fa31x0,fa31x1,fa31x2,ag3,ce3,ag9,ce9,underlying3,underlying4,underlying9,underlying5,underlying38,underlying0,be4,bn4,bv0,bv1,bv2,bv3,ze31,sz31,sz3,underlying120,underlying253,underlying75,underlying115,e31]
   simp only[e31]at h
   exact h _ (by repeat (first|exact lR _|assumption|refine lN ?_|refine lP ?_ (by first|omega|(simp only[(Sn)];omega))|refine lT ?_ (by assumption)))
  ·have e0:erN b=0:=by simp[erN,hb]
   simp -implicitDefEqProofs only[↓Zd,(Zp),Zr,simprocAttr,qP,Value.cells,cut,qC,cld2,underlying3,underlying4,underlying9,underlying31,vA,is31,ag31,ce31,fa31x0,fa31x1,fa31x2,ag3,ce3,ag9,ce9,underlying3,underlying4,underlying9,underlying5,underlying38,underlying0,be4,bn4,bv0,bv1,bv2,bv3,ze31,sz31,sz3,underlying120,underlying253,underlying75,underlying115,co214]
   refine mod_spec ?_
   simp -implicitDefEqProofs only[↓Zd,(Zp),Zr,simprocAttr,qP,Value.cells,cut,qC,cld2,underlying3,underlying4,underlying9,underlying31,vA,is31,ag31,ce31,fa31x0,fa31x1,fa31x2,ag3,ce3,ag9,ce9,underlying3,underlying4,underlying9,underlying5,underlying38,underlying0,be4,bn4,bv0,bv1,bv2,bv3,ze31,sz31,sz3,underlying120,underlying253,underlying75,underlying115,e0,co150]
   refine owhole_spec fun s1 hs1=>?_
   have hl1:s.next<s1.next:=by have:=hs1.1;simp only[(Sn)]at this;omega
   unfold vA
   simp -implicitDefEqProofs only[↓Zd,(Zp),Zr,simprocAttr,qP,Value.cells,cut,qC,cld2,underlying3,underlying4,underlying9,underlying31,vA,is31,ag31,ce31,fa31x0,fa31x1,fa31x2,ag3,ce3,ag9,ce9,underlying3,underlying4,underlying9,underlying5,underlying38,underlying0,be4,bn4,bv0,bv1,bv2,bv3,ze31,sz31,sz3,underlying120,underlying253,underlying75,underlying115,e0,hs1.2 s.next (by first|omega|(simp only[(Sn)];omega))]
   simp only[e0]at h
   exact h _ (by repeat (first|exact lR _|assumption|refine lN ?_|refine lP ?_ (by first|omega|(simp only[(Sn)];omega))|refine lT ?_ (by assumption)))
end
def unV(op k n:Int):Value:=if op=1 then (if k=2 then .tuple #[vA 2 (w63 (0 - n)) ⟨#[]⟩,.int .i64 0] else .tuple #[vA 0 0 ⟨#[]⟩,.int .i64 30]) else if op=2 then .tuple #[vA 1 (boolN (!truthV k n)) ⟨#[]⟩,.int .i64 0] else .tuple #[vA 0 0 ⟨#[]⟩,.int .i64 2]
def lenV(k:Int)(x:ByteArray):Value:=if k=3 then .tuple #[vA 2 x.size ⟨#[]⟩,.int .i64 0] else .tuple #[vA 0 0 ⟨#[]⟩,.int .i64 30]
def textV(k n:Int)(x:ByteArray)(most:Int):Value:=if most<((showV k n x).size:Int) then .tuple #[vA 0 0 ⟨#[]⟩,.int .i64 43] else .tuple #[vA 3 0 (showV k n x),.int .i64 0]
section
theorem un_spec{op k n:Int}{x:ByteArray}(h:∀ s',s.le s'→R (unV op k n) s'):QC prog w0 186 #[.int .i64 op,vA k n x] s R:=by
 refine wfun2 hmix ok186 func186 rfl ntmps186 results186 (by simp) ?_
 rcases (show op=1∨op=2∨(¬ op=1∧¬ op=2) by omega) with rfl|rfl|⟨o1,o2⟩
 ·by_cases hk:k=2
  ·subst hk
   have hb:unV 1 2 n = .tuple #[vA 2 (w63 (0 - n)) ⟨#[]⟩,.int .i64 0]:=by simp[unV]
   rw[hb]at h
   simp -implicitDefEqProofs only[↓Zd,(Zp),Zr,simprocAttr,qP,Value.cells,cut,qC,cld2,underlying3,underlying4,underlying9,underlying31,vA,is31,ag31,ce31,fa31x0,fa31x1,fa31x2,ag3,ce3,ag9,ce9,underlying3,underlying4,underlying9,underlying5,underlying38,underlying0,be4,bn4,bv0,bv1,bv2,bv3,ze31,sz31,sz3,underlying120,underlying253,underlying75,underlying115,co242]
   refine neg_spec ?_
   simp -implicitDefEqProofs only[↓Zd,(Zp),Zr,simprocAttr,qP,Value.cells,cut,qC,cld2,underlying3,underlying4,underlying9,underlying31,vA,is31,ag31,ce31,fa31x0,fa31x1,fa31x2,ag3,ce3,ag9,ce9,underlying3,underlying4,underlying9,underlying5,underlying38,underlying0,be4,bn4,bv0,bv1,bv2,bv3,ze31,sz31,sz3,underlying120,underlying253,underlying75,underlying115,subN_eq,wrapR_wrap,co150]
   refine owhole_spec fun s1 hs1=>?_
   have hl1:s.next+1<s1.next:=by have:=hs1.1;(try simp only[(Sn)]at this);omega
   unfold vA at h ⊢
   simp -implicitDefEqProofs only[↓Zd,(Zp),Zr,simprocAttr,qP,Value.cells,cut,qC,cld2,underlying3,underlying4,underlying9,underlying31,vA,is31,ag31,ce31,fa31x0,fa31x1,fa31x2,ag3,ce3,ag9,ce9,underlying3,underlying4,underlying9,underlying5,underlying38,underlying0,be4,bn4,bv0,bv1,bv2,bv3,ze31,sz31,sz3,underlying120,underlying253,underlying75,underlying115,hs1.2 s.next (by first|omega|(simp only[(Sn)];omega)),hs1.2 (s.next+1) (by first|omega|(simp only[(Sn)];omega))]
   exact h _ (by repeat (first|exact lR _|assumption|refine lN ?_|refine lP ?_ (by first|omega|(simp only[(Sn)];omega))|refine lT ?_ (by assumption)))
  ·have hb:unV 1 k n = .tuple #[vA 0 0 ⟨#[]⟩,.int .i64 30]:=by simp[unV,hk]
   rw[hb]at h
   unfold vA at h
   simp -implicitDefEqProofs only[↓Zd,(Zp),Zr,simprocAttr,qP,Value.cells,cut,qC,cld2,underlying3,underlying4,underlying9,underlying31,vA,is31,ag31,ce31,fa31x0,fa31x1,fa31x2,ag3,ce3,ag9,ce9,underlying3,underlying4,underlying9,underlying5,underlying38,underlying0,be4,bn4,bv0,bv1,bv2,bv3,ze31,sz31,sz3,underlying120,underlying253,underlying75,underlying115,hk]
   exact h _ (by repeat (first|exact lR _|assumption|refine lN ?_|refine lP ?_ (by first|omega|(simp only[(Sn)];omega))|refine lT ?_ (by assumption)))
 ·have hb:unV 2 k n = .tuple #[vA 1 (boolN (!truthV k n)) ⟨#[]⟩,.int .i64 0]:=by simp[unV]
  rw[hb]at h
  simp -implicitDefEqProofs only[↓Zd,(Zp),Zr,simprocAttr,qP,Value.cells,cut,qC,cld2,underlying3,underlying4,underlying9,underlying31,vA,is31,ag31,ce31,fa31x0,fa31x1,fa31x2,ag3,ce3,ag9,ce9,underlying3,underlying4,underlying9,underlying5,underlying38,underlying0,be4,bn4,bv0,bv1,bv2,bv3,ze31,sz31,sz3,underlying120,underlying253,underlying75,underlying115,co176]
  refine truth_le fun s1 hs1=>?_
  have hl1:s.next+1<s1.next:=by have:=hs1.1;(try simp only[(Sn)]at this);omega
  simp -implicitDefEqProofs only[↓Zd,(Zp),Zr,simprocAttr,qP,Value.cells,cut,qC,cld2,underlying3,underlying4,underlying9,underlying31,vA,is31,ag31,ce31,fa31x0,fa31x1,fa31x2,ag3,ce3,ag9,ce9,underlying3,underlying4,underlying9,underlying5,underlying38,underlying0,be4,bn4,bv0,bv1,bv2,bv3,ze31,sz31,sz3,underlying120,underlying253,underlying75,underlying115,hs1.2 s.next (by first|omega|(simp only[(Sn)];omega)),hs1.2 (s.next+1) (by first|omega|(simp only[(Sn)];omega)),co145]
  refine otruth_spec fun s2 hs2=>?_
  have hl2:s.next+1<s2.next:=by have:=hs2.1;(try simp only[(Sn)]at this);omega
  unfold vA at h ⊢
  simp -implicitDefEqProofs only[↓Zd,(Zp),Zr,simprocAttr,qP,Value.cells,cut,qC,cld2,underlying3,underlying4,underlying9,underlying31,vA,is31,ag31,ce31,fa31x0,fa31x1,fa31x2,ag3,ce3,ag9,ce9,underlying3,underlying4,underlying9,underlying5,underlying38,underlying0,be4,bn4,bv0,bv1,bv2,bv3,ze31,sz31,sz3,underlying120,underlying253,underlying75,underlying115,hs2.2 (s.next+1) (by first|omega|(simp only[(Sn)];omega)),hs1.2 (s.next+1) (by first|omega|(simp only[(Sn)];omega))]
  exact h _ (by repeat (first|exact lR _|assumption|refine lN ?_|refine lP ?_ (by first|omega|(simp only[(Sn)];omega))|refine lT ?_ (by assumption)))
 ·have hb:unV op k n = .tuple #[vA 0 0 ⟨#[]⟩,.int .i64 2]:=by simp[unV,o1,o2]
  rw[hb]at h
  unfold vA at h
  simp -implicitDefEqProofs only[↓Zd,(Zp),Zr,simprocAttr,qP,Value.cells,cut,qC,cld2,underlying3,underlying4,underlying9,underlying31,vA,is31,ag31,ce31,fa31x0,fa31x1,fa31x2,ag3,ce3,ag9,ce9,underlying3,underlying4,underlying9,underlying5,underlying38,underlying0,be4,bn4,bv0,bv1,bv2,bv3,ze31,sz31,sz3,underlying120,underlying253,underlying75,underlying115,o1,o2]
  exact h _ (by repeat (first|exact lR _|assumption|refine lN ?_|refine lP ?_ (by first|omega|(simp only[(Sn)];omega))|refine lT ?_ (by assumption)))
theorem len_spec{k n:Int}{x:ByteArray}(h:∀ s',s.le s'→R (lenV k x) s'):QC prog w0 68 #[vA k n x] s R:=by
 refine wfun2 hmix ok68 func68 rfl ntmps68 results68 (by simp) ?_
 by_cases hk:k=3
 ·subst hk
  have hb:lenV 3 x = .tuple #[vA 2 x.size ⟨#[]⟩,.int .i64 0]:=by simp[lenV]
  rw[hb]at h
  simp -implicitDefEqProofs only[↓Zd,(Zp),Zr,simprocAttr,qP,Value.cells,cut,qC,cld2,underlying3,underlying4,underlying9,underlying31,vA,is31,ag31,ce31,fa31x0,fa31x1,fa31x2,ag3,ce3,ag9,ce9,underlying3,underlying4,underlying9,underlying5,underlying38,underlying0,be4,bn4,bv0,bv1,bv2,bv3,ze31,sz31,sz3,underlying120,underlying253,underlying75,underlying115,co150]
  refine owhole_spec fun s1 hs1=>?_
  have hl1:s.next+1<s1.next:=by have:=hs1.1;(try simp only[(Sn)]at this);omega
  unfold vA at h ⊢
  simp -implicitDefEqProofs only[↓Zd,(Zp),Zr,simprocAttr,qP,Value.cells,cut,qC,cld2,underlying3,underlying4,underlying9,underlying31,vA,is31,ag31,ce31,fa31x0,fa31x1,fa31x2,ag3,ce3,ag9,ce9,underlying3,underlying4,underlying9,underlying5,underlying38,underlying0,be4,bn4,bv0,bv1,bv2,bv3,ze31,sz31,sz3,underlying120,underlying253,underlying75,underlying115,hs1.2 s.next (by first|omega|(simp only[(Sn)];omega)),hs1.2 (s.next+1) (by first|omega|(simp only[(Sn)];omega))]
  exact h _ (by repeat (first|exact lR _|assumption|refine lN ?_|refine lP ?_ (by first|omega|(simp only[(Sn)];omega))|refine lT ?_ (by assumption)))
 ·have hb:lenV k x = .tuple #[vA 0 0 ⟨#[]⟩,.int .i64 30]:=by simp[lenV,hk]
  rw[hb]at h
  unfold vA at h
  simp -implicitDefEqProofs only[↓Zd,(Zp),Zr,simprocAttr,qP,Value.cells,cut,qC,cld2,underlying3,underlying4,underlying9,underlying31,vA,is31,ag31,ce31,fa31x0,fa31x1,fa31x2,ag3,ce3,ag9,ce9,underlying3,underlying4,underlying9,underlying5,underlying38,underlying0,be4,bn4,bv0,bv1,bv2,bv3,ze31,sz31,sz3,underlying120,underlying253,underlying75,underlying115,hk]
  exact h _ (by repeat (first|exact lR _|assumption|refine lN ?_|refine lP ?_ (by first|omega|(simp only[(Sn)];omega))|refine lT ?_ (by assumption)))
theorem otext_spec{k n most:Int}{x:ByteArray}(hn : -9223372036854775808≤n∧n≤9223372036854775807)(h:∀ s',s.le s'→R (textV k n x most) s'):QC prog w0 69 #[vA k n x,.int .i64 most] s R:=by
 refine wfun2 hmix ok69 func69 rfl ntmps69 results69 (by simp) ?_
 simp -implicitDefEqProofs only[↓Zd,(Zp),Zr,simprocAttr,qP,Value.cells,cut,qC,cld2,underlying3,underlying4,underlying9,underlying31,vA,is31,ag31,ce31,fa31x0,fa31x1,fa31x2,ag3,ce3,ag9,ce9,underlying3,underlying4,underlying9,underlying5,underlying38,underlying0,be4,bn4,bv0,bv1,bv2,bv3,ze31,sz31,sz3,underlying120,underlying253,underlying75,underlying115,co61]
 refine show_spec hn fun s1 hs1=>?_
 have hl1:s.next+1<s1.next:=by have:=hs1.1;(try simp only[(Sn)]at this);omega
 unfold textV at h
 by_cases hj:most<((showV k n x).size:Int)
 ·rw[if_pos hj]at h
  unfold vA at h
  simp -implicitDefEqProofs only[↓Zd,(Zp),Zr,simprocAttr,qP,Value.cells,cut,qC,cld2,underlying3,underlying4,underlying9,underlying31,vA,is31,ag31,ce31,fa31x0,fa31x1,fa31x2,ag3,ce3,ag9,ce9,underlying3,underlying4,underlying9,underlying5,underlying38,underlying0,be4,bn4,bv0,bv1,bv2,bv3,ze31,sz31,sz3,underlying120,underlying253,underlying75,underlying115,hj,hs1.2 s.next (by first|omega|(simp only[(Sn)];omega)),hs1.2 (s.next+1) (by first|omega|(simp only[(Sn)];omega))]
  exact h _ (by repeat (first|exact lR _|assumption|refine lN ?_|refine lP ?_ (by first|omega|(simp only[(Sn)];omega))|refine lT ?_ (by assumption)))
 ·rw[if_neg hj]at h
  unfold vA at h
  simp -implicitDefEqProofs only[↓Zd,(Zp),Zr,simprocAttr,qP,Value.cells,cut,qC,cld2,underlying3,underlying4,underlying9,underlying31,vA,is31,ag31,ce31,fa31x0,fa31x1,fa31x2,ag3,ce3,ag9,ce9,underlying3,underlying4,underlying9,underlying5,underlying38,underlying0,be4,bn4,bv0,bv1,bv2,bv3,ze31,sz31,sz3,underlying120,underlying253,underlying75,underlying115,hj,hs1.2 s.next (by first|omega|(simp only[(Sn)];omega)),hs1.2 (s.next+1) (by first|omega|(simp only[(Sn)];omega))]
  exact h _ (by repeat (first|exact lR _|assumption|refine lN ?_|refine lP ?_ (by first|omega|(simp only[(Sn)];omega))|refine lT ?_ (by assumption)))
end
section
theorem bin_K1{op k n k' n':Int}{x x':ByteArray}{most:Int}(hn:I64 n)(hm : -1≤most∧most≤9223372036854775807)(hx:True)(hx':True)(h:∀ s',s.le s'→R (binV op 2 n x 2 n' x' most) s') :
  QC prog w0 66 #[.int .i64 op,vA 2 n x,vA 2 n' x',.int .i64 most] s R:=by
 refine wfun2 hmix ok66 func66 rfl ntmps66 results66 (by simp) ?_
 simp -implicitDefEqProofs only[↓Zd,(Zp),Zr,simprocAttr,qP,Value.cells,cut,qC,cld2,underlying3,underlying4,underlying9,underlying31,vA,is31,ag31,ce31,fa31x0,fa31x1,fa31x2,ag3,ce3,ag9,ce9,underlying3,underlying4,underlying9,underlying5,underlying38,underlying0,be4,bn4,bv0,bv1,bv2,bv3,ze31,sz31,sz3,underlying120,underlying253,underlying75,underlying115]
 refine wscope_piece hmix ?_
 simp -implicitDefEqProofs only[↓Zd,(Zp),Zr,simprocAttr,qP,Value.cells,cut,qC,cld2,underlying3,underlying4,underlying9,underlying31,vA,is31,ag31,ce31,fa31x0,fa31x1,fa31x2,ag3,ce3,ag9,ce9,underlying3,underlying4,underlying9,underlying5,underlying38,underlying0,be4,bn4,bv0,bv1,bv2,bv3,ze31,sz31,sz3,underlying120,underlying253,underlying75,underlying115,j_normal,j_ret,ord66]
 rcases (show (op<1)∨(11<op)∨(op=10)∨(op=11)∨(op=1)∨(2≤op∧op≤5)∨(op=6)∨(op=7)∨(op=8)∨(op=9) by omega) with o1|o1|rfl|rfl|rfl|⟨o2,o5⟩|rfl|rfl|rfl|rfl
 ·have hb:binV op 2 n x 2 n' x' most = .tuple #[vA 0 0 ⟨#[]⟩,.int .i64 2]:=by simp[binV,o1]
  rw[hb]at h
  unfold vA at h
  simp -implicitDefEqProofs only[↓Zd,(Zp),Zr,simprocAttr,qP,Value.cells,cut,qC,cld2,underlying3,underlying4,underlying9,underlying31,vA,is31,ag31,ce31,fa31x0,fa31x1,fa31x2,ag3,ce3,ag9,ce9,underlying3,underlying4,underlying9,underlying5,underlying38,underlying0,be4,bn4,bv0,bv1,bv2,bv3,ze31,sz31,sz3,underlying120,underlying253,underlying75,underlying115,j_normal,j_ret,ord66,o1]
  exact h _ (by repeat (first|exact lR _|assumption|refine lN ?_|refine lP ?_ (by first|omega|(simp only[(Sn)];omega))|refine lT ?_ (by assumption)))
 ·have o0:¬ op<1:=by omega
  have hb:binV op 2 n x 2 n' x' most = .tuple #[vA 0 0 ⟨#[]⟩,.int .i64 2]:=by simp[binV,o0,o1]
  rw[hb]at h
  unfold vA at h
  simp -implicitDefEqProofs only[↓Zd,(Zp),Zr,simprocAttr,qP,Value.cells,cut,qC,cld2,underlying3,underlying4,underlying9,underlying31,vA,is31,ag31,ce31,fa31x0,fa31x1,fa31x2,ag3,ce3,ag9,ce9,underlying3,underlying4,underlying9,underlying5,underlying38,underlying0,be4,bn4,bv0,bv1,bv2,bv3,ze31,sz31,sz3,underlying120,underlying253,underlying75,underlying115,j_normal,j_ret,ord66,o0,o1]
  exact h _ (by repeat (first|exact lR _|assumption|refine lN ?_|refine lP ?_ (by first|omega|(simp only[(Sn)];omega))|refine lT ?_ (by assumption)))
 ·have hb:binV 10 2 n x 2 n' x' most = .tuple #[vA 1 (boolN (sameV 2 n x 2 n' x')) ⟨#[]⟩,.int .i64 0]:=by simp[binV]
  rw[hb]at h
  simp -implicitDefEqProofs only[↓Zd,(Zp),Zr,simprocAttr,qP,Value.cells,cut,qC,cld2,underlying3,underlying4,underlying9,underlying31,vA,is31,ag31,ce31,fa31x0,fa31x1,fa31x2,ag3,ce3,ag9,ce9,underlying3,underlying4,underlying9,underlying5,underlying38,underlying0,be4,bn4,bv0,bv1,bv2,bv3,ze31,sz31,sz3,underlying120,underlying253,underlying75,underlying115,j_normal,j_ret,ord66,co146]
  refine same_le fun s1 hs1=>?_
  have hl1:s.next+2<s1.next:=by have:=hs1.1;(try simp only[(Sn)]at this);omega
  simp -implicitDefEqProofs only[↓Zd,(Zp),Zr,simprocAttr,qP,Value.cells,cut,qC,cld2,underlying3,underlying4,underlying9,underlying31,vA,is31,ag31,ce31,fa31x0,fa31x1,fa31x2,ag3,ce3,ag9,ce9,underlying3,underlying4,underlying9,underlying5,underlying38,underlying0,be4,bn4,bv0,bv1,bv2,bv3,ze31,sz31,sz3,underlying120,underlying253,underlying75,underlying115,j_normal,j_ret,ord66,hs1.2 s.next (by first|omega|(simp only[(Sn)];omega)),hs1.2 (s.next+1) (by first|omega|(simp only[(Sn)];omega)),hs1.2 (s.next+2) (by first|omega|(simp only[(Sn)];omega)),co145]
  refine otruth_spec fun s2 hs2=>?_
  have hl2:s.next+2<s2.next:=by have:=hs2.1;(try simp only[(Sn)]at this);omega
  unfold vA at h ⊢
  simp -implicitDefEqProofs only[↓Zd,(Zp),Zr,simprocAttr,qP,Value.cells,cut,qC,cld2,underlying3,underlying4,underlying9,underlying31,vA,is31,ag31,ce31,fa31x0,fa31x1,fa31x2,ag3,ce3,ag9,ce9,underlying3,underlying4,underlying9,underlying5,underlying38,underlying0,be4,bn4,bv0,bv1,bv2,bv3,ze31,sz31,sz3,underlying120,underlying253,underlying75,underlying115,j_normal,j_ret,ord66,hs2.2 s.next (by first|omega|(simp only[(Sn)];omega)),hs2.2 (s.next+1) (by first|omega|(simp only[(Sn)];omega)),hs2.2 (s.next+2) (by first|omega|(simp only[(Sn)];omega)),hs1.2 s.next (by first|omega|(simp only[(Sn)];omega)),hs1.2 (s.next+1) (by first|omega|(simp only[(Sn)];omega)),hs1.2 (s.next+2) (by first|omega|(simp only[(Sn)];omega))]
  exact h _ (by repeat (first|exact lR _|assumption|refine lN ?_|refine lP ?_ (by first|omega|(simp only[(Sn)];omega))|refine lT ?_ (by assumption)))
 ·have hb:binV 11 2 n x 2 n' x' most = .tuple #[vA 1 (boolN (!sameV 2 n x 2 n' x')) ⟨#[]⟩,.int .i64 0]:=by simp[binV]
  rw[hb]at h
  simp -implicitDefEqProofs only[↓Zd,(Zp),Zr,simprocAttr,qP,Value.cells,cut,qC,cld2,underlying3,underlying4,underlying9,underlying31,vA,is31,ag31,ce31,fa31x0,fa31x1,fa31x2,ag3,ce3,ag9,ce9,underlying3,underlying4,underlying9,underlying5,underlying38,underlying0,be4,bn4,bv0,bv1,bv2,bv3,ze31,sz31,sz3,underlying120,underlying253,underlying75,underlying115,j_normal,j_ret,ord66,co146]
  refine same_le fun s1 hs1=>?_
  have hl1:s.next+2<s1.next:=by have:=hs1.1;(try simp only[(Sn)]at this);omega
  simp -implicitDefEqProofs only[↓Zd,(Zp),Zr,simprocAttr,qP,Value.cells,cut,qC,cld2,underlying3,underlying4,underlying9,underlying31,vA,is31,ag31,ce31,fa31x0,fa31x1,fa31x2,ag3,ce3,ag9,ce9,underlying3,underlying4,underlying9,underlying5,underlying38,underlying0,be4,bn4,bv0,bv1,bv2,bv3,ze31,sz31,sz3,underlying120,underlying253,underlying75,underlying115,j_normal,j_ret,ord66,hs1.2 s.next (by first|omega|(simp only[(Sn)];omega)),hs1.2 (s.next+1) (by first|omega|(simp only[(Sn)];omega)),hs1.2 (s.next+2) (by first|omega|(simp only[(Sn)];omega)),co145]
  refine otruth_spec fun s2 hs2=>?_
  have hl2:s.next+2<s2.next:=by have:=hs2.1;(try simp only[(Sn)]at this);omega
  unfold vA at h ⊢
  simp -implicitDefEqProofs only[↓Zd,(Zp),Zr,simprocAttr,qP,Value.cells,cut,qC,cld2,underlying3,underlying4,underlying9,underlying31,vA,is31,ag31,ce31,fa31x0,fa31x1,fa31x2,ag3,ce3,ag9,ce9,underlying3,underlying4,underlying9,underlying5,underlying38,underlying0,be4,bn4,bv0,bv1,bv2,bv3,ze31,sz31,sz3,underlying120,underlying253,underlying75,underlying115,j_normal,j_ret,ord66,hs2.2 s.next (by first|omega|(simp only[(Sn)];omega)),hs2.2 (s.next+1) (by first|omega|(simp only[(Sn)];omega)),hs2.2 (s.next+2) (by first|omega|(simp only[(Sn)];omega)),hs1.2 s.next (by first|omega|(simp only[(Sn)];omega)),hs1.2 (s.next+1) (by first|omega|(simp only[(Sn)];omega)),hs1.2 (s.next+2) (by first|omega|(simp only[(Sn)];omega))]
  exact h _ (by repeat (first|exact lR _|assumption|refine lN ?_|refine lP ?_ (by first|omega|(simp only[(Sn)];omega))|refine lT ?_ (by assumption)))
 ·have hb:binV 1 2 n x 2 n' x' most = .tuple #[wholeV (mathN 1 n n').1 (mathN 1 n n').2,.int .i64 (mathN 1 n n').2]:=by simp[binV]
  rw[hb]at h
  simp -implicitDefEqProofs only[↓Zd,(Zp),Zr,simprocAttr,qP,Value.cells,cut,qC,cld2,underlying3,underlying4,underlying9,underlying31,vA,is31,ag31,ce31,fa31x0,fa31x1,fa31x2,ag3,ce3,ag9,ce9,underlying3,underlying4,underlying9,underlying5,underlying38,underlying0,be4,bn4,bv0,bv1,bv2,bv3,ze31,sz31,sz3,underlying120,underlying253,underlying75,underlying115,j_normal,j_ret,ord66,co148]
  refine math_spec hn (by omega) fun s1 hs1=>?_
  have hl1:s.next+2<s1.next:=by have:=hs1.1;(try simp only[(Sn)]at this);omega
  generalize (mathN 1 n n').2=e at h ⊢
  generalize (mathN 1 n n').1=v at h ⊢
  by_cases he:e=0
  ·subst he
   simp only[wholeV,if_true,vA]at h ⊢
   simp -implicitDefEqProofs only[↓Zd,(Zp),Zr,simprocAttr,qP,Value.cells,cut,qC,cld2,underlying3,underlying4,underlying9,underlying31,vA,is31,ag31,ce31,fa31x0,fa31x1,fa31x2,ag3,ce3,ag9,ce9,underlying3,underlying4,underlying9,underlying5,underlying38,underlying0,be4,bn4,bv0,bv1,bv2,bv3,ze31,sz31,sz3,underlying120,underlying253,underlying75,underlying115,j_normal,j_ret,hs1.2 s.next (by first|omega|(simp only[(Sn)];omega)),hs1.2 (s.next+1) (by first|omega|(simp only[(Sn)];omega)),hs1.2 (s.next+2) (by first|omega|(simp only[(Sn)];omega))]
   exact h _ (by repeat (first|exact lR _|assumption|refine lN ?_|refine lP ?_ (by first|omega|(simp only[(Sn)];omega))|refine lT ?_ (by assumption)))
  ·simp only[wholeV,he,if_false,vA]at h ⊢
   simp -implicitDefEqProofs only[↓Zd,(Zp),Zr,simprocAttr,qP,Value.cells,cut,qC,cld2,underlying3,underlying4,underlying9,underlying31,vA,is31,ag31,ce31,fa31x0,fa31x1,fa31x2,ag3,ce3,ag9,ce9,underlying3,underlying4,underlying9,underlying5,underlying38,underlying0,be4,bn4,bv0,bv1,bv2,bv3,ze31,sz31,sz3,underlying120,underlying253,underlying75,underlying115,j_normal,j_ret,hs1.2 s.next (by first|omega|(simp only[(Sn)];omega)),hs1.2 (s.next+1) (by first|omega|(simp only[(Sn)];omega)),hs1.2 (s.next+2) (by first|omega|(simp only[(Sn)];omega))]
   exact h _ (by repeat (first|exact lR _|assumption|refine lN ?_|refine lP ?_ (by first|omega|(simp only[(Sn)];omega))|refine lT ?_ (by assumption)))
 ·have o0:¬ op<1:=by omega
  have o1:¬ 11<op:=by omega
  have oa:¬ op=10:=by omega
  have ob:¬ op=11:=by omega
  have oc:¬ op=1:=by omega
  have hb:binV op 2 n x 2 n' x' most = .tuple #[wholeV (mathN op n n').1 (mathN op n n').2,.int .i64 (mathN op n n').2]:=by simp[binV,o0,o1,oa,ob,oc,o5]
  rw[hb]at h
  simp -implicitDefEqProofs only[↓Zd,(Zp),Zr,simprocAttr,qP,Value.cells,cut,qC,cld2,underlying3,underlying4,underlying9,underlying31,vA,is31,ag31,ce31,fa31x0,fa31x1,fa31x2,ag3,ce3,ag9,ce9,underlying3,underlying4,underlying9,underlying5,underlying38,underlying0,be4,bn4,bv0,bv1,bv2,bv3,ze31,sz31,sz3,underlying120,underlying253,underlying75,underlying115,j_normal,j_ret,ord66,o0,o1,oa,ob,oc,o5,co148]
  refine math_spec hn (by omega) fun s1 hs1=>?_
  have hl1:s.next+2<s1.next:=by have:=hs1.1;(try simp only[(Sn)]at this);omega
  generalize (mathN op n n').2=e at h ⊢
  generalize (mathN op n n').1=v at h ⊢
  by_cases he:e=0
  ·subst he
   simp only[wholeV,if_true,vA]at h ⊢
   simp -implicitDefEqProofs only[↓Zd,(Zp),Zr,simprocAttr,qP,Value.cells,cut,qC,cld2,underlying3,underlying4,underlying9,underlying31,vA,is31,ag31,ce31,fa31x0,fa31x1,fa31x2,ag3,ce3,ag9,ce9,underlying3,underlying4,underlying9,underlying5,underlying38,underlying0,be4,bn4,bv0,bv1,bv2,bv3,ze31,sz31,sz3,underlying120,underlying253,underlying75,underlying115,j_normal,j_ret,hs1.2 s.next (by first|omega|(simp only[(Sn)];omega)),hs1.2 (s.next+1) (by first|omega|(simp only[(Sn)];omega)),hs1.2 (s.next+2) (by first|omega|(simp only[(Sn)];omega))]
   exact h _ (by repeat (first|exact lR _|assumption|refine lN ?_|refine lP ?_ (by first|omega|(simp only[(Sn)];omega))|refine lT ?_ (by assumption)))
  ·simp only[wholeV,he,if_false,vA]at h ⊢
   simp -implicitDefEqProofs only[↓Zd,(Zp),Zr,simprocAttr,qP,Value.cells,cut,qC,cld2,underlying3,underlying4,underlying9,underlying31,vA,is31,ag31,ce31,fa31x0,fa31x1,fa31x2,ag3,ce3,ag9,ce9,underlying3,underlying4,underlying9,underlying5,underlying38,underlying0,be4,bn4,bv0,bv1,bv2,bv3,ze31,sz31,sz3,underlying120,underlying253,underlying75,underlying115,j_normal,j_ret,hs1.2 s.next (by first|omega|(simp only[(Sn)];omega)),hs1.2 (s.next+1) (by first|omega|(simp only[(Sn)];omega)),hs1.2 (s.next+2) (by first|omega|(simp only[(Sn)];omega))]
   exact h _ (by repeat (first|exact lR _|assumption|refine lN ?_|refine lP ?_ (by first|omega|(simp only[(Sn)];omega))|refine lT ?_ (by assumption)))
 ·have hb:binV 6 2 n x 2 n' x' most = .tuple #[vA 1 (boolN (decide (cmpI n n' < 0))) ⟨#[]⟩,.int .i64 0]:=by simp[binV,cmpOp]
  rw[hb]at h
  simp -implicitDefEqProofs only[↓Zd,(Zp),Zr,simprocAttr,qP,Value.cells,cut,qC,cld2,underlying3,underlying4,underlying9,underlying31,vA,is31,ag31,ce31,fa31x0,fa31x1,fa31x2,ag3,ce3,ag9,ce9,underlying3,underlying4,underlying9,underlying5,underlying38,underlying0,be4,bn4,bv0,bv1,bv2,bv3,ze31,sz31,sz3,underlying120,underlying253,underlying75,underlying115,j_normal,j_ret,ord66,co149]
  refine order_spec fun s1 hs1=>?_
  have hl1:s.next+2<s1.next:=by have:=hs1.1;(try simp only[(Sn)]at this);omega
  have ho:orderN 2 n x n' x'=cmpI n n':=by simp[orderN,cmpI]
  rw[ho]
  simp -implicitDefEqProofs only[↓Zd,(Zp),Zr,simprocAttr,qP,Value.cells,cut,qC,cld2,underlying3,underlying4,underlying9,underlying31,vA,is31,ag31,ce31,fa31x0,fa31x1,fa31x2,ag3,ce3,ag9,ce9,underlying3,underlying4,underlying9,underlying5,underlying38,underlying0,be4,bn4,bv0,bv1,bv2,bv3,ze31,sz31,sz3,underlying120,underlying253,underlying75,underlying115,j_normal,j_ret,ord66]
  refine j_goto rfl (by kernel_rfl) ?_
  refine wscope_piece hmix ?_
  simp -implicitDefEqProofs only[↓Zd,(Zp),Zr,simprocAttr,qP,Value.cells,cut,qC,cld2,underlying3,underlying4,underlying9,underlying31,vA,is31,ag31,ce31,fa31x0,fa31x1,fa31x2,ag3,ce3,ag9,ce9,underlying3,underlying4,underlying9,underlying5,underlying38,underlying0,be4,bn4,bv0,bv1,bv2,bv3,ze31,sz31,sz3,underlying120,underlying253,underlying75,underlying115,j_normal,j_ret,ord66,co145]
  refine otruth_spec fun s2 hs2=>?_
  have hl2:s.next+2<s2.next:=by have:=hs2.1;(try simp only[(Sn)]at this);omega
  unfold vA at h ⊢
  simp -implicitDefEqProofs only[↓Zd,(Zp),Zr,simprocAttr,qP,Value.cells,cut,qC,cld2,underlying3,underlying4,underlying9,underlying31,vA,is31,ag31,ce31,fa31x0,fa31x1,fa31x2,ag3,ce3,ag9,ce9,underlying3,underlying4,underlying9,underlying5,underlying38,underlying0,be4,bn4,bv0,bv1,bv2,bv3,ze31,sz31,sz3,underlying120,underlying253,underlying75,underlying115,j_normal,j_ret,ord66,hs2.2 s.next (by first|omega|(simp only[(Sn)];omega)),hs2.2 (s.next+1) (by first|omega|(simp only[(Sn)];omega)),hs2.2 (s.next+2) (by first|omega|(simp only[(Sn)];omega)),hs1.2 s.next (by first|omega|(simp only[(Sn)];omega)),hs1.2 (s.next+1) (by first|omega|(simp only[(Sn)];omega)),hs1.2 (s.next+2) (by first|omega|(simp only[(Sn)];omega))]
  exact h _ (by repeat (first|exact lR _|assumption|refine lN ?_|refine lP ?_ (by first|omega|(simp only[(Sn)];omega))|refine lT ?_ (by assumption)))
 ·have hb:binV 7 2 n x 2 n' x' most = .tuple #[vA 1 (boolN (decide (cmpI n n'≤0))) ⟨#[]⟩,.int .i64 0]:=by simp[binV,cmpOp]
  rw[hb]at h
  simp -implicitDefEqProofs only[↓Zd,(Zp),Zr,simprocAttr,qP,Value.cells,cut,qC,cld2,underlying3,underlying4,underlying9,underlying31,vA,is31,ag31,ce31,fa31x0,fa31x1,fa31x2,ag3,ce3,ag9,ce9,underlying3,underlying4,underlying9,underlying5,underlying38,underlying0,be4,bn4,bv0,bv1,bv2,bv3,ze31,sz31,sz3,underlying120,underlying253,underlying75,underlying115,j_normal,j_ret,ord66,co149]
  refine order_spec fun s1 hs1=>?_
  have hl1:s.next+2<s1.next:=by have:=hs1.1;(try simp only[(Sn)]at this);omega
  have ho:orderN 2 n x n' x'=cmpI n n':=by simp[orderN,cmpI]
  rw[ho]
  simp -implicitDefEqProofs only[↓Zd,(Zp),Zr,simprocAttr,qP,Value.cells,cut,qC,cld2,underlying3,underlying4,underlying9,underlying31,vA,is31,ag31,ce31,fa31x0,fa31x1,fa31x2,ag3,ce3,ag9,ce9,underlying3,underlying4,underlying9,underlying5,underlying38,underlying0,be4,bn4,bv0,bv1,bv2,bv3,ze31,sz31,sz3,underlying120,underlying253,underlying75,underlying115,j_normal,j_ret,ord66]
  refine j_goto rfl (by kernel_rfl) ?_
  refine wscope_piece hmix ?_
  simp -implicitDefEqProofs only[↓Zd,(Zp),Zr,simprocAttr,qP,Value.cells,cut,qC,cld2,underlying3,underlying4,underlying9,underlying31,vA,is31,ag31,ce31,fa31x0,fa31x1,fa31x2,ag3,ce3,ag9,ce9,underlying3,underlying4,underlying9,underlying5,underlying38,underlying0,be4,bn4,bv0,bv1,bv2,bv3,ze31,sz31,sz3,underlying120,underlying253,underlying75,underlying115,j_normal,j_ret,ord66,co145]
  refine otruth_spec fun s2 hs2=>?_
  have hl2:s.next+2<s2.next:=by have:=hs2.1;(try simp only[(Sn)]at this);omega
  unfold vA at h ⊢
  simp -implicitDefEqProofs only[↓Zd,(Zp),Zr,simprocAttr,qP,Value.cells,cut,qC,cld2,underlying3,underlying4,underlying9,underlying31,vA,is31,ag31,ce31,fa31x0,fa31x1,fa31x2,ag3,ce3,ag9,ce9,underlying3,underlying4,underlying9,underlying5,underlying38,underlying0,be4,bn4,bv0,bv1,bv2,bv3,ze31,sz31,sz3,underlying120,underlying253,underlying75,underlying115,j_normal,j_ret,ord66,hs2.2 s.next (by first|omega|(simp only[(Sn)];omega)),hs2.2 (s.next+1) (by first|omega|(simp only[(Sn)];omega)),hs2.2 (s.next+2) (by first|omega|(simp only[(Sn)];omega)),hs1.2 s.next (by first|omega|(simp only[(Sn)];omega)),hs1.2 (s.next+1) (by first|omega|(simp only[(Sn)];omega)),hs1.2 (s.next+2) (by first|omega|(simp only[(Sn)];omega))]
  exact h _ (by repeat (first|exact lR _|assumption|refine lN ?_|refine lP ?_ (by first|omega|(simp only[(Sn)];omega))|refine lT ?_ (by assumption)))
 ·have hb:binV 8 2 n x 2 n' x' most = .tuple #[vA 1 (boolN (decide (0<cmpI n n'))) ⟨#[]⟩,.int .i64 0]:=by simp[binV,cmpOp]
  rw[hb]at h
  simp -implicitDefEqProofs only[↓Zd,(Zp),Zr,simprocAttr,qP,Value.cells,cut,qC,cld2,underlying3,underlying4,underlying9,underlying31,vA,is31,ag31,ce31,fa31x0,fa31x1,fa31x2,ag3,ce3,ag9,ce9,underlying3,underlying4,underlying9,underlying5,underlying38,underlying0,be4,bn4,bv0,bv1,bv2,bv3,ze31,sz31,sz3,underlying120,underlying253,underlying75,underlying115,j_normal,j_ret,ord66,co149]
  refine order_spec fun s1 hs1=>?_
  have hl1:s.next+2<s1.next:=by have:=hs1.1;(try simp only[(Sn)]at this);omega
  have ho:orderN 2 n x n' x'=cmpI n n':=by simp[orderN,cmpI]
  rw[ho]
  simp -implicitDefEqProofs only[↓Zd,(Zp),Zr,simprocAttr,qP,Value.cells,cut,qC,cld2,underlying3,underlying4,underlying9,underlying31,vA,is31,ag31,ce31,fa31x0,fa31x1,fa31x2,ag3,ce3,ag9,ce9,underlying3,underlying4,underlying9,underlying5,underlying38,underlying0,be4,bn4,bv0,bv1,bv2,bv3,ze31,sz31,sz3,underlying120,underlying253,underlying75,underlying115,j_normal,j_ret,ord66]
  refine j_goto rfl (by kernel_rfl) ?_
  refine wscope_piece hmix ?_
  simp -implicitDefEqProofs only[↓Zd,(Zp),Zr,simprocAttr,qP,Value.cells,cut,qC,cld2,underlying3,underlying4,underlying9,underlying31,vA,is31,ag31,ce31,fa31x0,fa31x1,fa31x2,ag3,ce3,ag9,ce9,underlying3,underlying4,underlying9,underlying5,underlying38,underlying0,be4,bn4,bv0,bv1,bv2,bv3,ze31,sz31,sz3,underlying120,underlying253,underlying75,underlying115,j_normal,j_ret,ord66,co145]
  refine otruth_spec fun s2 hs2=>?_
  have hl2:s.next+2<s2.next:=by have:=hs2.1;(try simp only[(Sn)]at this);omega
  unfold vA at h ⊢
  simp -implicitDefEqProofs only[↓Zd,(Zp),Zr,simprocAttr,qP,Value.cells,cut,qC,cld2,underlying3,underlying4,underlying9,underlying31,vA,is31,ag31,ce31,fa31x0,fa31x1,fa31x2,ag3,ce3,ag9,ce9,underlying3,underlying4,underlying9,underlying5,underlying38,underlying0,be4,bn4,bv0,bv1,bv2,bv3,ze31,sz31,sz3,underlying120,underlying253,underlying75,underlying115,j_normal,j_ret,ord66,hs2.2 s.next (by first|omega|(simp only[(Sn)];omega)),hs2.2 (s.next+1) (by first|omega|(simp only[(Sn)];omega)),hs2.2 (s.next+2) (by first|omega|(simp only[(Sn)];omega)),hs1.2 s.next (by first|omega|(simp only[(Sn)];omega)),hs1.2 (s.next+1) (by first|omega|(simp only[(Sn)];omega)),hs1.2 (s.next+2) (by first|omega|(simp only[(Sn)];omega))]
  exact h _ (by repeat (first|exact lR _|assumption|refine lN ?_|refine lP ?_ (by first|omega|(simp only[(Sn)];omega))|refine lT ?_ (by assumption)))
 ·have hb:binV 9 2 n x 2 n' x' most = .tuple #[vA 1 (boolN (decide (0≤cmpI n n'))) ⟨#[]⟩,.int .i64 0]:=by simp[binV,cmpOp]
  rw[hb]at h
  simp -implicitDefEqProofs only[↓Zd,(Zp),Zr,simprocAttr,qP,Value.cells,cut,qC,cld2,underlying3,underlying4,underlying9,underlying31,vA,is31,ag31,ce31,fa31x0,fa31x1,fa31x2,ag3,ce3,ag9,ce9,underlying3,underlying4,underlying9,underlying5,underlying38,underlying0,be4,bn4,bv0,bv1,bv2,bv3,ze31,sz31,sz3,underlying120,underlying253,underlying75,underlying115,j_normal,j_ret,ord66,co149]
  refine order_spec fun s1 hs1=>?_
  have hl1:s.next+2<s1.next:=by have:=hs1.1;(try simp only[(Sn)]at this);omega
  have ho:orderN 2 n x n' x'=cmpI n n':=by simp[orderN,cmpI]
  rw[ho]
  simp -implicitDefEqProofs only[↓Zd,(Zp),Zr,simprocAttr,qP,Value.cells,cut,qC,cld2,underlying3,underlying4,underlying9,underlying31,vA,is31,ag31,ce31,fa31x0,fa31x1,fa31x2,ag3,ce3,ag9,ce9,underlying3,underlying4,underlying9,underlying5,underlying38,underlying0,be4,bn4,bv0,bv1,bv2,bv3,ze31,sz31,sz3,underlying120,underlying253,underlying75,underlying115,j_normal,j_ret,ord66,co145]
  refine otruth_spec fun s2 hs2=>?_
  have hl2:s.next+2<s2.next:=by have:=hs2.1;(try simp only[(Sn)]at this);omega
  unfold vA at h ⊢
  simp -implicitDefEqProofs only[↓Zd,(Zp),Zr,simprocAttr,qP,Value.cells,cut,qC,cld2,underlying3,underlying4,underlying9,underlying31,vA,is31,ag31,ce31,fa31x0,fa31x1,fa31x2,ag3,ce3,ag9,ce9,underlying3,underlying4,underlying9,underlying5,underlying38,underlying0,be4,bn4,bv0,bv1,bv2,bv3,ze31,sz31,sz3,underlying120,underlying253,underlying75,underlying115,j_normal,j_ret,ord66,hs2.2 s.next (by first|omega|(simp only[(Sn)];omega)),hs2.2 (s.next+1) (by first|omega|(simp only[(Sn)];omega)),hs2.2 (s.next+2) (by first|omega|(simp only[(Sn)];omega)),hs1.2 s.next (by first|omega|(simp only[(Sn)];omega)),hs1.2 (s.next+1) (by first|omega|(simp only[(Sn)];omega)),hs1.2 (s.next+2) (by first|omega|(simp only[(Sn)];omega))]
  exact h _ (by repeat (first|exact lR _|assumption|refine lN ?_|refine lP ?_ (by first|omega|(simp only[(Sn)];omega))|refine lT ?_ (by assumption)))
end
section
theorem bin_K2{op k n k' n':Int}{x x':ByteArray}{most:Int}(hn:I64 n)(hm : -1≤most∧most≤9223372036854775807)(hx:True)(hx':True)(k2:¬ k'=2)(h:∀ s',s.le s'→R (binV op 2 n x k' n' x' most) s') :
  QC prog w0 66 #[.int .i64 op,vA 2 n x,vA k' n' x',.int .i64 most] s R:=by
 refine wfun2 hmix ok66 func66 rfl ntmps66 results66 (by simp) ?_
 simp -implicitDefEqProofs only[↓Zd,(Zp),Zr,simprocAttr,qP,Value.cells,cut,qC,cld2,underlying3,underlying4,underlying9,underlying31,vA,is31,ag31,ce31,fa31x0,fa31x1,fa31x2,ag3,ce3,ag9,ce9,underlying3,underlying4,underlying9,underlying5,underlying38,underlying0,be4,bn4,bv0,bv1,bv2,bv3,ze31,sz31,sz3,underlying120,underlying253,underlying75,underlying115,k2]
 refine wscope_piece hmix ?_
 simp -implicitDefEqProofs only[↓Zd,(Zp),Zr,simprocAttr,qP,Value.cells,cut,qC,cld2,underlying3,underlying4,underlying9,underlying31,vA,is31,ag31,ce31,fa31x0,fa31x1,fa31x2,ag3,ce3,ag9,ce9,underlying3,underlying4,underlying9,underlying5,underlying38,underlying0,be4,bn4,bv0,bv1,bv2,bv3,ze31,sz31,sz3,underlying120,underlying253,underlying75,underlying115,j_normal,j_ret,ord66,k2]
 rcases (show (op<1)∨(11<op)∨(op=10)∨(op=11)∨(op=1)∨(2≤op∧op≤5)∨(op=6)∨(op=7)∨(op=8)∨(op=9) by omega) with o1|o1|rfl|rfl|rfl|⟨o2,o5⟩|rfl|rfl|rfl|rfl
 ·have hb:binV op 2 n x k' n' x' most = .tuple #[vA 0 0 ⟨#[]⟩,.int .i64 2]:=by simp[binV,o1,k2]
  rw[hb]at h
  unfold vA at h
  simp -implicitDefEqProofs only[↓Zd,(Zp),Zr,simprocAttr,qP,Value.cells,cut,qC,cld2,underlying3,underlying4,underlying9,underlying31,vA,is31,ag31,ce31,fa31x0,fa31x1,fa31x2,ag3,ce3,ag9,ce9,underlying3,underlying4,underlying9,underlying5,underlying38,underlying0,be4,bn4,bv0,bv1,bv2,bv3,ze31,sz31,sz3,underlying120,underlying253,underlying75,underlying115,j_normal,j_ret,ord66,o1,k2]
  exact h _ (by repeat (first|exact lR _|assumption|refine lN ?_|refine lP ?_ (by first|omega|(simp only[(Sn)];omega))|refine lT ?_ (by assumption)))
 ·have o0:¬ op<1:=by omega
  have hb:binV op 2 n x k' n' x' most = .tuple #[vA 0 0 ⟨#[]⟩,.int .i64 2]:=by simp[binV,o0,o1,k2]
  rw[hb]at h
  unfold vA at h
  simp -implicitDefEqProofs only[↓Zd,(Zp),Zr,simprocAttr,qP,Value.cells,cut,qC,cld2,underlying3,underlying4,underlying9,underlying31,vA,is31,ag31,ce31,fa31x0,fa31x1,fa31x2,ag3,ce3,ag9,ce9,underlying3,underlying4,underlying9,underlying5,underlying38,underlying0,be4,bn4,bv0,bv1,bv2,bv3,ze31,sz31,sz3,underlying120,underlying253,underlying75,underlying115,j_normal,j_ret,ord66,o0,o1,k2]
  exact h _ (by repeat (first|exact lR _|assumption|refine lN ?_|refine lP ?_ (by first|omega|(simp only[(Sn)];omega))|refine lT ?_ (by assumption)))
 ·have hb:binV 10 2 n x k' n' x' most = .tuple #[vA 1 (boolN (sameV 2 n x k' n' x')) ⟨#[]⟩,.int .i64 0]:=by simp[binV,k2]
  rw[hb]at h
  simp -implicitDefEqProofs only[↓Zd,(Zp),Zr,simprocAttr,qP,Value.cells,cut,qC,cld2,underlying3,underlying4,underlying9,underlying31,vA,is31,ag31,ce31,fa31x0,fa31x1,fa31x2,ag3,ce3,ag9,ce9,underlying3,underlying4,underlying9,underlying5,underlying38,underlying0,be4,bn4,bv0,bv1,bv2,bv3,ze31,sz31,sz3,underlying120,underlying253,underlying75,underlying115,j_normal,j_ret,ord66,k2,co146]
  refine same_le fun s1 hs1=>?_
  have hl1:s.next+2<s1.next:=by have:=hs1.1;(try simp only[(Sn)]at this);omega
  simp -implicitDefEqProofs only[↓Zd,(Zp),Zr,simprocAttr,qP,Value.cells,cut,qC,cld2,underlying3,underlying4,underlying9,underlying31,vA,is31,ag31,ce31,fa31x0,fa31x1,fa31x2,ag3,ce3,ag9,ce9,underlying3,underlying4,underlying9,underlying5,underlying38,underlying0,be4,bn4,bv0,bv1,bv2,bv3,ze31,sz31,sz3,underlying120,underlying253,underlying75,underlying115,j_normal,j_ret,ord66,k2,hs1.2 s.next (by first|omega|(simp only[(Sn)];omega)),hs1.2 (s.next+1) (by first|omega|(simp only[(Sn)];omega)),hs1.2 (s.next+2) (by first|omega|(simp only[(Sn)];omega)),co145]
  refine otruth_spec fun s2 hs2=>?_
  have hl2:s.next+2<s2.next:=by have:=hs2.1;(try simp only[(Sn)]at this);omega
  unfold vA at h ⊢
  simp -implicitDefEqProofs only[↓Zd,(Zp),Zr,simprocAttr,qP,Value.cells,cut,qC,cld2,underlying3,underlying4,underlying9,underlying31,vA,is31,ag31,ce31,fa31x0,fa31x1,fa31x2,ag3,ce3,ag9,ce9,underlying3,underlying4,underlying9,underlying5,underlying38,underlying0,be4,bn4,bv0,bv1,bv2,bv3,ze31,sz31,sz3,underlying120,underlying253,underlying75,underlying115,j_normal,j_ret,ord66,k2,hs2.2 s.next (by first|omega|(simp only[(Sn)];omega)),hs2.2 (s.next+1) (by first|omega|(simp only[(Sn)];omega)),hs2.2 (s.next+2) (by first|omega|(simp only[(Sn)];omega)),hs1.2 s.next (by first|omega|(simp only[(Sn)];omega)),hs1.2 (s.next+1) (by first|omega|(simp only[(Sn)];omega)),hs1.2 (s.next+2) (by first|omega|(simp only[(Sn)];omega))]
  exact h _ (by repeat (first|exact lR _|assumption|refine lN ?_|refine lP ?_ (by first|omega|(simp only[(Sn)];omega))|refine lT ?_ (by assumption)))
 ·have hb:binV 11 2 n x k' n' x' most = .tuple #[vA 1 (boolN (!sameV 2 n x k' n' x')) ⟨#[]⟩,.int .i64 0]:=by simp[binV,k2]
  rw[hb]at h
  simp -implicitDefEqProofs only[↓Zd,(Zp),Zr,simprocAttr,qP,Value.cells,cut,qC,cld2,underlying3,underlying4,underlying9,underlying31,vA,is31,ag31,ce31,fa31x0,fa31x1,fa31x2,ag3,ce3,ag9,ce9,underlying3,underlying4,underlying9,underlying5,underlying38,underlying0,be4,bn4,bv0,bv1,bv2,bv3,ze31,sz31,sz3,underlying120,underlying253,underlying75,underlying115,j_normal,j_ret,ord66,k2,co146]
  refine same_le fun s1 hs1=>?_
  have hl1:s.next+2<s1.next:=by have:=hs1.1;(try simp only[(Sn)]at this);omega
  simp -implicitDefEqProofs only[↓Zd,(Zp),Zr,simprocAttr,qP,Value.cells,cut,qC,cld2,underlying3,underlying4,underlying9,underlying31,vA,is31,ag31,ce31,fa31x0,fa31x1,fa31x2,ag3,ce3,ag9,ce9,underlying3,underlying4,underlying9,underlying5,underlying38,underlying0,be4,bn4,bv0,bv1,bv2,bv3,ze31,sz31,sz3,underlying120,underlying253,underlying75,underlying115,j_normal,j_ret,ord66,k2,hs1.2 s.next (by first|omega|(simp only[(Sn)];omega)),hs1.2 (s.next+1) (by first|omega|(simp only[(Sn)];omega)),hs1.2 (s.next+2) (by first|omega|(simp only[(Sn)];omega)),co145]
  refine otruth_spec fun s2 hs2=>?_
  have hl2:s.next+2<s2.next:=by have:=hs2.1;(try simp only[(Sn)]at this);omega
  unfold vA at h ⊢
  simp -implicitDefEqProofs only[↓Zd,(Zp),Zr,simprocAttr,qP,Value.cells,cut,qC,cld2,underlying3,underlying4,underlying9,underlying31,vA,is31,ag31,ce31,fa31x0,fa31x1,fa31x2,ag3,ce3,ag9,ce9,underlying3,underlying4,underlying9,underlying5,underlying38,underlying0,be4,bn4,bv0,bv1,bv2,bv3,ze31,sz31,sz3,underlying120,underlying253,underlying75,underlying115,j_normal,j_ret,ord66,k2,hs2.2 s.next (by first|omega|(simp only[(Sn)];omega)),hs2.2 (s.next+1) (by first|omega|(simp only[(Sn)];omega)),hs2.2 (s.next+2) (by first|omega|(simp only[(Sn)];omega)),hs1.2 s.next (by first|omega|(simp only[(Sn)];omega)),hs1.2 (s.next+1) (by first|omega|(simp only[(Sn)];omega)),hs1.2 (s.next+2) (by first|omega|(simp only[(Sn)];omega))]
  exact h _ (by repeat (first|exact lR _|assumption|refine lN ?_|refine lP ?_ (by first|omega|(simp only[(Sn)];omega))|refine lT ?_ (by assumption)))
 ·have hb:binV 1 2 n x k' n' x' most = .tuple #[vA 0 0 ⟨#[]⟩,.int .i64 30]:=by simp[binV,k2]
  rw[hb]at h
  unfold vA at h
  simp -implicitDefEqProofs only[↓Zd,(Zp),Zr,simprocAttr,qP,Value.cells,cut,qC,cld2,underlying3,underlying4,underlying9,underlying31,vA,is31,ag31,ce31,fa31x0,fa31x1,fa31x2,ag3,ce3,ag9,ce9,underlying3,underlying4,underlying9,underlying5,underlying38,underlying0,be4,bn4,bv0,bv1,bv2,bv3,ze31,sz31,sz3,underlying120,underlying253,underlying75,underlying115,j_normal,j_ret,ord66,k2]
  exact h _ (by repeat (first|exact lR _|assumption|refine lN ?_|refine lP ?_ (by first|omega|(simp only[(Sn)];omega))|refine lT ?_ (by assumption)))
 ·have o0:¬ op<1:=by omega
  have o1:¬ 11<op:=by omega
  have oa:¬ op=10:=by omega
  have ob:¬ op=11:=by omega
  have oc:¬ op=1:=by omega
  have hb:binV op 2 n x k' n' x' most = .tuple #[vA 0 0 ⟨#[]⟩,.int .i64 30]:=by simp[binV,o0,o1,oa,ob,oc,o5,k2]
  rw[hb]at h
  unfold vA at h
  simp -implicitDefEqProofs only[↓Zd,(Zp),Zr,simprocAttr,qP,Value.cells,cut,qC,cld2,underlying3,underlying4,underlying9,underlying31,vA,is31,ag31,ce31,fa31x0,fa31x1,fa31x2,ag3,ce3,ag9,ce9,underlying3,underlying4,underlying9,underlying5,underlying38,underlying0,be4,bn4,bv0,bv1,bv2,bv3,ze31,sz31,sz3,underlying120,underlying253,underlying75,underlying115,j_normal,j_ret,ord66,o0,o1,oa,ob,oc,o5,k2]
  exact h _ (by repeat (first|exact lR _|assumption|refine lN ?_|refine lP ?_ (by first|omega|(simp only[(Sn)];omega))|refine lT ?_ (by assumption)))
 ·have hb:binV 6 2 n x k' n' x' most = .tuple #[vA 0 0 ⟨#[]⟩,.int .i64 30]:=by simp[binV,k2]
  rw[hb]at h
  unfold vA at h
  simp -implicitDefEqProofs only[↓Zd,(Zp),Zr,simprocAttr,qP,Value.cells,cut,qC,cld2,underlying3,underlying4,underlying9,underlying31,vA,is31,ag31,ce31,fa31x0,fa31x1,fa31x2,ag3,ce3,ag9,ce9,underlying3,underlying4,underlying9,underlying5,underlying38,underlying0,be4,bn4,bv0,bv1,bv2,bv3,ze31,sz31,sz3,underlying120,underlying253,underlying75,underlying115,j_normal,j_ret,ord66,k2]
  exact h _ (by repeat (first|exact lR _|assumption|refine lN ?_|refine lP ?_ (by first|omega|(simp only[(Sn)];omega))|refine lT ?_ (by assumption)))
 ·have hb:binV 7 2 n x k' n' x' most = .tuple #[vA 0 0 ⟨#[]⟩,.int .i64 30]:=by simp[binV,k2]
  rw[hb]at h
  unfold vA at h
  simp -implicitDefEqProofs only[↓Zd,(Zp),Zr,simprocAttr,qP,Value.cells,cut,qC,cld2,underlying3,underlying4,underlying9,underlying31,vA,is31,ag31,ce31,fa31x0,fa31x1,fa31x2,ag3,ce3,ag9,ce9,underlying3,underlying4,underlying9,underlying5,underlying38,underlying0,be4,bn4,bv0,bv1,bv2,bv3,ze31,sz31,sz3,underlying120,underlying253,underlying75,underlying115,j_normal,j_ret,ord66,k2]
  exact h _ (by repeat (first|exact lR _|assumption|refine lN ?_|refine lP ?_ (by first|omega|(simp only[(Sn)];omega))|refine lT ?_ (by assumption)))
 ·have hb:binV 8 2 n x k' n' x' most = .tuple #[vA 0 0 ⟨#[]⟩,.int .i64 30]:=by simp[binV,k2]
  rw[hb]at h
  unfold vA at h
  simp -implicitDefEqProofs only[↓Zd,(Zp),Zr,simprocAttr,qP,Value.cells,cut,qC,cld2,underlying3,underlying4,underlying9,underlying31,vA,is31,ag31,ce31,fa31x0,fa31x1,fa31x2,ag3,ce3,ag9,ce9,underlying3,underlying4,underlying9,underlying5,underlying38,underlying0,be4,bn4,bv0,bv1,bv2,bv3,ze31,sz31,sz3,underlying120,underlying253,underlying75,underlying115,j_normal,j_ret,ord66,k2]
  exact h _ (by repeat (first|exact lR _|assumption|refine lN ?_|refine lP ?_ (by first|omega|(simp only[(Sn)];omega))|refine lT ?_ (by assumption)))
 ·have hb:binV 9 2 n x k' n' x' most = .tuple #[vA 0 0 ⟨#[]⟩,.int .i64 30]:=by simp[binV,k2]
  rw[hb]at h
  unfold vA at h
  simp -implicitDefEqProofs only[↓Zd,(Zp),Zr,simprocAttr,qP,Value.cells,cut,qC,cld2,underlying3,underlying4,underlying9,underlying31,vA,is31,ag31,ce31,fa31x0,fa31x1,fa31x2,ag3,ce3,ag9,ce9,underlying3,underlying4,underlying9,underlying5,underlying38,underlying0,be4,bn4,bv0,bv1,bv2,bv3,ze31,sz31,sz3,underlying120,underlying253,underlying75,underlying115,j_normal,j_ret,ord66,k2]
  exact h _ (by repeat (first|exact lR _|assumption|refine lN ?_|refine lP ?_ (by first|omega|(simp only[(Sn)];omega))|refine lT ?_ (by assumption)))
end
section
theorem bin_K3{op k n k' n':Int}{x x':ByteArray}{most:Int}(hn:I64 n)(hm : -1≤most∧most≤9223372036854775807)(hx:True)(hx':True)(h:∀ s',s.le s'→R (binV op 3 n x 3 n' x' most) s') :
  QC prog w0 66 #[.int .i64 op,vA 3 n x,vA 3 n' x',.int .i64 most] s R:=by
 refine wfun2 hmix ok66 func66 rfl ntmps66 results66 (by simp) ?_
 simp -implicitDefEqProofs only[↓Zd,(Zp),Zr,simprocAttr,qP,Value.cells,cut,qC,cld2,underlying3,underlying4,underlying9,underlying31,vA,is31,ag31,ce31,fa31x0,fa31x1,fa31x2,ag3,ce3,ag9,ce9,underlying3,underlying4,underlying9,underlying5,underlying38,underlying0,be4,bn4,bv0,bv1,bv2,bv3,ze31,sz31,sz3,underlying120,underlying253,underlying75,underlying115]
 refine wscope_piece hmix ?_
 simp -implicitDefEqProofs only[↓Zd,(Zp),Zr,simprocAttr,qP,Value.cells,cut,qC,cld2,underlying3,underlying4,underlying9,underlying31,vA,is31,ag31,ce31,fa31x0,fa31x1,fa31x2,ag3,ce3,ag9,ce9,underlying3,underlying4,underlying9,underlying5,underlying38,underlying0,be4,bn4,bv0,bv1,bv2,bv3,ze31,sz31,sz3,underlying120,underlying253,underlying75,underlying115,j_normal,j_ret,ord66]
 rcases (show (op<1)∨(11<op)∨(op=10)∨(op=11)∨(op=1)∨(2≤op∧op≤5)∨(op=6)∨(op=7)∨(op=8)∨(op=9) by omega) with o1|o1|rfl|rfl|rfl|⟨o2,o5⟩|rfl|rfl|rfl|rfl
 ·have hb:binV op 3 n x 3 n' x' most = .tuple #[vA 0 0 ⟨#[]⟩,.int .i64 2]:=by simp[binV,o1]
  rw[hb]at h
  unfold vA at h
  simp -implicitDefEqProofs only[↓Zd,(Zp),Zr,simprocAttr,qP,Value.cells,cut,qC,cld2,underlying3,underlying4,underlying9,underlying31,vA,is31,ag31,ce31,fa31x0,fa31x1,fa31x2,ag3,ce3,ag9,ce9,underlying3,underlying4,underlying9,underlying5,underlying38,underlying0,be4,bn4,bv0,bv1,bv2,bv3,ze31,sz31,sz3,underlying120,underlying253,underlying75,underlying115,j_normal,j_ret,ord66,o1]
  exact h _ (by repeat (first|exact lR _|assumption|refine lN ?_|refine lP ?_ (by first|omega|(simp only[(Sn)];omega))|refine lT ?_ (by assumption)))
 ·have o0:¬ op<1:=by omega
  have hb:binV op 3 n x 3 n' x' most = .tuple #[vA 0 0 ⟨#[]⟩,.int .i64 2]:=by simp[binV,o0,o1]
  rw[hb]at h
  unfold vA at h
  simp -implicitDefEqProofs only[↓Zd,(Zp),Zr,simprocAttr,qP,Value.cells,cut,qC,cld2,underlying3,underlying4,underlying9,underlying31,vA,is31,ag31,ce31,fa31x0,fa31x1,fa31x2,ag3,ce3,ag9,ce9,underlying3,underlying4,underlying9,underlying5,underlying38,underlying0,be4,bn4,bv0,bv1,bv2,bv3,ze31,sz31,sz3,underlying120,underlying253,underlying75,underlying115,j_normal,j_ret,ord66,o0,o1]
  exact h _ (by repeat (first|exact lR _|assumption|refine lN ?_|refine lP ?_ (by first|omega|(simp only[(Sn)];omega))|refine lT ?_ (by assumption)))
 ·have hb:binV 10 3 n x 3 n' x' most = .tuple #[vA 1 (boolN (sameV 3 n x 3 n' x')) ⟨#[]⟩,.int .i64 0]:=by simp[binV]
  rw[hb]at h
  simp -implicitDefEqProofs only[↓Zd,(Zp),Zr,simprocAttr,qP,Value.cells,cut,qC,cld2,underlying3,underlying4,underlying9,underlying31,vA,is31,ag31,ce31,fa31x0,fa31x1,fa31x2,ag3,ce3,ag9,ce9,underlying3,underlying4,underlying9,underlying5,underlying38,underlying0,be4,bn4,bv0,bv1,bv2,bv3,ze31,sz31,sz3,underlying120,underlying253,underlying75,underlying115,j_normal,j_ret,ord66,co146]
  refine same_le fun s1 hs1=>?_
  have hl1:s.next+2<s1.next:=by have:=hs1.1;(try simp only[(Sn)]at this);omega
  simp -implicitDefEqProofs only[↓Zd,(Zp),Zr,simprocAttr,qP,Value.cells,cut,qC,cld2,underlying3,underlying4,underlying9,underlying31,vA,is31,ag31,ce31,fa31x0,fa31x1,fa31x2,ag3,ce3,ag9,ce9,underlying3,underlying4,underlying9,underlying5,underlying38,underlying0,be4,bn4,bv0,bv1,bv2,bv3,ze31,sz31,sz3,underlying120,underlying253,underlying75,underlying115,j_normal,j_ret,ord66,hs1.2 s.next (by first|omega|(simp only[(Sn)];omega)),hs1.2 (s.next+1) (by first|omega|(simp only[(Sn)];omega)),hs1.2 (s.next+2) (by first|omega|(simp only[(Sn)];omega)),co145]
  refine otruth_spec fun s2 hs2=>?_
  have hl2:s.next+2<s2.next:=by have:=hs2.1;(try simp only[(Sn)]at this);omega
  unfold vA at h ⊢
  simp -implicitDefEqProofs only[↓Zd,(Zp),Zr,simprocAttr,qP,Value.cells,cut,qC,cld2,underlying3,underlying4,underlying9,underlying31,vA,is31,ag31,ce31,fa31x0,fa31x1,fa31x2,ag3,ce3,ag9,ce9,underlying3,underlying4,underlying9,underlying5,underlying38,underlying0,be4,bn4,bv0,bv1,bv2,bv3,ze31,sz31,sz3,underlying120,underlying253,underlying75,underlying115,j_normal,j_ret,ord66,hs2.2 s.next (by first|omega|(simp only[(Sn)];omega)),hs2.2 (s.next+1) (by first|omega|(simp only[(Sn)];omega)),hs2.2 (s.next+2) (by first|omega|(simp only[(Sn)];omega)),hs1.2 s.next (by first|omega|(simp only[(Sn)];omega)),hs1.2 (s.next+1) (by first|omega|(simp only[(Sn)];omega)),hs1.2 (s.next+2) (by first|omega|(simp only[(Sn)];omega))]
  exact h _ (by repeat (first|exact lR _|assumption|refine lN ?_|refine lP ?_ (by first|omega|(simp only[(Sn)];omega))|refine lT ?_ (by assumption)))
 ·have hb:binV 11 3 n x 3 n' x' most = .tuple #[vA 1 (boolN (!sameV 3 n x 3 n' x')) ⟨#[]⟩,.int .i64 0]:=by simp[binV]
  rw[hb]at h
  simp -implicitDefEqProofs only[↓Zd,(Zp),Zr,simprocAttr,qP,Value.cells,cut,qC,cld2,underlying3,underlying4,underlying9,underlying31,vA,is31,ag31,ce31,fa31x0,fa31x1,fa31x2,ag3,ce3,ag9,ce9,underlying3,underlying4,underlying9,underlying5,underlying38,underlying0,be4,bn4,bv0,bv1,bv2,bv3,ze31,sz31,sz3,underlying120,underlying253,underlying75,underlying115,j_normal,j_ret,ord66,co146]
  refine same_le fun s1 hs1=>?_
  have hl1:s.next+2<s1.next:=by have:=hs1.1;(try simp only[(Sn)]at this);omega
  simp -implicitDefEqProofs only[↓Zd,(Zp),Zr,simprocAttr,qP,Value.cells,cut,qC,cld2,underlying3,underlying4,underlying9,underlying31,vA,is31,ag31,ce31,fa31x0,fa31x1,fa31x2,ag3,ce3,ag9,ce9,underlying3,underlying4,underlying9,underlying5,underlying38,underlying0,be4,bn4,bv0,bv1,bv2,bv3,ze31,sz31,sz3,underlying120,underlying253,underlying75,underlying115,j_normal,j_ret,ord66,hs1.2 s.next (by first|omega|(simp only[(Sn)];omega)),hs1.2 (s.next+1) (by first|omega|(simp only[(Sn)];omega)),hs1.2 (s.next+2) (by first|omega|(simp only[(Sn)];omega)),co145]
  refine otruth_spec fun s2 hs2=>?_
  have hl2:s.next+2<s2.next:=by have:=hs2.1;(try simp only[(Sn)]at this);omega
  unfold vA at h ⊢
  simp -implicitDefEqProofs only[↓Zd,(Zp),Zr,simprocAttr,qP,Value.cells,cut,qC,cld2,underlying3,underlying4,underlying9,underlying31,vA,is31,ag31,ce31,fa31x0,fa31x1,fa31x2,ag3,ce3,ag9,ce9,underlying3,underlying4,underlying9,underlying5,underlying38,underlying0,be4,bn4,bv0,bv1,bv2,bv3,ze31,sz31,sz3,underlying120,underlying253,underlying75,underlying115,j_normal,j_ret,ord66,hs2.2 s.next (by first|omega|(simp only[(Sn)];omega)),hs2.2 (s.next+1) (by first|omega|(simp only[(Sn)];omega)),hs2.2 (s.next+2) (by first|omega|(simp only[(Sn)];omega)),hs1.2 s.next (by first|omega|(simp only[(Sn)];omega)),hs1.2 (s.next+1) (by first|omega|(simp only[(Sn)];omega)),hs1.2 (s.next+2) (by first|omega|(simp only[(Sn)];omega))]
  exact h _ (by repeat (first|exact lR _|assumption|refine lN ?_|refine lP ?_ (by first|omega|(simp only[(Sn)];omega))|refine lT ?_ (by assumption)))
 ·have hb:binV 1 3 n x 3 n' x' most=joinV x x' most:=by simp[binV]
  rw[hb]at h
  simp -implicitDefEqProofs only[↓Zd,(Zp),Zr,simprocAttr,qP,Value.cells,cut,qC,cld2,underlying3,underlying4,underlying9,underlying31,vA,is31,ag31,ce31,fa31x0,fa31x1,fa31x2,ag3,ce3,ag9,ce9,underlying3,underlying4,underlying9,underlying5,underlying38,underlying0,be4,bn4,bv0,bv1,bv2,bv3,ze31,sz31,sz3,underlying120,underlying253,underlying75,underlying115,j_normal,j_ret,ord66,co147]
  refine join_spec hm hx hx' fun s1 hs1=>?_
  have hl1:s.next+2<s1.next:=by have:=hs1.1;(try simp only[(Sn)]at this);omega
  by_cases hj:(x.size:Int)+x'.size>most
  ·have e:joinV x x' most = .tuple #[vA 0 0 ⟨#[]⟩,.int .i64 43]:=by unfold joinV;rw[if_pos hj]
   rw[e]at h ⊢
   unfold vA at h ⊢
   simp -implicitDefEqProofs only[↓Zd,(Zp),Zr,simprocAttr,qP,Value.cells,cut,qC,cld2,underlying3,underlying4,underlying9,underlying31,vA,is31,ag31,ce31,fa31x0,fa31x1,fa31x2,ag3,ce3,ag9,ce9,underlying3,underlying4,underlying9,underlying5,underlying38,underlying0,be4,bn4,bv0,bv1,bv2,bv3,ze31,sz31,sz3,underlying120,underlying253,underlying75,underlying115,j_normal,j_ret,hs1.2 s.next (by first|omega|(simp only[(Sn)];omega)),hs1.2 (s.next+1) (by first|omega|(simp only[(Sn)];omega)),hs1.2 (s.next+2) (by first|omega|(simp only[(Sn)];omega))]
   exact h _ (by repeat (first|exact lR _|assumption|refine lN ?_|refine lP ?_ (by first|omega|(simp only[(Sn)];omega))|refine lT ?_ (by assumption)))
  ·have e:joinV x x' most = .tuple #[vA 3 0 (x++x'),.int .i64 0]:=by unfold joinV;rw[if_neg hj]
   rw[e]at h ⊢
   unfold vA at h ⊢
   simp -implicitDefEqProofs only[↓Zd,(Zp),Zr,simprocAttr,qP,Value.cells,cut,qC,cld2,underlying3,underlying4,underlying9,underlying31,vA,is31,ag31,ce31,fa31x0,fa31x1,fa31x2,ag3,ce3,ag9,ce9,underlying3,underlying4,underlying9,underlying5,underlying38,underlying0,be4,bn4,bv0,bv1,bv2,bv3,ze31,sz31,sz3,underlying120,underlying253,underlying75,underlying115,j_normal,j_ret,hs1.2 s.next (by first|omega|(simp only[(Sn)];omega)),hs1.2 (s.next+1) (by first|omega|(simp only[(Sn)];omega)),hs1.2 (s.next+2) (by first|omega|(simp only[(Sn)];omega))]
   exact h _ (by repeat (first|exact lR _|assumption|refine lN ?_|refine lP ?_ (by first|omega|(simp only[(Sn)];omega))|refine lT ?_ (by assumption)))
 ·have o0:¬ op<1:=by omega
  have o1:¬ 11<op:=by omega
  have oa:¬ op=10:=by omega
  have ob:¬ op=11:=by omega
  have oc:¬ op=1:=by omega
  have hb:binV op 3 n x 3 n' x' most = .tuple #[vA 0 0 ⟨#[]⟩,.int .i64 30]:=by simp[binV,o0,o1,oa,ob,oc,o5]
  rw[hb]at h
  unfold vA at h
  simp -implicitDefEqProofs only[↓Zd,(Zp),Zr,simprocAttr,qP,Value.cells,cut,qC,cld2,underlying3,underlying4,underlying9,underlying31,vA,is31,ag31,ce31,fa31x0,fa31x1,fa31x2,ag3,ce3,ag9,ce9,underlying3,underlying4,underlying9,underlying5,underlying38,underlying0,be4,bn4,bv0,bv1,bv2,bv3,ze31,sz31,sz3,underlying120,underlying253,underlying75,underlying115,j_normal,j_ret,ord66,o0,o1,oa,ob,oc,o5]
  exact h _ (by repeat (first|exact lR _|assumption|refine lN ?_|refine lP ?_ (by first|omega|(simp only[(Sn)];omega))|refine lT ?_ (by assumption)))
 ·have hb:binV 6 3 n x 3 n' x' most = .tuple #[vA 1 (boolN (decide (cmpL x.data.toList x'.data.toList<0))) ⟨#[]⟩,.int .i64 0]:=by simp[binV,cmpOp]
  rw[hb]at h
  simp -implicitDefEqProofs only[↓Zd,(Zp),Zr,simprocAttr,qP,Value.cells,cut,qC,cld2,underlying3,underlying4,underlying9,underlying31,vA,is31,ag31,ce31,fa31x0,fa31x1,fa31x2,ag3,ce3,ag9,ce9,underlying3,underlying4,underlying9,underlying5,underlying38,underlying0,be4,bn4,bv0,bv1,bv2,bv3,ze31,sz31,sz3,underlying120,underlying253,underlying75,underlying115,j_normal,j_ret,ord66,co149]
  refine order_spec fun s1 hs1=>?_
  have hl1:s.next+2<s1.next:=by have:=hs1.1;(try simp only[(Sn)]at this);omega
  have ho:orderN 3 n x n' x'=cmpL x.data.toList x'.data.toList:=rfl
  rw[ho]
  simp -implicitDefEqProofs only[↓Zd,(Zp),Zr,simprocAttr,qP,Value.cells,cut,qC,cld2,underlying3,underlying4,underlying9,underlying31,vA,is31,ag31,ce31,fa31x0,fa31x1,fa31x2,ag3,ce3,ag9,ce9,underlying3,underlying4,underlying9,underlying5,underlying38,underlying0,be4,bn4,bv0,bv1,bv2,bv3,ze31,sz31,sz3,underlying120,underlying253,underlying75,underlying115,j_normal,j_ret,ord66]
  refine j_goto rfl (by kernel_rfl) ?_
  refine wscope_piece hmix ?_
  simp -implicitDefEqProofs only[↓Zd,(Zp),Zr,simprocAttr,qP,Value.cells,cut,qC,cld2,underlying3,underlying4,underlying9,underlying31,vA,is31,ag31,ce31,fa31x0,fa31x1,fa31x2,ag3,ce3,ag9,ce9,underlying3,underlying4,underlying9,underlying5,underlying38,underlying0,be4,bn4,bv0,bv1,bv2,bv3,ze31,sz31,sz3,underlying120,underlying253,underlying75,underlying115,j_normal,j_ret,ord66,co145]
  refine otruth_spec fun s2 hs2=>?_
  have hl2:s.next+2<s2.next:=by have:=hs2.1;(try simp only[(Sn)]at this);omega
  unfold vA at h ⊢
  simp -implicitDefEqProofs only[↓Zd,(Zp),Zr,simprocAttr,qP,Value.cells,cut,qC,cld2,underlying3,underlying4,underlying9,underlying31,vA,is31,ag31,ce31,fa31x0,fa31x1,fa31x2,ag3,ce3,ag9,ce9,underlying3,underlying4,underlying9,underlying5,underlying38,underlying0,be4,bn4,bv0,bv1,bv2,bv3,ze31,sz31,sz3,underlying120,underlying253,underlying75,underlying115,j_normal,j_ret,ord66,hs2.2 s.next (by first|omega|(simp only[(Sn)];omega)),hs2.2 (s.next+1) (by first|omega|(simp only[(Sn)];omega)),hs2.2 (s.next+2) (by first|omega|(simp only[(Sn)];omega)),hs1.2 s.next (by first|omega|(simp only[(Sn)];omega)),hs1.2 (s.next+1) (by first|omega|(simp only[(Sn)];omega)),hs1.2 (s.next+2) (by first|omega|(simp only[(Sn)];omega))]
  exact h _ (by repeat (first|exact lR _|assumption|refine lN ?_|refine lP ?_ (by first|omega|(simp only[(Sn)];omega))|refine lT ?_ (by assumption)))
 ·have hb:binV 7 3 n x 3 n' x' most = .tuple #[vA 1 (boolN (decide (cmpL x.data.toList x'.data.toList≤0))) ⟨#[]⟩,.int .i64 0]:=by simp[binV,cmpOp]
  rw[hb]at h
  simp -implicitDefEqProofs only[↓Zd,(Zp),Zr,simprocAttr,qP,Value.cells,cut,qC,cld2,underlying3,underlying4,underlying9,underlying31,vA,is31,ag31,ce31,fa31x0,fa31x1,fa31x2,ag3,ce3,ag9,ce9,underlying3,underlying4,underlying9,underlying5,underlying38,underlying0,be4,bn4,bv0,bv1,bv2,bv3,ze31,sz31,sz3,underlying120,underlying253,underlying75,underlying115,j_normal,j_ret,ord66,co149]
  refine order_spec fun s1 hs1=>?_
  have hl1:s.next+2<s1.next:=by have:=hs1.1;(try simp only[(Sn)]at this);omega
  have ho:orderN 3 n x n' x'=cmpL x.data.toList x'.data.toList:=rfl
  rw[ho]
  simp -implicitDefEqProofs only[↓Zd,(Zp),Zr,simprocAttr,qP,Value.cells,cut,qC,cld2,underlying3,underlying4,underlying9,underlying31,vA,is31,ag31,ce31,fa31x0,fa31x1,fa31x2,ag3,ce3,ag9,ce9,underlying3,underlying4,underlying9,underlying5,underlying38,underlying0,be4,bn4,bv0,bv1,bv2,bv3,ze31,sz31,sz3,underlying120,underlying253,underlying75,underlying115,j_normal,j_ret,ord66]
  refine j_goto rfl (by kernel_rfl) ?_
  refine wscope_piece hmix ?_
  simp -implicitDefEqProofs only[↓Zd,(Zp),Zr,simprocAttr,qP,Value.cells,cut,qC,cld2,underlying3,underlying4,underlying9,underlying31,vA,is31,ag31,ce31,fa31x0,fa31x1,fa31x2,ag3,ce3,ag9,ce9,underlying3,underlying4,underlying9,underlying5,underlying38,underlying0,be4,bn4,bv0,bv1,bv2,bv3,ze31,sz31,sz3,underlying120,underlying253,underlying75,underlying115,j_normal,j_ret,ord66,co145]
  refine otruth_spec fun s2 hs2=>?_
  have hl2:s.next+2<s2.next:=by have:=hs2.1;(try simp only[(Sn)]at this);omega
  unfold vA at h ⊢
  simp -implicitDefEqProofs only[↓Zd,(Zp),Zr,simprocAttr,qP,Value.cells,cut,qC,cld2,underlying3,underlying4,underlying9,underlying31,vA,is31,ag31,ce31,fa31x0,fa31x1,fa31x2,ag3,ce3,ag9,ce9,underlying3,underlying4,underlying9,underlying5,underlying38,underlying0,be4,bn4,bv0,bv1,bv2,bv3,ze31,sz31,sz3,underlying120,underlying253,underlying75,underlying115,j_normal,j_ret,ord66,hs2.2 s.next (by first|omega|(simp only[(Sn)];omega)),hs2.2 (s.next+1) (by first|omega|(simp only[(Sn)];omega)),hs2.2 (s.next+2) (by first|omega|(simp only[(Sn)];omega)),hs1.2 s.next (by first|omega|(simp only[(Sn)];omega)),hs1.2 (s.next+1) (by first|omega|(simp only[(Sn)];omega)),hs1.2 (s.next+2) (by first|omega|(simp only[(Sn)];omega))]
  exact h _ (by repeat (first|exact lR _|assumption|refine lN ?_|refine lP ?_ (by first|omega|(simp only[(Sn)];omega))|refine lT ?_ (by assumption)))
 ·have hb:binV 8 3 n x 3 n' x' most = .tuple #[vA 1 (boolN (decide (0<cmpL x.data.toList x'.data.toList))) ⟨#[]⟩,.int .i64 0]:=by simp[binV,cmpOp]
  rw[hb]at h
  simp -implicitDefEqProofs only[↓Zd,(Zp),Zr,simprocAttr,qP,Value.cells,cut,qC,cld2,underlying3,underlying4,underlying9,underlying31,vA,is31,ag31,ce31,fa31x0,fa31x1,fa31x2,ag3,ce3,ag9,ce9,underlying3,underlying4,underlying9,underlying5,underlying38,underlying0,be4,bn4,bv0,bv1,bv2,bv3,ze31,sz31,sz3,underlying120,underlying253,underlying75,underlying115,j_normal,j_ret,ord66,co149]
  refine order_spec fun s1 hs1=>?_
  have hl1:s.next+2<s1.next:=by have:=hs1.1;(try simp only[(Sn)]at this);omega
  have ho:orderN 3 n x n' x'=cmpL x.data.toList x'.data.toList:=rfl
  rw[ho]
  simp -implicitDefEqProofs only[↓Zd,(Zp),Zr,simprocAttr,qP,Value.cells,cut,qC,cld2,underlying3,underlying4,underlying9,underlying31,vA,is31,ag31,ce31,fa31x0,fa31x1,fa31x2,ag3,ce3,ag9,ce9,underlying3,underlying4,underlying9,underlying5,underlying38,underlying0,be4,bn4,bv0,bv1,bv2,bv3,ze31,sz31,sz3,underlying120,underlying253,underlying75,underlying115,j_normal,j_ret,ord66]
  refine j_goto rfl (by kernel_rfl) ?_
  refine wscope_piece hmix ?_
  simp -implicitDefEqProofs only[↓Zd,(Zp),Zr,simprocAttr,qP,Value.cells,cut,qC,cld2,underlying3,underlying4,underlying9,underlying31,vA,is31,ag31,ce31,fa31x0,fa31x1,fa31x2,ag3,ce3,ag9,ce9,underlying3,underlying4,underlying9,underlying5,underlying38,underlying0,be4,bn4,bv0,bv1,bv2,bv3,ze31,sz31,sz3,underlying120,underlying253,underlying75,underlying115,j_normal,j_ret,ord66,co145]
  refine otruth_spec fun s2 hs2=>?_
  have hl2:s.next+2<s2.next:=by have:=hs2.1;(try simp only[(Sn)]at this);omega
  unfold vA at h ⊢
  simp -implicitDefEqProofs only[↓Zd,(Zp),Zr,simprocAttr,qP,Value.cells,cut,qC,cld2,underlying3,underlying4,underlying9,underlying31,vA,is31,ag31,ce31,fa31x0,fa31x1,fa31x2,ag3,ce3,ag9,ce9,underlying3,underlying4,underlying9,underlying5,underlying38,underlying0,be4,bn4,bv0,bv1,bv2,bv3,ze31,sz31,sz3,underlying120,underlying253,underlying75,underlying115,j_normal,j_ret,ord66,hs2.2 s.next (by first|omega|(simp only[(Sn)];omega)),hs2.2 (s.next+1) (by first|omega|(simp only[(Sn)];omega)),hs2.2 (s.next+2) (by first|omega|(simp only[(Sn)];omega)),hs1.2 s.next (by first|omega|(simp only[(Sn)];omega)),hs1.2 (s.next+1) (by first|omega|(simp only[(Sn)];omega)),hs1.2 (s.next+2) (by first|omega|(simp only[(Sn)];omega))]
  exact h _ (by repeat (first|exact lR _|assumption|refine lN ?_|refine lP ?_ (by first|omega|(simp only[(Sn)];omega))|refine lT ?_ (by assumption)))
 ·have hb:binV 9 3 n x 3 n' x' most = .tuple #[vA 1 (boolN (decide (0≤cmpL x.data.toList x'.data.toList))) ⟨#[]⟩,.int .i64 0]:=by simp[binV,cmpOp]
  rw[hb]at h
  simp -implicitDefEqProofs only[↓Zd,(Zp),Zr,simprocAttr,qP,Value.cells,cut,qC,cld2,underlying3,underlying4,underlying9,underlying31,vA,is31,ag31,ce31,fa31x0,fa31x1,fa31x2,ag3,ce3,ag9,ce9,underlying3,underlying4,underlying9,underlying5,underlying38,underlying0,be4,bn4,bv0,bv1,bv2,bv3,ze31,sz31,sz3,underlying120,underlying253,underlying75,underlying115,j_normal,j_ret,ord66,co149]
  refine order_spec fun s1 hs1=>?_
  have hl1:s.next+2<s1.next:=by have:=hs1.1;(try simp only[(Sn)]at this);omega
  have ho:orderN 3 n x n' x'=cmpL x.data.toList x'.data.toList:=rfl
  rw[ho]
  simp -implicitDefEqProofs only[↓Zd,(Zp),Zr,simprocAttr,qP,Value.cells,cut,qC,cld2,underlying3,underlying4,underlying9,underlying31,vA,is31,ag31,ce31,fa31x0,fa31x1,fa31x2,ag3,ce3,ag9,ce9,underlying3,underlying4,underlying9,underlying5,underlying38,underlying0,be4,bn4,bv0,bv1,bv2,bv3,ze31,sz31,sz3,underlying120,underlying253,underlying75,underlying115,j_normal,j_ret,ord66,co145]
  refine otruth_spec fun s2 hs2=>?_
  have hl2:s.next+2<s2.next:=by have:=hs2.1;(try simp only[(Sn)]at this);omega
  unfold vA at h ⊢
  simp -implicitDefEqProofs only[↓Zd,(Zp),Zr,simprocAttr,qP,Value.cells,cut,qC,cld2,underlying3,underlying4,underlying9,underlying31,vA,is31,ag31,ce31,fa31x0,fa31x1,fa31x2,ag3,ce3,ag9,ce9,underlying3,underlying4,underlying9,underlying5,underlying38,underlying0,be4,bn4,bv0,bv1,bv2,bv3,ze31,sz31,sz3,underlying120,underlying253,underlying75,underlying115,j_normal,j_ret,ord66,hs2.2 s.next (by first|omega|(simp only[(Sn)];omega)),hs2.2 (s.next+1) (by first|omega|(simp only[(Sn)];omega)),hs2.2 (s.next+2) (by first|omega|(simp only[(Sn)];omega)),hs1.2 s.next (by first|omega|(simp only[(Sn)];omega)),hs1.2 (s.next+1) (by first|omega|(simp only[(Sn)];omega)),hs1.2 (s.next+2) (by first|omega|(simp only[(Sn)];omega))]
  exact h _ (by repeat (first|exact lR _|assumption|refine lN ?_|refine lP ?_ (by first|omega|(simp only[(Sn)];omega))|refine lT ?_ (by assumption)))
end
section
theorem bin_K4{op k n k' n':Int}{x x':ByteArray}{most:Int}(hn:I64 n)(hm : -1≤most∧most≤9223372036854775807)(hx:True)(hx':True)(k2:¬ k'=3)(h:∀ s',s.le s'→R (binV op 3 n x k' n' x' most) s') :
  QC prog w0 66 #[.int .i64 op,vA 3 n x,vA k' n' x',.int .i64 most] s R:=by
 refine wfun2 hmix ok66 func66 rfl ntmps66 results66 (by simp) ?_
 simp -implicitDefEqProofs only[↓Zd,(Zp),Zr,simprocAttr,qP,Value.cells,cut,qC,cld2,underlying3,underlying4,underlying9,underlying31,vA,is31,ag31,ce31,fa31x0,fa31x1,fa31x2,ag3,ce3,ag9,ce9,underlying3,underlying4,underlying9,underlying5,underlying38,underlying0,be4,bn4,bv0,bv1,bv2,bv3,ze31,sz31,sz3,underlying120,underlying253,underlying75,underlying115,k2]
 refine wscope_piece hmix ?_
 simp -implicitDefEqProofs only[↓Zd,(Zp),Zr,simprocAttr,qP,Value.cells,cut,qC,cld2,underlying3,underlying4,underlying9,underlying31,vA,is31,ag31,ce31,fa31x0,fa31x1,fa31x2,ag3,ce3,ag9,ce9,underlying3,underlying4,underlying9,underlying5,underlying38,underlying0,be4,bn4,bv0,bv1,bv2,bv3,ze31,sz31,sz3,underlying120,underlying253,underlying75,underlying115,j_normal,j_ret,ord66,k2]
 rcases (show (op<1)∨(11<op)∨(op=10)∨(op=11)∨(op=1)∨(2≤op∧op≤5)∨(op=6)∨(op=7)∨(op=8)∨(op=9) by omega) with o1|o1|rfl|rfl|rfl|⟨o2,o5⟩|rfl|rfl|rfl|rfl
 ·have hb:binV op 3 n x k' n' x' most = .tuple #[vA 0 0 ⟨#[]⟩,.int .i64 2]:=by simp[binV,o1,k2]
  rw[hb]at h
  unfold vA at h
  simp -implicitDefEqProofs only[↓Zd,(Zp),Zr,simprocAttr,qP,Value.cells,cut,qC,cld2,underlying3,underlying4,underlying9,underlying31,vA,is31,ag31,ce31,fa31x0,fa31x1,fa31x2,ag3,ce3,ag9,ce9,underlying3,underlying4,underlying9,underlying5,underlying38,underlying0,be4,bn4,bv0,bv1,bv2,bv3,ze31,sz31,sz3,underlying120,underlying253,underlying75,underlying115,j_normal,j_ret,ord66,o1,k2]
  exact h _ (by repeat (first|exact lR _|assumption|refine lN ?_|refine lP ?_ (by first|omega|(simp only[(Sn)];omega))|refine lT ?_ (by assumption)))
 ·have o0:¬ op<1:=by omega
  have hb:binV op 3 n x k' n' x' most = .tuple #[vA 0 0 ⟨#[]⟩,.int .i64 2]:=by simp[binV,o0,o1,k2]
  rw[hb]at h
  unfold vA at h
  simp -implicitDefEqProofs only[↓Zd,(Zp),Zr,simprocAttr,qP,Value.cells,cut,qC,cld2,underlying3,underlying4,underlying9,underlying31,vA,is31,ag31,ce31,fa31x0,fa31x1,fa31x2,ag3,ce3,ag9,ce9,underlying3,underlying4,underlying9,underlying5,underlying38,underlying0,be4,bn4,bv0,bv1,bv2,bv3,ze31,sz31,sz3,underlying120,underlying253,underlying75,underlying115,j_normal,j_ret,ord66,o0,o1,k2]
  exact h _ (by repeat (first|exact lR _|assumption|refine lN ?_|refine lP ?_ (by first|omega|(simp only[(Sn)];omega))|refine lT ?_ (by assumption)))
 ·have hb:binV 10 3 n x k' n' x' most = .tuple #[vA 1 (boolN (sameV 3 n x k' n' x')) ⟨#[]⟩,.int .i64 0]:=by simp[binV,k2]
  rw[hb]at h
  simp -implicitDefEqProofs only[↓Zd,(Zp),Zr,simprocAttr,qP,Value.cells,cut,qC,cld2,underlying3,underlying4,underlying9,underlying31,vA,is31,ag31,ce31,fa31x0,fa31x1,fa31x2,ag3,ce3,ag9,ce9,underlying3,underlying4,underlying9,underlying5,underlying38,underlying0,be4,bn4,bv0,bv1,bv2,bv3,ze31,sz31,sz3,underlying120,underlying253,underlying75,underlying115,j_normal,j_ret,ord66,k2,co146]
  refine same_le fun s1 hs1=>?_
  have hl1:s.next+2<s1.next:=by have:=hs1.1;(try simp only[(Sn)]at this);omega
  simp -implicitDefEqProofs only[↓Zd,(Zp),Zr,simprocAttr,qP,Value.cells,cut,qC,cld2,underlying3,underlying4,underlying9,underlying31,vA,is31,ag31,ce31,fa31x0,fa31x1,fa31x2,ag3,ce3,ag9,ce9,underlying3,underlying4,underlying9,underlying5,underlying38,underlying0,be4,bn4,bv0,bv1,bv2,bv3,ze31,sz31,sz3,underlying120,underlying253,underlying75,underlying115,j_normal,j_ret,ord66,k2,hs1.2 s.next (by first|omega|(simp only[(Sn)];omega)),hs1.2 (s.next+1) (by first|omega|(simp only[(Sn)];omega)),hs1.2 (s.next+2) (by first|omega|(simp only[(Sn)];omega)),co145]
  refine otruth_spec fun s2 hs2=>?_
  have hl2:s.next+2<s2.next:=by have:=hs2.1;(try simp only[(Sn)]at this);omega
  unfold vA at h ⊢
  simp -implicitDefEqProofs only[↓Zd,(Zp),Zr,simprocAttr,qP,Value.cells,cut,qC,cld2,underlying3,underlying4,underlying9,underlying31,vA,is31,ag31,ce31,fa31x0,fa31x1,fa31x2,ag3,ce3,ag9,ce9,underlying3,underlying4,underlying9,underlying5,underlying38,underlying0,be4,bn4,bv0,bv1,bv2,bv3,ze31,sz31,sz3,underlying120,underlying253,underlying75,underlying115,j_normal,j_ret,ord66,k2,hs2.2 s.next (by first|omega|(simp only[(Sn)];omega)),hs2.2 (s.next+1) (by first|omega|(simp only[(Sn)];omega)),hs2.2 (s.next+2) (by first|omega|(simp only[(Sn)];omega)),hs1.2 s.next (by first|omega|(simp only[(Sn)];omega)),hs1.2 (s.next+1) (by first|omega|(simp only[(Sn)];omega)),hs1.2 (s.next+2) (by first|omega|(simp only[(Sn)];omega))]
  exact h _ (by repeat (first|exact lR _|assumption|refine lN ?_|refine lP ?_ (by first|omega|(simp only[(Sn)];omega))|refine lT ?_ (by assumption)))
 ·have hb:binV 11 3 n x k' n' x' most = .tuple #[vA 1 (boolN (!sameV 3 n x k' n' x')) ⟨#[]⟩,.int .i64 0]:=by simp[binV,k2]
  rw[hb]at h
  simp -implicitDefEqProofs only[↓Zd,(Zp),Zr,simprocAttr,qP,Value.cells,cut,qC,cld2,underlying3,underlying4,underlying9,underlying31,vA,is31,ag31,ce31,fa31x0,fa31x1,fa31x2,ag3,ce3,ag9,ce9,underlying3,underlying4,underlying9,underlying5,underlying38,underlying0,be4,bn4,bv0,bv1,bv2,bv3,ze31,sz31,sz3,underlying120,underlying253,underlying75,underlying115,j_normal,j_ret,ord66,k2,co146]
  refine same_le fun s1 hs1=>?_
  have hl1:s.next+2<s1.next:=by have:=hs1.1;(try simp only[(Sn)]at this);omega
  simp -implicitDefEqProofs only[↓Zd,(Zp),Zr,simprocAttr,qP,Value.cells,cut,qC,cld2,underlying3,underlying4,underlying9,underlying31,vA,is31,ag31,ce31,fa31x0,fa31x1,fa31x2,ag3,ce3,ag9,ce9,underlying3,underlying4,underlying9,underlying5,underlying38,underlying0,be4,bn4,bv0,bv1,bv2,bv3,ze31,sz31,sz3,underlying120,underlying253,underlying75,underlying115,j_normal,j_ret,ord66,k2,hs1.2 s.next (by first|omega|(simp only[(Sn)];omega)),hs1.2 (s.next+1) (by first|omega|(simp only[(Sn)];omega)),hs1.2 (s.next+2) (by first|omega|(simp only[(Sn)];omega)),co145]
  refine otruth_spec fun s2 hs2=>?_
  have hl2:s.next+2<s2.next:=by have:=hs2.1;(try simp only[(Sn)]at this);omega
  unfold vA at h ⊢
  simp -implicitDefEqProofs only[↓Zd,(Zp),Zr,simprocAttr,qP,Value.cells,cut,qC,cld2,underlying3,underlying4,underlying9,underlying31,vA,is31,ag31,ce31,fa31x0,fa31x1,fa31x2,ag3,ce3,ag9,ce9,underlying3,underlying4,underlying9,underlying5,underlying38,underlying0,be4,bn4,bv0,bv1,bv2,bv3,ze31,sz31,sz3,underlying120,underlying253,underlying75,underlying115,j_normal,j_ret,ord66,k2,hs2.2 s.next (by first|omega|(simp only[(Sn)];omega)),hs2.2 (s.next+1) (by first|omega|(simp only[(Sn)];omega)),hs2.2 (s.next+2) (by first|omega|(simp only[(Sn)];omega)),hs1.2 s.next (by first|omega|(simp only[(Sn)];omega)),hs1.2 (s.next+1) (by first|omega|(simp only[(Sn)];omega)),hs1.2 (s.next+2) (by first|omega|(simp only[(Sn)];omega))]
  exact h _ (by repeat (first|exact lR _|assumption|refine lN ?_|refine lP ?_ (by first|omega|(simp only[(Sn)];omega))|refine lT ?_ (by assumption)))
 ·have hb:binV 1 3 n x k' n' x' most = .tuple #[vA 0 0 ⟨#[]⟩,.int .i64 30]:=by simp[binV,k2]
  rw[hb]at h
  unfold vA at h
  simp -implicitDefEqProofs only[↓Zd,(Zp),Zr,simprocAttr,qP,Value.cells,cut,qC,cld2,underlying3,underlying4,underlying9,underlying31,vA,is31,ag31,ce31,fa31x0,fa31x1,fa31x2,ag3,ce3,ag9,ce9,underlying3,underlying4,underlying9,underlying5,underlying38,underlying0,be4,bn4,bv0,bv1,bv2,bv3,ze31,sz31,sz3,underlying120,underlying253,underlying75,underlying115,j_normal,j_ret,ord66,k2]
  exact h _ (by repeat (first|exact lR _|assumption|refine lN ?_|refine lP ?_ (by first|omega|(simp only[(Sn)];omega))|refine lT ?_ (by assumption)))
 ·have o0:¬ op<1:=by omega
  have o1:¬ 11<op:=by omega
  have oa:¬ op=10:=by omega
  have ob:¬ op=11:=by omega
  have oc:¬ op=1:=by omega
  have hb:binV op 3 n x k' n' x' most = .tuple #[vA 0 0 ⟨#[]⟩,.int .i64 30]:=by simp[binV,o0,o1,oa,ob,oc,o5,k2]
  rw[hb]at h
  unfold vA at h
  simp -implicitDefEqProofs only[↓Zd,(Zp),Zr,simprocAttr,qP,Value.cells,cut,qC,cld2,underlying3,underlying4,underlying9,underlying31,vA,is31,ag31,ce31,fa31x0,fa31x1,fa31x2,ag3,ce3,ag9,ce9,underlying3,underlying4,underlying9,underlying5,underlying38,underlying0,be4,bn4,bv0,bv1,bv2,bv3,ze31,sz31,sz3,underlying120,underlying253,underlying75,underlying115,j_normal,j_ret,ord66,o0,o1,oa,ob,oc,o5,k2]
  exact h _ (by repeat (first|exact lR _|assumption|refine lN ?_|refine lP ?_ (by first|omega|(simp only[(Sn)];omega))|refine lT ?_ (by assumption)))
 ·have hb:binV 6 3 n x k' n' x' most = .tuple #[vA 0 0 ⟨#[]⟩,.int .i64 30]:=by simp[binV,k2]
  rw[hb]at h
  unfold vA at h
  simp -implicitDefEqProofs only[↓Zd,(Zp),Zr,simprocAttr,qP,Value.cells,cut,qC,cld2,underlying3,underlying4,underlying9,underlying31,vA,is31,ag31,ce31,fa31x0,fa31x1,fa31x2,ag3,ce3,ag9,ce9,underlying3,underlying4,underlying9,underlying5,underlying38,underlying0,be4,bn4,bv0,bv1,bv2,bv3,ze31,sz31,sz3,underlying120,underlying253,underlying75,underlying115,j_normal,j_ret,ord66,k2]
  exact h _ (by repeat (first|exact lR _|assumption|refine lN ?_|refine lP ?_ (by first|omega|(simp only[(Sn)];omega))|refine lT ?_ (by assumption)))
 ·have hb:binV 7 3 n x k' n' x' most = .tuple #[vA 0 0 ⟨#[]⟩,.int .i64 30]:=by simp[binV,k2]
  rw[hb]at h
  unfold vA at h
  simp -implicitDefEqProofs only[↓Zd,(Zp),Zr,simprocAttr,qP,Value.cells,cut,qC,cld2,underlying3,underlying4,underlying9,underlying31,vA,is31,ag31,ce31,fa31x0,fa31x1,fa31x2,ag3,ce3,ag9,ce9,underlying3,underlying4,underlying9,underlying5,underlying38,underlying0,be4,bn4,bv0,bv1,bv2,bv3,ze31,sz31,sz3,underlying120,underlying253,underlying75,underlying115,j_normal,j_ret,ord66,k2]
  exact h _ (by repeat (first|exact lR _|assumption|refine lN ?_|refine lP ?_ (by first|omega|(simp only[(Sn)];omega))|refine lT ?_ (by assumption)))
 ·have hb:binV 8 3 n x k' n' x' most = .tuple #[vA 0 0 ⟨#[]⟩,.int .i64 30]:=by simp[binV,k2]
  rw[hb]at h
  unfold vA at h
  simp -implicitDefEqProofs only[↓Zd,(Zp),Zr,simprocAttr,qP,Value.cells,cut,qC,cld2,underlying3,underlying4,underlying9,underlying31,vA,is31,ag31,ce31,fa31x0,fa31x1,fa31x2,ag3,ce3,ag9,ce9,underlying3,underlying4,underlying9,underlying5,underlying38,underlying0,be4,bn4,bv0,bv1,bv2,bv3,ze31,sz31,sz3,underlying120,underlying253,underlying75,underlying115,j_normal,j_ret,ord66,k2]
  exact h _ (by repeat (first|exact lR _|assumption|refine lN ?_|refine lP ?_ (by first|omega|(simp only[(Sn)];omega))|refine lT ?_ (by assumption)))
 ·have hb:binV 9 3 n x k' n' x' most = .tuple #[vA 0 0 ⟨#[]⟩,.int .i64 30]:=by simp[binV,k2]
  rw[hb]at h
  unfold vA at h
  simp -implicitDefEqProofs only[↓Zd,(Zp),Zr,simprocAttr,qP,Value.cells,cut,qC,cld2,underlying3,underlying4,underlying9,underlying31,vA,is31,ag31,ce31,fa31x0,fa31x1,fa31x2,ag3,ce3,ag9,ce9,underlying3,underlying4,underlying9,underlying5,underlying38,underlying0,be4,bn4,bv0,bv1,bv2,bv3,ze31,sz31,sz3,underlying120,underlying253,underlying75,underlying115,j_normal,j_ret,ord66,k2]
  exact h _ (by repeat (first|exact lR _|assumption|refine lN ?_|refine lP ?_ (by first|omega|(simp only[(Sn)];omega))|refine lT ?_ (by assumption)))
end
section
theorem bin_K5{op k n k' n':Int}{x x':ByteArray}{most:Int}(hn:I64 n)(hm : -1≤most∧most≤9223372036854775807)(hx:True)(hx':True)(k1:¬ k=2)(k2:¬ k=3)(h:∀ s',s.le s'→R (binV op k n x k' n' x' most) s') :
  QC prog w0 66 #[.int .i64 op,vA k n x,vA k' n' x',.int .i64 most] s R:=by
 refine wfun2 hmix ok66 func66 rfl ntmps66 results66 (by simp) ?_
 simp -implicitDefEqProofs only[↓Zd,(Zp),Zr,simprocAttr,qP,Value.cells,cut,qC,cld2,underlying3,underlying4,underlying9,underlying31,vA,is31,ag31,ce31,fa31x0,fa31x1,fa31x2,ag3,ce3,ag9,ce9,underlying3,underlying4,underlying9,underlying5,underlying38,underlying0,be4,bn4,bv0,bv1,bv2,bv3,ze31,sz31,sz3,underlying120,underlying253,underlying75,underlying115,k1,k2]
 refine wscope_piece hmix ?_
 simp -implicitDefEqProofs only[↓Zd,(Zp),Zr,simprocAttr,qP,Value.cells,cut,qC,cld2,underlying3,underlying4,underlying9,underlying31,vA,is31,ag31,ce31,fa31x0,fa31x1,fa31x2,ag3,ce3,ag9,ce9,underlying3,underlying4,underlying9,underlying5,underlying38,underlying0,be4,bn4,bv0,bv1,bv2,bv3,ze31,sz31,sz3,underlying120,underlying253,underlying75,underlying115,j_normal,j_ret,ord66,k1,k2]
 rcases (show (op<1)∨(11<op)∨(op=10)∨(op=11)∨(op=1)∨(2≤op∧op≤5)∨(op=6)∨(op=7)∨(op=8)∨(op=9) by omega) with o1|o1|rfl|rfl|rfl|⟨o2,o5⟩|rfl|rfl|rfl|rfl
 ·have hb:binV op k n x k' n' x' most = .tuple #[vA 0 0 ⟨#[]⟩,.int .i64 2]:=by simp[binV,o1,k1,k2]
  rw[hb]at h
  unfold vA at h
  simp -implicitDefEqProofs only[↓Zd,(Zp),Zr,simprocAttr,qP,Value.cells,cut,qC,cld2,underlying3,underlying4,underlying9,underlying31,vA,is31,ag31,ce31,fa31x0,fa31x1,fa31x2,ag3,ce3,ag9,ce9,underlying3,underlying4,underlying9,underlying5,underlying38,underlying0,be4,bn4,bv0,bv1,bv2,bv3,ze31,sz31,sz3,underlying120,underlying253,underlying75,underlying115,j_normal,j_ret,ord66,o1,k1,k2]
  exact h _ (by repeat (first|exact lR _|assumption|refine lN ?_|refine lP ?_ (by first|omega|(simp only[(Sn)];omega))|refine lT ?_ (by assumption)))
 ·have o0:¬ op<1:=by omega
  have hb:binV op k n x k' n' x' most = .tuple #[vA 0 0 ⟨#[]⟩,.int .i64 2]:=by simp[binV,o0,o1,k1,k2]
  rw[hb]at h
  unfold vA at h
  simp -implicitDefEqProofs only[↓Zd,(Zp),Zr,simprocAttr,qP,Value.cells,cut,qC,cld2,underlying3,underlying4,underlying9,underlying31,vA,is31,ag31,ce31,fa31x0,fa31x1,fa31x2,ag3,ce3,ag9,ce9,underlying3,underlying4,underlying9,underlying5,underlying38,underlying0,be4,bn4,bv0,bv1,bv2,bv3,ze31,sz31,sz3,underlying120,underlying253,underlying75,underlying115,j_normal,j_ret,ord66,o0,o1,k1,k2]
  exact h _ (by repeat (first|exact lR _|assumption|refine lN ?_|refine lP ?_ (by first|omega|(simp only[(Sn)];omega))|refine lT ?_ (by assumption)))
 ·have hb:binV 10 k n x k' n' x' most = .tuple #[vA 1 (boolN (sameV k n x k' n' x')) ⟨#[]⟩,.int .i64 0]:=by simp[binV,k1,k2]
  rw[hb]at h
  simp -implicitDefEqProofs only[↓Zd,(Zp),Zr,simprocAttr,qP,Value.cells,cut,qC,cld2,underlying3,underlying4,underlying9,underlying31,vA,is31,ag31,ce31,fa31x0,fa31x1,fa31x2,ag3,ce3,ag9,ce9,underlying3,underlying4,underlying9,underlying5,underlying38,underlying0,be4,bn4,bv0,bv1,bv2,bv3,ze31,sz31,sz3,underlying120,underlying253,underlying75,underlying115,j_normal,j_ret,ord66,k1,k2,co146]
  refine same_le fun s1 hs1=>?_
  have hl1:s.next+2<s1.next:=by have:=hs1.1;(try simp only[(Sn)]at this);omega
  simp -implicitDefEqProofs only[↓Zd,(Zp),Zr,simprocAttr,qP,Value.cells,cut,qC,cld2,underlying3,underlying4,underlying9,underlying31,vA,is31,ag31,ce31,fa31x0,fa31x1,fa31x2,ag3,ce3,ag9,ce9,underlying3,underlying4,underlying9,underlying5,underlying38,underlying0,be4,bn4,bv0,bv1,bv2,bv3,ze31,sz31,sz3,underlying120,underlying253,underlying75,underlying115,j_normal,j_ret,ord66,k1,k2,hs1.2 s.next (by first|omega|(simp only[(Sn)];omega)),hs1.2 (s.next+1) (by first|omega|(simp only[(Sn)];omega)),hs1.2 (s.next+2) (by first|omega|(simp only[(Sn)];omega)),co145]
  refine otruth_spec fun s2 hs2=>?_
  have hl2:s.next+2<s2.next:=by have:=hs2.1;(try simp only[(Sn)]at this);omega
  unfold vA at h ⊢
  simp -implicitDefEqProofs only[↓Zd,(Zp),Zr,simprocAttr,qP,Value.cells,cut,qC,cld2,underlying3,underlying4,underlying9,underlying31,vA,is31,ag31,ce31,fa31x0,fa31x1,fa31x2,ag3,ce3,ag9,ce9,underlying3,underlying4,underlying9,underlying5,underlying38,underlying0,be4,bn4,bv0,bv1,bv2,bv3,ze31,sz31,sz3,underlying120,underlying253,underlying75,underlying115,j_normal,j_ret,ord66,k1,k2,hs2.2 s.next (by first|omega|(simp only[(Sn)];omega)),hs2.2 (s.next+1) (by first|omega|(simp only[(Sn)];omega)),hs2.2 (s.next+2) (by first|omega|(simp only[(Sn)];omega)),hs1.2 s.next (by first|omega|(simp only[(Sn)];omega)),hs1.2 (s.next+1) (by first|omega|(simp only[(Sn)];omega)),hs1.2 (s.next+2) (by first|omega|(simp only[(Sn)];omega))]
  exact h _ (by repeat (first|exact lR _|assumption|refine lN ?_|refine lP ?_ (by first|omega|(simp only[(Sn)];omega))|refine lT ?_ (by assumption)))
 ·have hb:binV 11 k n x k' n' x' most = .tuple #[vA 1 (boolN (!sameV k n x k' n' x')) ⟨#[]⟩,.int .i64 0]:=by simp[binV,k1,k2]
  rw[hb]at h
  simp -implicitDefEqProofs only[↓Zd,(Zp),Zr,simprocAttr,qP,Value.cells,cut,qC,cld2,underlying3,underlying4,underlying9,underlying31,vA,is31,ag31,ce31,fa31x0,fa31x1,fa31x2,ag3,ce3,ag9,ce9,underlying3,underlying4,underlying9,underlying5,underlying38,underlying0,be4,bn4,bv0,bv1,bv2,bv3,ze31,sz31,sz3,underlying120,underlying253,underlying75,underlying115,j_normal,j_ret,ord66,k1,k2,co146]
  refine same_le fun s1 hs1=>?_
  have hl1:s.next+2<s1.next:=by have:=hs1.1;(try simp only[(Sn)]at this);omega
  simp -implicitDefEqProofs only[↓Zd,(Zp),Zr,simprocAttr,qP,Value.cells,cut,qC,cld2,underlying3,underlying4,underlying9,underlying31,vA,is31,ag31,ce31,fa31x0,fa31x1,fa31x2,ag3,ce3,ag9,ce9,underlying3,underlying4,underlying9,underlying5,underlying38,underlying0,be4,bn4,bv0,bv1,bv2,bv3,ze31,sz31,sz3,underlying120,underlying253,underlying75,underlying115,j_normal,j_ret,ord66,k1,k2,hs1.2 s.next (by first|omega|(simp only[(Sn)];omega)),hs1.2 (s.next+1) (by first|omega|(simp only[(Sn)];omega)),hs1.2 (s.next+2) (by first|omega|(simp only[(Sn)];omega)),co145]
  refine otruth_spec fun s2 hs2=>?_
  have hl2:s.next+2<s2.next:=by have:=hs2.1;(try simp only[(Sn)]at this);omega
  unfold vA at h ⊢
  simp -implicitDefEqProofs only[↓Zd,(Zp),Zr,simprocAttr,qP,Value.cells,cut,qC,cld2,underlying3,underlying4,underlying9,underlying31,vA,is31,ag31,ce31,fa31x0,fa31x1,fa31x2,ag3,ce3,ag9,ce9,underlying3,underlying4,underlying9,underlying5,underlying38,underlying0,be4,bn4,bv0,bv1,bv2,bv3,ze31,sz31,sz3,underlying120,underlying253,underlying75,underlying115,j_normal,j_ret,ord66,k1,k2,hs2.2 s.next (by first|omega|(simp only[(Sn)];omega)),hs2.2 (s.next+1) (by first|omega|(simp only[(Sn)];omega)),hs2.2 (s.next+2) (by first|omega|(simp only[(Sn)];omega)),hs1.2 s.next (by first|omega|(simp only[(Sn)];omega)),hs1.2 (s.next+1) (by first|omega|(simp only[(Sn)];omega)),hs1.2 (s.next+2) (by first|omega|(simp only[(Sn)];omega))]
  exact h _ (by repeat (first|exact lR _|assumption|refine lN ?_|refine lP ?_ (by first|omega|(simp only[(Sn)];omega))|refine lT ?_ (by assumption)))
 ·have hb:binV 1 k n x k' n' x' most = .tuple #[vA 0 0 ⟨#[]⟩,.int .i64 30]:=by simp[binV,k1,k2]
  rw[hb]at h
  unfold vA at h
  simp -implicitDefEqProofs only[↓Zd,(Zp),Zr,simprocAttr,qP,Value.cells,cut,qC,cld2,underlying3,underlying4,underlying9,underlying31,vA,is31,ag31,ce31,fa31x0,fa31x1,fa31x2,ag3,ce3,ag9,ce9,underlying3,underlying4,underlying9,underlying5,underlying38,underlying0,be4,bn4,bv0,bv1,bv2,bv3,ze31,sz31,sz3,underlying120,underlying253,underlying75,underlying115,j_normal,j_ret,ord66,k1,k2]
  exact h _ (by repeat (first|exact lR _|assumption|refine lN ?_|refine lP ?_ (by first|omega|(simp only[(Sn)];omega))|refine lT ?_ (by assumption)))
 ·have o0:¬ op<1:=by omega
  have o1:¬ 11<op:=by omega
  have oa:¬ op=10:=by omega
  have ob:¬ op=11:=by omega
  have oc:¬ op=1:=by omega
  have hb:binV op k n x k' n' x' most = .tuple #[vA 0 0 ⟨#[]⟩,.int .i64 30]:=by simp[binV,o0,o1,oa,ob,oc,o5,k1,k2]
  rw[hb]at h
  unfold vA at h
  simp -implicitDefEqProofs only[↓Zd,(Zp),Zr,simprocAttr,qP,Value.cells,cut,qC,cld2,underlying3,underlying4,underlying9,underlying31,vA,is31,ag31,ce31,fa31x0,fa31x1,fa31x2,ag3,ce3,ag9,ce9,underlying3,underlying4,underlying9,underlying5,underlying38,underlying0,be4,bn4,bv0,bv1,bv2,bv3,ze31,sz31,sz3,underlying120,underlying253,underlying75,underlying115,j_normal,j_ret,ord66,o0,o1,oa,ob,oc,o5,k1,k2]
  exact h _ (by repeat (first|exact lR _|assumption|refine lN ?_|refine lP ?_ (by first|omega|(simp only[(Sn)];omega))|refine lT ?_ (by assumption)))
 ·have hb:binV 6 k n x k' n' x' most = .tuple #[vA 0 0 ⟨#[]⟩,.int .i64 30]:=by simp[binV,k1,k2]
  rw[hb]at h
  unfold vA at h
  simp -implicitDefEqProofs only[↓Zd,(Zp),Zr,simprocAttr,qP,Value.cells,cut,qC,cld2,underlying3,underlying4,underlying9,underlying31,vA,is31,ag31,ce31,fa31x0,fa31x1,fa31x2,ag3,ce3,ag9,ce9,underlying3,underlying4,underlying9,underlying5,underlying38,underlying0,be4,bn4,bv0,bv1,bv2,bv3,ze31,sz31,sz3,underlying120,underlying253,underlying75,underlying115,j_normal,j_ret,ord66,k1,k2]
  exact h _ (by repeat (first|exact lR _|assumption|refine lN ?_|refine lP ?_ (by first|omega|(simp only[(Sn)];omega))|refine lT ?_ (by assumption)))
 ·have hb:binV 7 k n x k' n' x' most = .tuple #[vA 0 0 ⟨#[]⟩,.int .i64 30]:=by simp[binV,k1,k2]
  rw[hb]at h
  unfold vA at h
  simp -implicitDefEqProofs only[↓Zd,(Zp),Zr,simprocAttr,qP,Value.cells,cut,qC,cld2,underlying3,underlying4,underlying9,underlying31,vA,is31,ag31,ce31,fa31x0,fa31x1,fa31x2,ag3,ce3,ag9,ce9,underlying3,underlying4,underlying9,underlying5,underlying38,underlying0,be4,bn4,bv0,bv1,bv2,bv3,ze31,sz31,sz3,underlying120,underlying253,underlying75,underlying115,j_normal,j_ret,ord66,k1,k2]
  exact h _ (by repeat (first|exact lR _|assumption|refine lN ?_|refine lP ?_ (by first|omega|(simp only[(Sn)];omega))|refine lT ?_ (by assumption)))
 ·have hb:binV 8 k n x k' n' x' most = .tuple #[vA 0 0 ⟨#[]⟩,.int .i64 30]:=by simp[binV,k1,k2]
  rw[hb]at h
  unfold vA at h
  simp -implicitDefEqProofs only[↓Zd,(Zp),Zr,simprocAttr,qP,Value.cells,cut,qC,cld2,underlying3,underlying4,underlying9,underlying31,vA,is31,ag31,ce31,fa31x0,fa31x1,fa31x2,ag3,ce3,ag9,ce9,underlying3,underlying4,underlying9,underlying5,underlying38,underlying0,be4,bn4,bv0,bv1,bv2,bv3,ze31,sz31,sz3,underlying120,underlying253,underlying75,underlying115,j_normal,j_ret,ord66,k1,k2]
  exact h _ (by repeat (first|exact lR _|assumption|refine lN ?_|refine lP ?_ (by first|omega|(simp only[(Sn)];omega))|refine lT ?_ (by assumption)))
 ·have hb:binV 9 k n x k' n' x' most = .tuple #[vA 0 0 ⟨#[]⟩,.int .i64 30]:=by simp[binV,k1,k2]
  rw[hb]at h
  unfold vA at h
  simp -implicitDefEqProofs only[↓Zd,(Zp),Zr,simprocAttr,qP,Value.cells,cut,qC,cld2,underlying3,underlying4,underlying9,underlying31,vA,is31,ag31,ce31,fa31x0,fa31x1,fa31x2,ag3,ce3,ag9,ce9,underlying3,underlying4,underlying9,underlying5,underlying38,underlying0,be4,bn4,bv0,bv1,bv2,bv3,ze31,sz31,sz3,underlying120,underlying253,underlying75,underlying115,j_normal,j_ret,ord66,k1,k2]
  exact h _ (by repeat (first|exact lR _|assumption|refine lN ?_|refine lP ?_ (by first|omega|(simp only[(Sn)];omega))|refine lT ?_ (by assumption)))
end
section
theorem bin_spec0{op k n k' n':Int}{x x':ByteArray}{most:Int}(hn:I64 n)(hm : -1≤most∧most≤9223372036854775807)(h:∀ s',s.le s'→R (binV op k n x k' n' x' most) s') :
  QC prog w0 66 #[.int .i64 op,vA k n x,vA k' n' x',.int .i64 most] s R:=by
 by_cases h2:k=2
 ·subst h2
  by_cases h3:k'=2
  ·subst h3;exact bin_K1 (k:=0) (k':=0) hn hm trivial trivial h
  ·exact bin_K2 (k:=0) hn hm trivial trivial h3 h
 ·by_cases h4:k=3
  ·subst h4
   by_cases h3:k'=3
   ·subst h3;exact bin_K3 (k:=0) (k':=0) hn hm trivial trivial h
   ·exact bin_K4 (k:=0) hn hm trivial trivial h3 h
  ·exact bin_K5 hn hm trivial trivial h2 h4 h
def tupV(v:Value):Prop:=∃ (a b:Int) (x:ByteArray) (e:Int),v = .tuple #[vA a b x,.int .i64 e]
theorem whole_tup(n e e':Int):tupV (.tuple #[wholeV n e,.int .i64 e']):=by
 unfold wholeV;split
 ·exact⟨_,_,_,_,rfl⟩
 ·exact⟨_,_,_,_,rfl⟩
theorem binV_tup(op k n:Int)(x:ByteArray)(k' n':Int)(x':ByteArray)(most:Int):tupV (binV op k n x k' n' x' most):=by
 unfold binV joinV
 repeat' split
 all_goals first
  |exact⟨_,_,_,_,rfl⟩
  |exact whole_tup _ _ _
theorem unV_tup(op k n:Int):tupV (unV op k n):=by
 unfold unV
 repeat' split
 all_goals exact⟨_,_,_,_,rfl⟩
theorem lenV_tup(k:Int)(x:ByteArray):tupV (lenV k x):=by
 unfold lenV
 split
 all_goals exact⟨_,_,_,_,rfl⟩
theorem textV_tup(k n:Int)(x:ByteArray)(most:Int):tupV (textV k n x most):=by
 unfold textV
 split
 all_goals exact⟨_,_,_,_,rfl⟩
end
theorem works19d:trial prog 29=(trial prog 29).dup:=by kernel_rfl
section
theorem works19_spec(h:R (.bool true) s):QC prog w0 29 #[] s R:=
 QC.mono (ccalls_of_closed fun w=>calls_true hmix works19d w) fun _ _ ⟨e1,e2⟩=>by rw[e1,e2];exact h
end
end Go.Proofs.Tryz
section
set_option maxRecDepth 100000
namespace Go.Proofs.Tryz
open Go.Cs Go.ChangeShapes Go.WideShapes Go.ChangeAt Go.RowKit
abbrev QMem:=Nat→Option Blk
def qSt(L:List (TypeId×List Value)):St QMem:=⟨fun j=>(L[j]?).map fun r => .cells r.2 r.1 false,L.length⟩
def qRen(B:List (Option BI)):Ren:=fun j=>(B[j]?).join
def QIn(ρ:Ren)(w:World)(oi:Option BI)(r:List Value):Prop:=
 ∀ i,oi=some i→i.esz=0∧i.kd=0∧∃ cs e' fr,w.heap[i.blk]?=some (.cells cs e' fr)∧i.sh+r.length≤cs.size∧∀ k,k<r.length→VRel ρ (r.getD k Go.undef) (cs.getD (i.sh+k) Go.undef)
theorem q_at(L:List (TypeId×List Value))(b:Nat):(qSt L).at' b=(L[b]?).map fun r=>Blk.cells r.2 r.1 false:=rfl
theorem rel_q{w:World}{L:List (TypeId×List Value)}{B:List (Option BI)}(hn:B.length=L.length)(h:∀ (j:Nat) (oi:Option BI) (r:TypeId×List Value),B[j]?=some oi→L[j]?=some r→QIn (qRen B) w oi r.2):Rel prog w (qRen B) (qSt L) w:=by
 have hget:∀ b i,qRen B b=some i→b<L.length∧B[b]?=some (some i):=by
  intro b i hb
  unfold qRen at hb
  cases hc:B[b]? with
  |none=>rw[hc]at hb;cases hb
  |some o =>
   rw[hc]at hb
   have:=(List.getElem?_eq_some_iff.1 hc).1
   exact⟨by omega,by cases hb;rfl⟩
 have hq:∀ b i,qRen B b=some i→∃ r,L[b]?=some r∧QIn (qRen B) w (some i) r.2:=by
  intro b i hb
  obtain⟨h1,h2⟩:=hget b i hb
  exact⟨L[b],by simp[h1],h b _ L[b] h2 (by simp[h1])⟩
 have hown:∀ b B',(qSt L).at' b=some B'→B'.owned=false:=by
  intro b B' hb
  rw[q_at]at hb
  obtain⟨ss,_,rfl⟩:=Option.map_eq_some_iff.1 hb
  rfl
 refine⟨fun b i hb=>(hget b i hb).1,fun b i hb=>?_,fun b i B' hb hs=>?_,fun b i B' hb hs ho=>?_,fun b i B' b2 i2 B2 hb hs _ _ _ ho=>?_,Below.refl _ _,fun b hb=>?_,fun b i hb hk=>?_,fun b i hb hk=>?_⟩
 ·obtain⟨r,_,h2⟩:=hq b i hb
  obtain⟨_,_,cs,e',fr,h3,_⟩:=h2 i rfl
  exact (Array.getElem?_eq_some_iff.1 h3).1
 ·obtain⟨r,h1,h2⟩:=hq b i hb
  rw[q_at,h1]at hs
  cases hs
  obtain⟨hz,_,cs,e',fr,h3,h4,h5⟩:=h2 i rfl
  exact⟨_,h3,cs,e',fr,rfl,h4,h5,.inl hz,fun e=>by cases e⟩
 ·rw[hown b B' hs]at ho;cases ho
 ·rw[hown b B' hs]at ho;cases ho
 ·rw[q_at,List.getElem?_eq_none (show L.length≤b from hb)];rfl
 ·obtain⟨r,_,h2⟩:=hq b i hb
  rw[(h2 i rfl).2.1]at hk;cases hk
 ·obtain⟨r,_,h2⟩:=hq b i hb
  rw[(h2 i rfl).2.1]at hk;cases hk
theorem calls_q{f:FuncId}{args args':Array Value}{w:World}{L:List (TypeId×List Value)}{B:List (Option BI)}(hn:B.length=L.length)(hr:∀ (j:Nat) (oi:Option BI) (r:TypeId×List Value),B[j]?=some oi→L[j]?=some r→QIn (qRen B) w oi r.2)
  (hv:VsRel (qRen B) args args')(h:QC (M:=QMem) prog w f args (qSt L) fun v _=>v = .bool true) :
  Calls prog f args' w fun e w'=>e = .returned (.bool true)∧Below w.heap.size w w':=by
 refine (h _ w args' (rel_q hn hr) hv).mono ?_
 rintro e w' ⟨v,s',ρ',v',rfl,rfl,hv,hR,_⟩
 exact⟨by rw[hv.bool_inv],hR.below⟩
def QRow{α M:Type}[Mem M](e:TypeId)(cellsA:α→List Value)(s:St M)(a:Option Addr)(A:List α):Prop:=
 A=[]∨∃ (j:Nat) (us:List α),a=some ⟨j,0,none⟩∧j<s.next∧s.at' j=some (.cells (us.flatMap cellsA) e false)∧∀ k,k<A.length→us[k]?=A[k]?
end Go.Proofs.Tryz
end
section
set_option maxRecDepth 100000
namespace Go.Proofs.Tryz
open Go.Cs Go.ChangeShapes Go.WideShapes Go.ChangeAt Go.RowKit
def rowsN(c:Nat→List Value)(n:Nat):List Value:=(List.range n).flatMap c
theorem rowsN_succ(c:Nat→List Value)(n:Nat):rowsN c (n+1)=rowsN c n++c n:=by
 unfold rowsN;rw[List.range_succ];simp
theorem rowsN_len{c:Nat→List Value}{k:Nat}(hc:∀ i,(c i).length=k)(n:Nat):(rowsN c n).length=n*k:=by
 induction n with
 |zero=>simp[rowsN]
 |succ n ih=>rw[rowsN_succ,List.length_append,ih,hc,Nat.succ_mul]
theorem rowsN_get{c:Nat→List Value}{k:Nat}(hc:∀ i,(c i).length=k){n i j:Nat}(hi:i<n)(hj:j<k):(rowsN c n)[i*k+j]?=(c i)[j]?:=by
 induction n with
 |zero=>omega
 |succ n ih =>
  rw[rowsN_succ]
  by_cases h:i<n
  ·have:(i+1)*k≤n*k:=Nat.mul_le_mul_right k h
   rw[Nat.succ_mul]at this
   rw[List.getElem?_append_left (by rw[rowsN_len hc];omega)]
   exact ih h
  ·have e:i=n:=by omega
   subst e
   rw[List.getElem?_append_right (by rw[rowsN_len hc];omega),rowsN_len hc,Nat.add_sub_cancel_left]
theorem rowsN_cut{c:Nat→List Value}{k:Nat}(hc:∀ i,(c i).length=k){n i:Nat}(hi:i<n):i*k+k≤(rowsN c n).length∧List.take k (List.drop (i*k) (rowsN c n))=c i:=by
 have hb:(i+1)*k≤n*k:=Nat.mul_le_mul_right k hi
 rw[Nat.succ_mul]at hb
 refine⟨by rw[rowsN_len hc];exact hb,List.ext_getElem? fun j=>?_⟩
 rw[List.getElem?_take]
 split
 ·rename_i hj
  rw[List.getElem?_drop,rowsN_get hc hi hj]
 ·rename_i hj
  rw[List.getElem?_eq_none (by rw[hc];omega)]
theorem open_rowsN{α H:Type}{enc:TypeId×Value→H}{W:World}{r:Reach}{b0 c:Nat}{t e:TypeId}{v:Value}{d:DataW H}{ps:List MemPlace}(rel:α→List Value→Prop)(hu:prog.underlying t=some (.slice e))(hc:prog.cellsOf e=c)(hc0:0<c)
  (hel:∀ (n:Nat) (cs:List Value) y,DataW.trod enc prog W 0 (fun _=>true) true n e cs=some y→∃ a,rel a cs)
  (hval:Value.okWide prog W r b0 t v)(hd:DataW.Trod enc prog W 0 (fun _=>true) true t v d ps) :
  ∃ (len cp:Nat) (us:List α) (oi:Option BI) (ad:Nat→Option Addr),(∀ (ρ:Ren) (cl:Nat→List Value),(∀ i,(cl i).length=c)→(∀ i u,us[i]?=some u→∀ cs,cs.length=c→rel u cs→∀ k,k<c→VRel ρ ((cl i).getD k Go.undef) (cs.getD k Go.undef))→QIn ρ W oi (rowsN cl us.length))∧(∀ (ρ:Ren) j,ρ j=oi→VRel ρ (.slice (ad j) len cp) v)∧(len=0∨ad=fun j=>some ⟨j,0,none⟩)∧len≤us.length∧len≤9223372036854775807∧∀ u∈us,∃ cs,cs.length=c∧rel u cs:=by
 have hmx:maxLen=9223372036854775807:=by decide
 obtain⟨a0,len,cap,rfl⟩:=okWide_slice hu hval
 obtain⟨fuel,hf⟩:=hd
 rcases DataW.trod_slice hu hf with ⟨hcs,hx⟩|⟨a,len',cap',elems,rest,n,_,hcs,hx,hb,hl,hm,hlen',hel',hsp,hns⟩
 ·have hcs:[Value.slice a0 len cap]=[.slice none 0 0]:=hcs
  simp only[List.cons.injEq,Value.slice.injEq,and_true]at hcs
  obtain⟨rfl,rfl,rfl⟩:=hcs
  exact⟨0,0,[],none,fun _=>none,(by intro ρ cl _ _ i hi;cases hi),(fun ρ j _ => .nilSlice),.inl rfl,Nat.zero_le _,Nat.zero_le _,fun u h=>by cases h⟩
 ·have hcs:[Value.slice a0 len cap]=[.slice (some a) len' cap']:=hcs
  simp only[List.cons.injEq,Value.slice.injEq,and_true]at hcs
  obtain⟨rfl,rfl,rfl⟩:=hcs
  obtain⟨hrl,hr⟩:=hsp rfl
  have hU:cap<UNK:=by unfold UNK;have:maxLen=9223372036854775807:=by decide
                      omega
  have hspot:a.spot=none∧∃ row cells,W.shape? a.block=some (row,cells):=by
   simp only[Value.okWide,hu,Cell.okWide]at hval
   simp only[Cell.ok,hu]at hval
   obtain⟨_,_,_,h1,row,cells,h2,_⟩:=hval
   exact⟨h1,row,cells,h2⟩
  obtain⟨hs1,row,cells,hs2⟩:=hspot
  have hblk:∃ cs e' fr,W.heap[a.block]?=some (.cells cs e' fr):=by
   unfold World.shape? at hs2
   split at hs2
   ·rename_i c el fr hh;exact⟨c,el,fr,hh⟩
   ·cases hs2
  obtain⟨cs,e',fr,hh⟩:=hblk
  have ha:a=⟨a.block,a.off,none⟩:=by cases a;simp at hs1;simp[hs1]
  have hadd:∀ i,a.add i=⟨a.block,a.off+i,none⟩:=by
   intro i
   unfold Addr.add
   split
   ·subst_vars;exact ha
   ·rfl
  have hadd2:∀ i k,(a.add i).add k=⟨a.block,a.off+i+k,none⟩:=by
   intro i k
   rw[hadd]
   unfold Addr.add
   split
   ·subst_vars;simp
   ·rfl
  have each:∀ i,i<cap→∃ x l,rel x l∧l.length=c∧∀ k,k<c→cs[a.off+i*c+k]?=l[k]?:=by
   intro i hi
   have hb':∃ y,(W.cells? 0 (a.add (i*c)) c).bind (DataW.trod enc prog W 0 (fun _=>true) true n e)=some y:=by
    by_cases h1:i<len
    ·have:=hel' i h1
     rw[hc]at this
     exact⟨elems[i]'(by omega),by rw[this];simp[hlen',h1]⟩
    ·have:=hr (i - len) (by omega)
     rw[hc,show len+(i - len)=i by omega]at this
     exact⟨rest[i - len]'(by omega),by rw[this];simp⟩
   obtain⟨y,hy⟩:=hb'
   obtain⟨cs',hcs',hy'⟩:=Option.bind_eq_some_iff.1 hy
   obtain⟨x,hg⟩:=hel n cs' y hy'
   obtain⟨_,hln,hcell⟩:=World.cells?_some hcs'
   refine⟨x,cs',hg,by simpa using hln,fun k hk=>?_⟩
   have:=hcell k hk
   rw[hadd2]at this
   unfold World.cell? at this
   simp only[hh,Option.isSome_none,Bool.false_eq_true,if_false]at this
   exact this
  have hall:∃ us:List α,us.length=cap∧∀ i x,us[i]?=some x→∃ l,rel x l∧l.length=c∧∀ k,k<c→cs[a.off+i*c+k]?=l[k]?:=by
   clear hcs hrl hr hel' hval hf hx hb hl hm hlen' hsp hns hU
   induction cap with
   |zero=>exact⟨[],rfl,fun i x h=>by simp at h⟩
   |succ m ih =>
    obtain⟨us,h1,h2⟩:=ih (fun i hi=>each i (by omega))
    obtain⟨x,h3⟩:=each m (by omega)
    refine⟨us ++ [x],by simp[h1],fun i y hy=>?_⟩
    by_cases hi:i<us.length
    ·rw[List.getElem?_append_left hi]at hy;exact h2 i y hy
    ·rw[List.getElem?_append_right (by omega)]at hy
     have h0:i - us.length=0:=by
      have:=(List.getElem?_eq_some_iff.1 hy).1
      simp at this;omega
     rw[h0]at hy
     simp at hy
     subst hy
     have:i=m:=by omega
     subst this;exact h3
  obtain⟨us,hal,has⟩:=hall
  by_cases h0:cap=0
  ·have hl0:len=0:=by omega
   subst hl0
   have hus:us=[]:=by cases us with
    |nil=>rfl
    |cons _ _=>simp at hal;omega
   subst hus
   refine⟨0,cap,[],some ⟨a.block,0,0,0,0⟩,fun j=>some ⟨j,a.off,none⟩,?_,?_,.inl rfl,Nat.zero_le _,Nat.zero_le _,fun u h=>by cases h⟩
   ·rintro ρ cl _ _ i ⟨⟩
    exact⟨rfl,rfl,cs,e',fr,hh,by simp[rowsN],fun k hk=>by simp[rowsN]at hk⟩
   ·intro ρ j hj
    exact .slice ⟨_,hj,rfl,ha⟩ (.inl ⟨rfl,hU⟩)
  ·refine⟨len,cap,us,some ⟨a.block,a.off,0,0,0⟩,fun j=>some ⟨j,0,none⟩,?_,?_,.inr rfl,by omega,by omega,fun u hu=>?_⟩
   ·rintro ρ cl hcl hrel i ⟨⟩
    have hsz:a.off+cap*c≤cs.size:=by
     have h1:us[cap - 1]?=some (us[cap - 1]'(by omega)):=List.getElem?_eq_getElem _
     obtain⟨l,_,hl2,h2⟩:=has _ _ h1
     have h2:=h2 (c - 1) (by omega)
     rw[List.getElem?_eq_getElem (by omega:c - 1<l.length)]at h2
     have:=(Array.getElem?_eq_some_iff.1 h2).1
     have e:cap*c=(cap - 1)*c+c:=by
      conv=>lhs;rw[show cap=(cap - 1)+1 by omega,Nat.succ_mul]
     omega
    refine⟨rfl,rfl,cs,e',fr,hh,by rw[rowsN_len hcl,hal];exact hsz,fun k hk=>?_⟩
    rw[rowsN_len hcl,hal]at hk
    have hi:k / c<cap:=by rw[Nat.div_lt_iff_lt_mul hc0];exact hk
    have hk2:k % c<c:=Nat.mod_lt _ hc0
    have e:k / c*c+k % c=k:=Nat.div_add_mod' k c
    have h1:us[k / c]?=some (us[k / c]'(by omega)):=List.getElem?_eq_getElem _
    obtain⟨l,hl1,hl2,h2⟩:=has _ _ h1
    have h2:=h2 (k % c) hk2
    have h3:=rowsN_get hcl (n:=us.length) (i:=k / c) (j:=k % c) (by omega) hk2
    have h4:=hrel _ _ h1 l hl2 hl1 (k % c) hk2
    show VRel ρ _ (cs.getD (a.off+k) Go.undef)
    rw[show a.off+k / c*c+k % c=a.off+k by omega]at h2
    rw[e]at h3
    rw[Array.getD_eq_getD_getElem?,h2,List.getD_eq_getElem?_getD,h3,← List.getD_eq_getElem?_getD,← List.getD_eq_getElem?_getD]
    exact h4
   ·intro ρ j hj
    exact .slice ⟨_,hj,rfl,by show a=⟨a.block,0+a.off,none⟩;rw[Nat.zero_add];exact ha⟩ (.inl ⟨rfl,hU⟩)
   ·obtain⟨i,hi⟩:=List.getElem?_of_mem hu
    obtain⟨l,h1,h2,_⟩:=has i u hi
    exact⟨l,h2,h1⟩
theorem open_in{α H:Type}{enc:TypeId×Value→H}{W:World}{c m0:Nat}{t e:TypeId}{v:Value}{y0:DataW H×List MemPlace}(cellsA:α→List Value)(good:α→Prop)(hu:prog.underlying t=some (.slice e))(hc:prog.cellsOf e=c)(hlen:∀ a,(cellsA a).length=c)
  (hpl:∀ a,∀ x∈cellsA a,plain 6 x=true)(hc0:0<c)(hel:∀ (n:Nat) (cs:List Value) y,DataW.trod enc prog W 0 (fun _=>true) true n e cs=some y→∃ a,cs=cellsA a∧good a)
  (hf:DataW.trod enc prog W 0 (fun _=>true) true m0 t [v]=some y0) :
  ∃ (A us:List α) (cp:Nat) (oi:Option BI) (ad:Nat→Option Addr),(∀ ρ,QIn ρ W oi (us.flatMap cellsA))∧(∀ (ρ:Ren) j,ρ j=oi→VRel ρ (.slice (ad j) A.length cp) v)∧(∀ a∈A,good a)∧(A=[]∨(ad=fun j=>some ⟨j,0,none⟩)∧∀ k,k<A.length→us[k]?=A[k]?)∧A.length≤9223372036854775807:=by
 have hmx:maxLen=9223372036854775807:=by decide
 rcases DataW.trod_slice hu hf with ⟨hcs,hx⟩|⟨a,len,cap,elems,rest,n,_,hcs,hx,hb,hl,hm,hlen',hel',hsp,hns⟩
 ·simp only[List.cons.injEq,and_true]at hcs
  subst hcs
  exact⟨[],[],0,none,fun _=>none,(by intro ρ i hi;cases hi),(fun ρ j _ => .nilSlice),(by simp),.inl rfl,Nat.zero_le _⟩
 ·simp only[List.cons.injEq,and_true]at hcs
  subst hcs
  obtain⟨hrl,hr⟩:=hsp rfl
  have hU:cap<UNK:=by unfold UNK;omega
  by_cases h0:cap=0
  ·have hl0:len=0:=by omega
   subst hl0 h0
   exact⟨[],[],0,none,fun j=>some ⟨j,0,none⟩,(by intro ρ i hi;cases hi),(fun ρ j _ => .void),(by simp),.inl rfl,Nat.zero_le _⟩
  have hb':∀ i,i<cap→∃ y,(W.cells? 0 (a.add (i*c)) c).bind (DataW.trod enc prog W 0 (fun _=>true) true n e)=some y:=by
   intro i hi
   by_cases h1:i<len
   ·have:=hel' i h1
    rw[hc]at this
    exact⟨elems[i]'(by omega),by rw[this];simp[hlen',h1]⟩
   ·have:=hr (i - len) (by omega)
    rw[hc,show len+(i - len)=i by omega]at this
    exact⟨rest[i - len]'(by omega),by rw[this];simp⟩
  have hfirst:a.spot=none∧∃ cs e' fr,W.heap[a.block]?=some (.cells cs e' fr):=by
   obtain⟨y,hy⟩:=hb' 0 (by omega)
   obtain⟨cs',hcs',_⟩:=Option.bind_eq_some_iff.1 hy
   obtain⟨_,_,hcell⟩:=World.cells?_some hcs'
   have:=hcell 0 hc0
   have e1:(a.add (0*c)).add 0=a:=by rw[Nat.zero_mul];unfold Addr.add;simp
   rw[e1]at this
   unfold World.cell? at this
   split at this
   ·rename_i cs e' fr hh
    split at this
    ·rename_i hs
     exfalso
     have h5:cs'[0]?=none:=this.symm
     rw[List.getElem?_eq_none_iff]at h5
     have h6:=World.cells?_some hcs'
     omega
    ·rename_i hs
     exact⟨by simpa using hs,cs,e',fr,hh⟩
   ·exfalso
    have h5:cs'[0]?=none:=this.symm
    rw[List.getElem?_eq_none_iff]at h5
    have h6:=World.cells?_some hcs'
    omega
  obtain⟨hs1,cs,e',fr,hh⟩:=hfirst
  have ha:a=⟨a.block,a.off,none⟩:=by cases a;simp at hs1;simp[hs1]
  have hadd:∀ i,a.add i=⟨a.block,a.off+i,none⟩:=by
   intro i
   unfold Addr.add
   split
   ·subst_vars;exact ha
   ·rfl
  have hadd2:∀ i k,(a.add i).add k=⟨a.block,a.off+i+k,none⟩:=by
   intro i k
   rw[hadd]
   unfold Addr.add
   split
   ·subst_vars;simp
   ·rfl
  have each:∀ i,i<cap→∃ x,good x∧∀ k,k<c→cs[a.off+i*c+k]?=(cellsA x)[k]?:=by
   intro i hi
   obtain⟨y,hy⟩:=hb' i hi
   obtain⟨cs',hcs',hy'⟩:=Option.bind_eq_some_iff.1 hy
   obtain⟨x,rfl,hg⟩:=hel n cs' y hy'
   obtain⟨_,_,hcell⟩:=World.cells?_some hcs'
   refine⟨x,hg,fun k hk=>?_⟩
   have:=hcell k hk
   rw[hadd2]at this
   unfold World.cell? at this
   simp only[hh,Option.isSome_none,Bool.false_eq_true,if_false]at this
   exact this
  obtain⟨us,hal,has⟩:∃ us:List α,us.length=cap∧∀ i x,us[i]?=some x→good x∧∀ k,k<c→cs[a.off+i*c+k]?=(cellsA x)[k]?:=by
   clear hrl hr hel' hf hx hb hl hm hlen' hsp hns hU hb' h0
   induction cap with
   |zero=>exact⟨[],rfl,fun i x h=>by simp at h⟩
   |succ m ih =>
    obtain⟨us,h1,h2⟩:=ih (fun i hi=>each i (by omega))
    obtain⟨x,h3⟩:=each m (by omega)
    refine⟨us ++ [x],by simp[h1],fun i y hy=>?_⟩
    by_cases hi:i<us.length
    ·rw[List.getElem?_append_left hi]at hy;exact h2 i y hy
    ·rw[List.getElem?_append_right (by omega)]at hy
     have h0:i - us.length=0:=by
      have:=(List.getElem?_eq_some_iff.1 hy).1
      simp at this;omega
     rw[h0]at hy
     simp at hy
     subst hy
     have:i=m:=by omega
     subst this;exact h3
  have hfl:∀ (l:List α),(l.flatMap cellsA).length=l.length*c:=by
   intro l
   induction l with
   |nil=>simp
   |cons x l ih=>rw[List.flatMap_cons,List.length_append,ih,hlen,List.length_cons,Nat.succ_mul];omega
  have hget:∀ (l:List α) (i k:Nat) (x:α),l[i]?=some x→k<c→(l.flatMap cellsA)[i*c+k]?=(cellsA x)[k]?:=by
   intro l
   induction l with
   |nil=>intro i k x h;simp at h
   |cons y l ih =>
    intro i k x h hk
    rw[List.flatMap_cons]
    cases i with
    |zero =>
     simp at h;subst h
     rw[Nat.zero_mul,Nat.zero_add,List.getElem?_append_left (by rw[hlen];exact hk)]
    |succ i =>
     have:c≤(i+1)*c+k:=by rw[Nat.succ_mul];omega
     rw[List.getElem?_append_right (by rw[hlen];exact this),hlen,show (i+1)*c+k - c=i*c+k by rw[Nat.succ_mul];omega]
     exact ih i k x (by simpa using h) hk
  refine⟨us.take len,us,cap,some ⟨a.block,a.off,0,0,0⟩,fun j=>some ⟨j,0,none⟩,?_,?_,?_,.inr ⟨rfl,?_⟩,by simp;omega⟩
  ·rintro ρ i ⟨⟩
   have hsz:a.off+cap*c≤cs.size:=by
    have h1:us[cap - 1]?=some (us[cap - 1]'(by omega)):=List.getElem?_eq_getElem _
    have h2:=(has _ _ h1).2 (c - 1) (by omega)
    rw[List.getElem?_eq_getElem (by rw[hlen];omega)]at h2
    have:=(Array.getElem?_eq_some_iff.1 h2).1
    have e:cap*c=(cap - 1)*c+c:=by
     conv=>lhs;rw[show cap=(cap - 1)+1 by omega,Nat.succ_mul]
    omega
   refine⟨rfl,rfl,cs,e',fr,hh,by rw[hfl,hal];exact hsz,fun k hk=>?_⟩
   rw[hfl,hal]at hk
   have hi:k / c<cap:=by rw[Nat.div_lt_iff_lt_mul hc0];exact hk
   have hk2:k % c<c:=Nat.mod_lt _ hc0
   have e:k / c*c+k % c=k:=Nat.div_add_mod' k c
   have h1:us[k / c]?=some (us[k / c]'(by omega)):=List.getElem?_eq_getElem _
   have h2:=(has _ _ h1).2 (k % c) hk2
   have h3:=hget us _ _ _ h1 hk2
   have hlt:k % c<(cellsA (us[k / c]'(by omega))).length:=by rw[hlen];exact hk2
   rw[List.getElem?_eq_getElem hlt]at h2 h3
   show VRel ρ _ (cs.getD (a.off+k) Go.undef)
   rw[show a.off+k / c*c+k % c=a.off+k by omega]at h2
   rw[e]at h3
   rw[Array.getD_eq_getD_getElem?,h2,List.getD_eq_getElem?_getD,h3]
   exact VRel.of_plain 6 (hpl _ _ (List.getElem_mem _))
  ·intro ρ j hj
   have:(us.take len).length=len:=by simp;omega
   rw[this]
   exact .slice ⟨_,hj,rfl,by show a=⟨a.block,0+a.off,none⟩;rw[Nat.zero_add];exact ha⟩ (.inl ⟨rfl,hU⟩)
  ·intro x hx
   obtain⟨i,hi⟩:=List.getElem?_of_mem (List.mem_of_mem_take hx)
   exact (has i x hi).1
  ·intro k hk
   simp only[List.length_take]at hk
   rw[List.getElem?_take,if_pos (by omega)]
end Go.Proofs.Tryz
end
section
set_option maxRecDepth 100000
namespace Go.Proofs.Tryz
open Go.Cs Go.ChangeShapes Go.WideShapes Go.ChangeAt Go.RowKit Go.ChangeMaps
section
variable {H:Type}{enc:TypeId×Value→H}{w:World}{base:Nat}{sp:Nat→Bool}{held:Bool}
theorem open_value_c{m:Nat}{c0 c1 c2:Value}{y:DataW H×List MemPlace}(h:DataW.trod enc prog w base sp held m 31 [c0,c1,c2]=some y) :
  ∃ (k n:Int) (x:ByteArray),c0 = .int .i64 k∧c1 = .int .i64 n∧c2 = .string x∧y=(.agg [.lit (.int .i64 k),.lit (.int .i64 n),.lit (.string x.data.toList)],[])∧(Lit.int .i64 k).wf=true∧(Lit.int .i64 n).wf=true∧x.size≤maxLen:=by
 obtain⟨d,ps⟩:=y
 obtain⟨xs,m,_,hx,hl,hlen,hp⟩:=DataW.trod_struct underlying31 h
 have h0:DataW.trod enc prog w base sp held m 3 (List.take (prog.cellsOf 3) (List.drop 0 [c0,c1,c2]))=xs[0]?:=hp 0 _ rfl
 have h1:DataW.trod enc prog w base sp held m 3 (List.take (prog.cellsOf 3) (List.drop 1 [c0,c1,c2]))=xs[1]?:=hp 1 _ rfl
 have h2:DataW.trod enc prog w base sp held m 9 (List.take (prog.cellsOf 9) (List.drop 2 [c0,c1,c2]))=xs[2]?:=hp 2 _ rfl
 have hlen:xs.length=3:=hlen
 rw[ce3]at h0 h1
 rw[ce9]at h2
 match xs,hlen with
 | [y0,y1,y2],_ =>
  simp only[List.drop_zero,List.drop_succ_cons,List.take_succ_cons,List.take_zero,List.getElem?_cons_zero,List.getElem?_cons_succ]at h0 h1 h2
  obtain⟨k,e0,rfl,w0⟩:=DataW.trod_int underlying3 h0
  obtain⟨n,e1,rfl,w1⟩:=DataW.trod_int underlying3 h1
  obtain⟨x,e2,rfl,w2⟩:=DataW.trod_string underlying9 h2
  simp only[List.cons.injEq,and_true]at e0 e1 e2
  subst e0 e1 e2
  simp only[List.map_cons,List.map_nil,List.flatMap_cons,List.flatMap_nil,List.append_nil,Prod.mk.injEq]at hx
  exact⟨k,n,x,rfl,rfl,rfl,by rw[hx.1,hx.2],w0,w1,w2⟩
end
end Go.Proofs.Tryz
end
section
namespace Go.Cs
section
variable {M:Type}[Mem M]{P:Program}{w0:World}{s:St M}{ev:Operand→Value}{d:Option Tmp}{ty t:TypeId}{pos:String}{af:Array Edge}{g:Option (Nat×Bool)}{x y:Operand}{K:Value→St M→Prop}{F:Value→St M→Option Value→Prop}
def cmks(P:Program)(t:TypeId)(l c:Value):Option (Blk×(Nat→Value)):=match P.underlying t,l,c with
  |some (.slice e),.int _ l,.int _ c=>match P.info? e with
   |some ie=>if 0≤l∧l≤c∧c≤4294967296∧c*ie.bytes≤281474976710656 then
     match zerosOf P e (c.toNat*ie.size) with
     |some z=>some (.cells z e true,fun b => .slice (some ⟨b,0,none⟩) l.toNat c.toNat)
     |none=>none
    else none
   |none=>none
  |_,_,_=>none
theorem o_mks:wop P w0 ⟨d,.makeSlice t x y,ty,pos,af,g⟩ ev s K=wmk (cmks P t (ev x) (ev y)) s K:=rfl
theorem f_mks:wfop P ⟨d,.makeSlice t x y,ty,pos,af,g⟩ ev s F=wmk (cmks P t (ev x) (ev y)) s fun v s=>F v s none:=rfl
theorem zeros_one{e:TypeId}{z:Value}(hz:czero P e=some z)(h1:z.cells=#[z])(n:Nat):zerosOf P e n=some (List.replicate n z):=by
 unfold zerosOf
 split
 ·rename_i h;subst h;rfl
 ·rw[hz]
  simp only[h1]
  rw[if_neg (by simp)]
  unfold czeros
  rw[h1]
  congr 1
  rw[Array.toList_map,Array.toList_range]
  apply List.ext_getElem?
  intro i
  rw[List.getElem?_map,List.getElem?_replicate]
  by_cases hi:i<n
  ·rw[if_pos hi,List.getElem?_range hi]
   simp[Nat.mod_one]
  ·rw[if_neg hi,List.getElem?_eq_none (by simpa using Nat.le_of_not_lt hi)]
   rfl
end
end Go.Cs
end
