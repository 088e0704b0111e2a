/- Lemmas, laid one behind the other by squeeze2.py. -/
import Derived.Test.YtkfppaecgljdoaaGreatdA
import Derived.Laws.Strings
import Derived.ProofKit
import Derived.OpenShut
import Derived.Laws.StructEq
set_option linter.unusedSimpArgs false
set_option linter.unusedVariables false
set_option linter.unusedSectionVars false
set_option linter.defProp false
section
namespace Go.Cs
open Go.RowKit (Below)
inductive Tr where
 |leaf
 |node (v:Option Blk) (l r:Tr)
def trGet:Nat→Tr→Nat→Option Blk
 |0,_,_=>none
 |_,.leaf,_=>none
 |n+1,.node v l r,k=>match Nat.beq k 0 with
  |true=>v
  |false=>match Nat.beq (k % 2) 0 with
   |true=>trGet n r (k / 2 - 1)
   |false=>trGet n l (k / 2)
def trSet:Nat→Tr→Nat→Option Blk→Tr
 |0,t,_,_=>t
 |n+1,.leaf,k,u=>match Nat.beq k 0 with
  |true => .node u .leaf .leaf
  |false=>match Nat.beq (k % 2) 0 with
   |true => .node none .leaf (trSet n .leaf (k / 2 - 1) u)
   |false => .node none (trSet n .leaf (k / 2) u) .leaf
 |n+1,.node v l r,k,u=>match Nat.beq k 0 with
  |true => .node u l r
  |false=>match Nat.beq (k % 2) 0 with
   |true => .node v l (trSet n r (k / 2 - 1) u)
   |false => .node v (trSet n l (k / 2) u) r
theorem trGet_leaf(n k:Nat):trGet n .leaf k=none:=by cases n<;>rfl
theorem trGet_set:∀ (n:Nat) (t:Tr) (k:Nat) (u:Option Blk) (j:Nat),k<n→j<n→trGet n (trSet n t k u) j=if j=k then u else trGet n t j:=by
 intro n
 induction n with
 |zero=>intro t k u j hk;omega
 |succ n ih =>
  intro t k u j hk hj
  have b0:∀ x:Nat,Nat.beq x 0=decide (x=0):=fun x=>by cases x<;>rfl
  cases t with
  |leaf =>
   simp only[trSet,b0]
   by_cases hk0:k=0
   ·subst hk0
    simp only[decide_true,trGet,b0]
    by_cases hj0:j=0
    ·simp[hj0]
    ·simp only[hj0,decide_false,if_false,trGet_leaf]
     split<;>rfl
   ·simp only[hk0,decide_false]
    by_cases hk2:k % 2=0
    ·simp only[hk2,decide_true,trGet,b0]
     by_cases hj0:j=0
     ·subst hj0;simp[Ne.symm hk0]
     ·simp only[hj0,decide_false]
      by_cases hj2:j % 2=0
      ·simp only[hj2,decide_true,ih _ _ _ _ (show k / 2 - 1<n by omega) (show j / 2 - 1<n by omega),trGet_leaf]
       by_cases e:j=k
       ·subst e;simp
       ·rw[if_neg e,if_neg oM]
      ·simp only[hj2,decide_false,trGet_leaf]
       rw[if_neg (by intro e;subst e;exact hj2 hk2)]
    ·simp only[hk2,decide_false,trGet,b0]
     by_cases hj0:j=0
     ·subst hj0;simp[Ne.symm hk0]
     ·simp only[hj0,decide_false]
      by_cases hj2:j % 2=0
      ·simp only[hj2,decide_true,trGet_leaf]
       rw[if_neg (by intro e;subst e;exact hk2 hj2)]
      ·simp only[hj2,decide_false,ih _ _ _ _ (show k / 2<n by omega) (show j / 2<n by omega),trGet_leaf]
       by_cases e:j=k
       ·subst e;simp
       ·rw[if_neg e,if_neg oM]
  |node v l r =>
   simp only[trSet,b0]
   by_cases hk0:k=0
   ·subst hk0
    simp only[decide_true,trGet,b0]
    by_cases hj0:j=0
    ·simp[hj0]
    ·simp only[hj0,decide_false,if_false]
   ·simp only[hk0,decide_false]
    by_cases hk2:k % 2=0
    ·simp only[hk2,decide_true,trGet,b0]
     by_cases hj0:j=0
     ·subst hj0;simp[Ne.symm hk0]
     ·simp only[hj0,decide_false]
      by_cases hj2:j % 2=0
      ·simp only[hj2,decide_true,ih _ _ _ _ (show k / 2 - 1<n by omega) (show j / 2 - 1<n by omega)]
       by_cases e:j=k
       ·subst e;simp
       ·rw[if_neg e,if_neg oM]
      ·simp only[hj2,decide_false]
       rw[if_neg (by intro e;subst e;exact hj2 hk2)]
    ·simp only[hk2,decide_false,trGet,b0]
     by_cases hj0:j=0
     ·subst hj0;simp[Ne.symm hk0]
     ·simp only[hj0,decide_false]
      by_cases hj2:j % 2=0
      ·simp only[hj2,decide_true]
       rw[if_neg (by intro e;subst e;exact hk2 hj2)]
      ·simp only[hj2,decide_false,ih _ _ _ _ (show k / 2<n by omega) (show j / 2<n by omega)]
       by_cases e:j=k
       ·subst e;simp
       ·rw[if_neg e,if_neg oM]
structure AL where
 t:Tr
 far:Nat→Option Blk
def trMax:Nat:=65536
instance:Mem AL where
 get m k:=match Nat.blt k trMax with
  |true=>trGet trMax m.t k
  |false=>m.far k
 set m k v:=match Nat.blt k trMax with
  |true=>{ m with t:=trSet trMax m.t k v }
  |false=>{ m with far:=fun j=>if j=k then v else m.far j }
 get_set m k v j:=by
  have hb:∀ x:Nat,Nat.blt x trMax=decide (x<trMax):=fun x=>by rw[Bool.eq_iff_iff];simp
  simp only[hb]
  by_cases hk:k<trMax
  ·by_cases hj:j<trMax
   ·simp only[hk,hj,decide_true];exact trGet_set trMax m.t k v j hk hj
   ·simp only[hk,hj,decide_true,decide_false];rw[if_neg (by intro e;subst e;exact hj hk)]
  ·by_cases hj:j<trMax
   ·simp only[hk,hj,decide_true,decide_false];rw[if_neg (by intro e;subst e;exact hk hj)]
   ·simp only[hk,hj,decide_false]
inductive Res where
 |no
 |ok
 |eq (u v:Value) (r:Res)
 |alt (t:Bool) (x y:Res)
def Res.holds:Res→Prop
 |.no=>False
 |.ok=>True
 |.eq u v r=>u=v∧r.holds
 |.alt t x y=>(t=true→x.holds)∧(t=false→y.holds)
def Res.dup:Res→Res
 |.no => .ok
 |.ok => .ok
 |.eq u _ r => .eq u u r.dup
 |.alt t x y => .alt t x.dup y.dup
theorem Res.holds_dup:∀ (r:Res),r=r.dup→r.holds:=by
 intro r
 induction r with
 |no=>intro h;cases h
 |ok=>intro _;trivial
 |eq u v r ih =>
  intro h2
  simp only[Res.dup,Res.eq.injEq,true_and]at h2
  exact⟨h2.1.symm,ih h2.2⟩
 |alt t x y ihx ihy =>
  intro h2
  simp only[Res.dup,Res.alt.injEq,true_and]at h2
  exact⟨fun _=>ihx h2.1,fun _=>ihy h2.2⟩
def Res.guard(b:Bool)(r:Res):Res:=match b with
 |true=>r
 |false => .no
theorem Res.guard_holds{b:Bool}{r:Res}:(Res.guard b r).holds↔b=true∧r.holds:=by
 cases b
 ·exact⟨fun h=>h.elim,fun h=>by cases h.1⟩
 ·exact⟨fun h=>⟨rfl,h⟩,fun h=>h.2⟩
def Res.of(b:Bool):Res:=Res.guard b .ok
theorem Res.of_holds{b:Bool}:(Res.of b).holds↔b=true:=by
 unfold Res.of;rw[Res.guard_holds];exact⟨fun h=>h.1,fun h=>⟨h,trivial⟩⟩
def lset:List Value→Nat→Value→(List Value→Res)→Res
 | [],_,_,k=>k []
 |_::xs,0,v,k=>k (v::xs)
 |x::xs,i+1,v,k=>lset xs i v fun ys=>k (x::ys)
theorem lset_eq:∀ (l:List Value) (i:Nat) (v:Value) (k:List Value→Res),lset l i v k=k (l.set i v):=by
 intro l
 induction l with
 |nil=>intro i v k;rfl
 |cons x l ih=>intro i v k;cases i with
  |zero=>rfl
  |succ i=>simp only[lset,ih,List.set_cons_succ]
def lforce:List Value→(List Value→Res)→Res
 | [],k=>k []
 |x::xs,k=>lforce xs fun ys=>k (x::ys)
theorem lforce_eq:∀ (l:List Value) (k:List Value→Res),lforce l k=k l:=by
 intro l
 induction l with
 |nil=>intro k;rfl
 |cons x l ih=>intro k;simp only[lforce,ih]
def lput(l:List Value)(dst:Option Tmp)(v:Value)(k:List Value→Res):Res:=match dst with
 |none=>k l
 |some d=>lset l d v k
def lset'(l:List Value)(dst:Option Tmp)(v:Value):List Value:=match dst with
 |none=>l
 |some d=>l.set d v
theorem lput_eq(l:List Value)(dst:Option Tmp)(v:Value)(k:List Value→Res):lput l dst v k=k (lset' l dst v):=by
 cases dst with
 |none=>rfl
 |some d=>exact lset_eq _ _ _ _
def lget:List Value→Nat→Value
 | [],_=>undef
 |x::_,0=>x
 |_::xs,i+1=>lget xs i
theorem lget_eq:∀ (l:List Value) (i:Nat),lget l i=(⟨l⟩:Array Value).getD i undef:=by
 intro l
 induction l with
 |nil=>intro i;rfl
 |cons x l ih =>
  intro i
  cases i with
  |zero=>rfl
  |succ i =>
   rw[lget,ih]
   simp[Array.getD_eq_getD_getElem?]
def leval(l:List Value):Operand→Value
 |.tmp t=>lget l t
 |.const v=>v
 |.global g => .pointer (some ⟨g,0,none⟩)
 |.func f => .func (.func f) #[] #[]
def lact(l:List Value):Act:={ tmps:=⟨l⟩,defers:=[] }
theorem leval_eq(l:List Value):(lact l).eval=leval l:=by
 funext x
 cases x with
 |tmp t=>exact (lget_eq l t).symm
 |_=>rfl
theorem lact_put(l:List Value)(dst:Option Tmp)(v:Value):(lact l).put dst v=lact (lset' l dst v):=by
 cases dst with
 |none=>rfl
 |some d =>
  simp only[Act.put,lact,lset']
  congr 1
  apply Array.ext'
  simp
def lwanted(ops:Array Oper)(o:Oper)(l:List Value):Option Bool:=
 match o.guard with
 |none=>some true
 |some (j,want)=>match (ops[j]?).bind (·.dst) with
  |none=>some false
  |some d=>match l[d]? with
   |some (.bool b)=>some (b == want)
   |some (.tuple cs)=>if cs.size=1 then none else some false
   |_=>some false
theorem lwanted_eq(ops:Array Oper)(o:Oper)(l:List Value):cwanted ops o (lact l).tmps=lwanted ops o l:=by
 unfold cwanted lwanted lact
 cases o.guard with
 |none=>rfl
 |some g =>
  obtain⟨j,want⟩:=g
  simp only
  cases (ops[j]?).bind (·.dst) with
  |none=>rfl
  |some d =>
   have:(⟨l⟩:Array Value)[d]?=l[d]?:=by simp
   simp only[this]
   cases l[d]? with
   |none=>rfl
   |some v=>cases v<;>rfl
inductive Tg where
 |fn (f:FuncId)
 |yl (l:Nat)
section
variable {M:Type}[Mem M](P:Program)
def CTg(w0:World):Tg→Array Value→St M→(Value→St M→Prop)→Prop
 |.fn f=>QC P w0 f
 |.yl l=>CRound P w0 l
def efstep(o:Oper)(ev:Operand→Value)(s:St M):Option (Value×St M×Option Value):=
 match cpure P ev o.type o.op with
 |some v=>some (v,s,none)
 |none=>match cread P ev s o.op with
  |some v=>some (v,s,some v)
  |none=>match calloc P ev o.op with
   |some (B,f)=>some (f s.next,s.new B,none)
   |none=>none
def estep(E:Tg→Array Value→St M→(Value→St M→Res)→Res)(o:Oper)(ev:Operand→Value)(s:St M)(K:Value→St M→Res):Res:=
 match cpure P ev o.type o.op with
 |some v=>K v s
 |none=>match cread P ev s o.op with
  |some v=>K v s
  |none=>match calloc P ev o.op with
   |some (B,f)=>K (f s.next) (s.new B)
   |none=>match ceff P ev s o.op with
    |some (v,s')=>K v s'
    |none=>match o.op with
     |.call c=>match ccallee P ev c with
      |some (f,args)=>E (.fn f) args s K
      |none=>match cyield ev c with
       |some (l,args)=>E (.yl l) args s K
       |none => .no
     |_ => .no
def gBoth(bt:Nat→Bool)(ops:Array Oper)(o:Oper):Option Tmp:=match o.guard with
 |none=>none
 |some (j,_)=>match (ops[j]?).bind (·.dst) with
  |some d=>match bt d with
   |true=>some d
   |false=>none
  |none=>none
def eboth(bt:Nat→Bool)(g:Option (Nat×Bool))(d:Option Tmp)(l:List Value)(t:Bool)(X Y:(Nat→Bool)→List Value→Res):Res:=match d,g with
 |some d,some (_,want)=>(match l[d]? with
  |some (.bool _) => .alt t (lset l d (.bool want) (X fun x=>bt x && !Nat.beq x d)) (lset l d (.bool !want) (Y fun x=>bt x && !Nat.beq x d))
  |_=>match t with
   |true=>X bt l
   |false=>Y bt l)
 |_,_=>match t with
  |true=>X bt l
  |false=>Y bt l
def eregion(E:Tg→Array Value→St M→(Value→St M→Res)→Res)(ops:Array Oper)(Q:List Value→St M→Res):List Nat→(Nat→Bool)→List Value→St M→Res
 | [],_,l,s=>Q l s
 |i::rest,bt,l,s=>match ops[i]? with
  |none=>eregion E ops Q rest bt l s
  |some o=>match lwanted ops o l with
   |some t=>eboth bt o.guard (gBoth bt ops o) l t
     (fun bt l=>Res.guard (o.op.operands.all opOk) <| estep P E o (leval l) s fun v s'=>lput l o.dst v fun l'=>eregion E ops Q rest bt l' s')
     (fun bt l=>lput l o.dst undef fun l'=>eregion E ops Q rest bt l' s)
   |none => .no
def stillR(bf:Array Nat)(i:Nat)(s:St M)(r:Res):List (Fl M)→Res
 | []=>r
 |f::fl=>match (bf.getD i 0).testBit f.i with
  |true=>stillR bf i s r fl
  |false=>match f.v with
   |none=>stillR bf i s r fl
   |some v=>match cread P f.ev s f.op with
    |some u => .eq u v (stillR bf i s r fl)
    |none => .no
def eregionD(E:Tg→Array Value→St M→(Value→St M→Res)→Res)(ops:Array Oper)(bf:Array Nat)(Q:List Value→St M→Res):List Nat→List (Fl M)→(Nat→Bool)→List Value→St M→Res
 | [],_,_,l,s=>Q l s
 |i::rest,fl,bt,l,s=>match ops[i]? with
  |none => .no
  |some o=>match lwanted ops o l with
   |none => .no
   |some t=>eboth bt o.guard (gBoth bt ops o) l t
     (fun bt l=>Res.guard (o.op.operands.all opOk)
      (if acts P o then estep P E o (leval l) s fun v s'=>stillR P bf i s' (lput l o.dst v fun l'=>eregionD E ops bf Q rest fl bt l' s') fl
       else match efstep P o (leval l) s with
       |some (v,s',r)=>lput l o.dst v fun l'=>eregionD E ops bf Q rest (⟨i,o.op,leval l,r⟩::fl) bt l' s'
       |none => .no))
     (fun bt l=>lput l o.dst undef fun l'=>eregionD E ops bf Q rest (if acts P o then fl else ⟨i,o.op,leval l,none⟩::fl) bt l' s)
def ethen(K:List Value→St M→Res)(Q:Exit→List Value→St M→Res):Exit→List Value→St M→Res
 |.normal,a,s=>K a s
 |e,a,s=>Q e a s
def eblock(id:Nat)(Q:Exit→List Value→St M→Res):Exit→List Value→St M→Res
 |.exit j,a,s=>if j=id then Q .normal a s else Q (.exit j) a s
 |e,a,s=>Q e a s
def escope(c:Code)(Q:Exit→List Value→St M→Res)(J:Code→List Value→St M→Res):Exit→List Value→St M→Res
 |.goto l,a,s=>match findLabel c l with
  |some rest=>J rest a s
  |none=>Q (.goto l) a s
 |e,a,s=>Q e a s
inductive Md where
 |plain
 |scope (c:Code)
 |loop
def bothC(bt:Nat→Bool):Operand→Option Tmp
 |.tmp t=>match bt t with
  |true=>some t
  |false=>none
 |_=>none
def ecode(E:Tg→Array Value→St M→(Value→St M→Res)→Res)(bt:Nat→Bool):Nat→Md→Code→(Exit→List Value→St M→Res)→List Value→St M→Res
 |0,_,_,_,_,_ => .no
 |k+1,.plain,c,Q,a,s=>match c with
  |.skip=>Q .normal a s
  |.label _=>Q .normal a s
  |.region _ ops false=>eregion P E ops (fun a s=>Q .normal a s) (List.range ops.size) bt a s
  |.region _ ops true=>Res.guard (drawOk P ops (asap P ops)) <| eregionD P E ops (Region.before ops) (fun a s=>Q .normal a s) (asap P ops) [] bt a s
  |.seq x y=>ecode E bt k .plain x (ethen (ecode E bt k .plain y Q) Q) a s
  |.cond c x y=>Res.guard (opOk c) (match leval a c with
   |.bool t=>(match bothC bt c with
    |some d => .alt t (lset a d (.bool true) fun a=>ecode E bt k .plain x Q a s) (lset a d (.bool false) fun a=>ecode E bt k .plain y Q a s)
    |none=>if t=true then ecode E bt k .plain x Q a s else ecode E bt k .plain y Q a s)
   |_ => .no)
  |.block id c=>ecode E bt k .plain c (eblock id Q) a s
  |.loop c=>ecode E bt k .loop c Q a s
  |.exit id=>Q (.exit id) a s
  |.goto l=>Q (.goto l) a s
  |.ret=>Q .ret a s
  |.scope c=>ecode E bt k (.scope c) c Q a s
  |.rangeFunc g ps assign body=>Res.guard (opOk g) (match leval a g with
   |.func (.func gf) first caps=>(match P.funcs[gf]? with
    |some fn=>Res.guard (fn.body.isSome && fn.name != "runtime.NumGoroutine") <| E (.fn gf) (first ++ #[.func (.yield (s.next+1)) #[] #[]]++caps) (s.skip.new (.loop .ready none ps ⟨a⟩ assign body)) (fun _ s3=>match s3.at' (s.next+1) with
     |some (.loop st pend ps3 tmps3 as3 bd3)=>Res.guard (match st with | .busy=>false|_=>true) (match pend with
      |none=>Q .normal a (s3.put (s.next+1) (.loop .exhausted pend ps3 tmps3 as3 bd3))
      |some c=>ecode E bt k .plain c Q a (s3.put (s.next+1) (.loop .exhausted pend ps3 tmps3 as3 bd3)))
     |_ => .no)
    |none => .no)
   |_ => .no)
  |_ => .no
 |k+1,.scope c,x,Q,a,s=>ecode E bt k .plain x (escope c Q (fun rest=>ecode E bt k (.scope c) rest Q)) a s
 |k+1,.loop,c,Q,a,s=>ecode E bt k .plain c (ethen (ecode E bt k .loop c Q) Q) a s
def ebody(fn:Func)(K:Value→St M→Res):Exit→List Value→St M→Res
 |.normal,a,s=>match cresults P fn ⟨a⟩ s with
  |some v=>K v s
  |none => .no
 |.ret,a,s=>match cresults P fn ⟨a⟩ s with
  |some v=>K v s
  |none => .no
 |_,_,_ => .no
def eendRound(l:Nat)(jump:Option Code)(K:Value→St M→Res)(s:St M):Res:=
 match s.at' l with
 |some (.loop _ _ ps tmps as bd)=>K (.bool jump.isNone) (s.put l (.loop (if jump.isNone then .ready else .done) jump ps tmps as bd))
 |_ => .no
def eroundPost(l:Nat)(K:Value→St M→Res):Exit→List Value→St M→Res
 |.normal,_,s=>eendRound l none K s
 |.ret,_,s=>eendRound l (some .ret) K s
 |.exit id,_,s=>eendRound l (some (.exit id)) K s
 |.goto t,_,s=>eendRound l (some (.goto t)) K s
 |_,_,_ => .no
def eassignPost(l:Nat)(B:List Value→St M→Res):Exit→List Value→St M→Res
 |.normal,a,s=>match s.at' l with
  |some (.loop .ready pend ps tmps as bd)=>B a (s.put l (.loop .busy pend ps tmps as bd))
  |_ => .no
 |_,_,_ => .no
structure Orc(M:Type) where
 known:FuncId→Array Value→St M→Option Value
 both:FuncId→Nat→Bool
def etg(orc:Orc M)(E:Tg→Array Value→St M→(Value→St M→Res)→Res):Tg→Array Value→St M→(Value→St M→Res)→Res
 |.fn f,args,s,K=>match orc.known f args s with
  |some v=>K v s
  |none=>E (.fn f) args s K
 |.yl l,args,s,K=>E (.yl l) args s K
def ecallT(orc:Orc M):Nat→Tg→Array Value→St M→(Value→St M→Res)→Res
 |0,_,_,_,_ => .no
 |n+1,.fn f,args,s,K=>match P.funcs[f]? with
  |some fn=>match fn.body with
   |some c=>lforce (args.toList++List.replicate (fn.ntmps - args.size) undef) fun l=>ecode P (etg orc (ecallT orc n)) (orc.both f) n .plain c (ebody P fn K) l s
   |none => .no
  |none => .no
 |n+1,.yl l,args,s,K=>match s.at' l with
  |some (.loop .ready none ps tmps as bd)=>Res.guard (args.size == ps.size) <| lforce ((ps.toList.zip args.toList).foldl (fun t (p,v)=>t.set p v) tmps.toList) fun t =>
    ecode P (etg orc (ecallT orc n)) (fun _=>false) n .plain as (eassignPost l (ecode P (etg orc (ecallT orc n)) (fun _=>false) n .plain bd (eroundPost l K))) t s
  |_ => .no
def ecall(n:Nat)(f:FuncId)(args:Array Value)(s:St M)(K:Value→St M→Res):Res:=ecallT P ⟨fun _ _ _=>none,fun _ _=>false⟩ n (.fn f) args s K
end
section
variable {M:Type}[Mem M]{P:Program}{w0:World}
theorem estep_sound{E:Tg→Array Value→St M→(Value→St M→Res)→Res}(hE:∀ f args s K,(E f args s K).holds→CTg P w0 f args s fun v s=>(K v s).holds)
  {o:Oper}{ev:Operand→Value}{s:St M}{K:Value→St M→Res}(h:(estep P E o ev s K).holds):cstep P w0 o ev s fun v s=>(K v s).holds:=by
 unfold estep at h
 cases h1:cpure P ev o.type o.op with
 |some v=>rw[h1]at h;exact .inl ⟨v,h1,h⟩
 |none =>
  rw[h1]at h
  simp only at h
  cases h2:cread P ev s o.op with
  |some v=>rw[h2]at h;exact .inr (.inl ⟨v,h2,h⟩)
  |none =>
   rw[h2]at h
   simp only at h
   cases h3:calloc P ev o.op with
   |some x=>obtain⟨B,f⟩:=x;rw[h3]at h;exact .inr (.inr (.inl ⟨B,f,h3,h⟩))
   |none =>
    rw[h3]at h
    simp only at h
    cases h4:ceff P ev s o.op with
    |some x=>obtain⟨v,s'⟩:=x;rw[h4]at h;exact .inr (.inr (.inr (.inl ⟨v,s',h4,h⟩)))
    |none =>
     rw[h4]at h
     simp only at h
     refine .inr (.inr (.inr (.inr ?_)))
     cases h5:o.op<;>rw[h5]at h<;>(try (exact h.elim))
     simp only[ccall]
     rename_i c
     simp only at h
     cases h6:ccallee P ev c with
     |some x=>rw[h6]at h;exact hE _ _ _ _ h
     |none =>
      rw[h6]at h
      simp only at h ⊢
      cases h7:cyield ev c with
      |some x=>rw[h7]at h;exact hE _ _ _ _ h
      |none=>rw[h7]at h;exact h.elim
theorem lget_set:∀ (l:List Value) (d:Nat) (v:Value),lget l d=v→l.set d v=l:=by
 intro l
 induction l with
 |nil=>intro d v _;rfl
 |cons x l ih =>
  intro d v h
  cases d with
  |zero=>simp only[lget]at h;subst h;rfl
  |succ d=>simp only[lget]at h;simp only[List.set_cons_succ,ih d v h]
theorem lget_some:∀ (l:List Value) (d:Nat) (v:Value),l[d]?=some v→lget l d=v:=by
 intro l
 induction l with
 |nil=>intro d v h;simp at h
 |cons x l ih =>
  intro d v h
  cases d with
  |zero=>simpa [lget] using h
  |succ d=>exact ih d v (by simpa using h)
theorem eboth_sound{bt:Nat→Bool}{ops:Array Oper}{o:Oper}{l:List Value}{t:Bool}{X Y:(Nat→Bool)→List Value→Res}(hw:lwanted ops o l=some t)(h:(eboth bt o.guard (gBoth bt ops o) l t X Y).holds) :
  (t=true→∃ bt',(X bt' l).holds)∧(t=false→∃ bt',(Y bt' l).holds):=by
 have hone:∀ {t:Bool},(match t with|true=>X bt l|false=>Y bt l:Res).holds→(t=true→∃ bt',(X bt' l).holds)∧(t=false→∃ bt',(Y bt' l).holds):=by
  intro t h
  cases t
  ·exact⟨fun e=>(by cases e),fun _=>⟨_,h⟩⟩
  ·exact⟨fun _=>⟨_,h⟩,fun e=>(by cases e)⟩
 unfold eboth at h
 split at h
 ·rename_i d j want hd hg
  split at h
  case h_2=>exact hone h
  rename_i b hb
  obtain⟨h1,h2⟩:=h
  simp only[lset_eq]at h1 h2
  have hd2:(ops[j]?).bind (·.dst)=some d:=by
   unfold gBoth at hd
   rw[hg]at hd
   simp only at hd
   split at hd
   ·rename_i d2 h3
    split at hd
    ·cases hd;exact h3
    ·cases hd
   ·cases hd
  unfold lwanted at hw
  rw[hg]at hw
  simp only[hd2,hb]at hw
  have hl:=lget_some _ _ _ hb
  cases hw
  constructor
  ·intro e
   have:b=want:=by simpa using e
   subst this
   have h3:=h1 e
   rw[lget_set _ _ _ hl]at h3
   exact⟨_,h3⟩
  ·intro e
   have:b = !want:=by cases b<;>cases want<;>simp_all
   subst this
   have h3:=h2 e
   rw[lget_set _ _ _ hl]at h3
   exact⟨_,h3⟩
 ·exact hone h
theorem eregion_sound{E:Tg→Array Value→St M→(Value→St M→Res)→Res}(hE:∀ f args s K,(E f args s K).holds→CTg P w0 f args s fun v s=>(K v s).holds)
  {ops:Array Oper}{Q:List Value→St M→Res}:∀ (l:List Nat) (bt:Nat→Bool) (a:List Value) (s:St M),(eregion P E ops Q l bt a s).holds→cregion P w0 ops (fun a s=>∃ l,a=lact l∧(Q l s).holds) l (lact a) s:=by
 intro l
 induction l with
 |nil=>intro bt a s h;exact⟨a,rfl,h⟩
 |cons i rest ih =>
  intro bt a s h
  simp only[eregion]at h
  simp only[cregion]
  split at h
  ·rename_i ho;rw[ho];exact ih _ _ _ h
  ·rename_i o ho
   rw[ho]
   simp only[lwanted_eq]
   split at h
   ·rename_i t hw
    rw[hw]
    have hb:=eboth_sound hw h
    cases t with
    |true =>
     obtain⟨bt',h⟩:=hb.1 rfl
     rw[Res.guard_holds]at h
     simp only
     rw[h.1,leval_eq]
     refine cstep_mono (fun v s' hk=>?_) (estep_sound hE h.2)
     rw[lput_eq]at hk
     rw[lact_put]
     exact ih _ _ _ hk
    |false =>
     obtain⟨bt',h⟩:=hb.2 rfl
     rw[lput_eq]at h
     simp only
     rw[lact_put]
     exact ih _ _ _ h
   ·exact h.elim
theorem stillAll_intro{s:St M}{K:Prop}:∀ (l:List (Fl M)),K→(∀ f∈l,f.still P s)→stillAll P s l K:=by
 intro l
 induction l with
 |nil=>intro h _;exact h
 |cons x l ih =>
  intro h hf
  simp only[stillAll]
  have h2:=ih h (fun f hf'=>hf f (by simp[hf']))
  split
  ·exact h2
  ·rename_i v e
   have:=hf x (by simp)
   unfold Fl.still at this
   rw[e]at this
   exact⟨this,h2⟩
theorem stillR_spec{bf:Array Nat}{i:Nat}{s:St M}{r:Res}:∀ (fl:List (Fl M)),(stillR P bf i s r fl).holds→r.holds∧∀ f∈fl,(bf.getD i 0).testBit f.i=false→f.still P s:=by
 intro fl
 induction fl with
 |nil=>intro h;exact⟨h,fun f hf=>by cases hf⟩
 |cons f fl ih =>
  intro h
  unfold stillR at h
  cases hb:(bf.getD i 0).testBit f.i with
  |true =>
   rw[hb]at h
   obtain⟨h1,h2⟩:=ih h
   refine⟨h1,fun g hg hgb=>?_⟩
   rcases List.mem_cons.1 hg with rfl|hg
   ·rw[hb]at hgb;cases hgb
   ·exact h2 g hg hgb
  |false =>
   rw[hb]at h
   simp only at h
   cases hv:f.v with
   |none =>
    rw[hv]at h
    obtain⟨h1,h2⟩:=ih h
    refine⟨h1,fun g hg hgb=>?_⟩
    rcases List.mem_cons.1 hg with rfl|hg
    ·unfold Fl.still;rw[hv];trivial
    ·exact h2 g hg hgb
   |some v =>
    rw[hv]at h
    simp only at h
    cases hu:cread P f.ev s f.op with
    |none=>rw[hu]at h;exact h.elim
    |some u =>
     rw[hu]at h
     obtain⟨e,h⟩:=h
     obtain⟨h1,h2⟩:=ih h
     refine⟨h1,fun g hg hgb=>?_⟩
     rcases List.mem_cons.1 hg with rfl|hg
     ·unfold Fl.still;rw[hv];simp only;rw[hu,e]
     ·exact h2 g hg hgb
theorem eregionD_sound{E:Tg→Array Value→St M→(Value→St M→Res)→Res}(hE:∀ f args s K,(E f args s K).holds→CTg P w0 f args s fun v s=>(K v s).holds)
  {ops:Array Oper}{bf:Array Nat}{Q:List Value→St M→Res}:∀ (l:List Nat) (fl:List (Fl M)) (bt:Nat→Bool) (a:List Value) (s:St M),(eregionD P E ops bf Q l fl bt a s).holds→cregionD P w0 ops bf (fun a s=>∃ l,a=lact l∧(Q l s).holds) l fl (lact a) s:=by
 intro l
 induction l with
 |nil=>intro fl bt a s h;exact⟨a,rfl,h⟩
 |cons i rest ih =>
  intro fl bt a s h
  simp only[eregionD]at h
  simp only[cregionD,lwanted_eq,leval_eq]
  cases ho:ops[i]? with
  |none=>rw[ho]at h;exact h.elim
  |some o =>
   rw[ho]at h
   simp only at h ⊢
   cases hw:lwanted ops o a with
   |none=>rw[hw]at h;exact h.elim
   |some t =>
    rw[hw]at h
    have hb:=eboth_sound hw h
    cases t with
    |false =>
     obtain⟨bt',h⟩:=hb.2 rfl
     simp only[lput_eq]at h
     simp only[lact_put]
     exact ih _ _ _ _ h
    |true =>
     obtain⟨bt',h⟩:=hb.1 rfl
     simp only[Res.guard_holds]at h
     rw[h.1]
     simp only
     have h2:=h.2
     split at h2
     ·rename_i ha
      rw[if_pos ha]
      refine cstep_mono (fun v s' hk=>?_) (estep_sound hE h2)
      rw[lput_eq]at hk
      rw[lact_put]
      obtain⟨hk1,hk2⟩:=stillR_spec _ hk
      refine stillAll_intro _ (ih _ _ _ _ hk1) fun f hf=>?_
      obtain⟨hf1,hf2⟩:=List.mem_filter.1 hf
      exact hk2 f hf1 (by simpa using hf2)
     ·rename_i ha
      rw[if_neg ha]
      unfold efstep at h2
      cases g1:cpure P (leval a) o.type o.op with
      |some v=>rw[g1]at h2;simp only[lput_eq]at h2;exact .inl ⟨v,g1,by simp only[lact_put];exact ih _ _ _ _ h2⟩
      |none =>
       rw[g1]at h2
       simp only at h2
       cases g2:cread P (leval a) s o.op with
       |some v=>rw[g2]at h2;simp only[lput_eq]at h2;exact .inr (.inl ⟨v,g2,by simp only[lact_put];exact ih _ _ _ _ h2⟩)
       |none =>
        rw[g2]at h2
        simp only at h2
        cases g3:calloc P (leval a) o.op with
        |some x=>obtain⟨B,f⟩:=x;rw[g3]at h2;simp only[lput_eq]at h2;exact .inr (.inr ⟨B,f,g3,by simp only[lact_put];exact ih _ _ _ _ h2⟩)
        |none=>rw[g3]at h2;exact h2.elim
def eP(Q:Exit→List Value→St M→Res):Exit→Act→St M→Prop:=fun e a s=>∃ l,a=lact l∧(Q e l s).holds
theorem ecode_sound(hm:P.follows .mixedOrders=true){E:Tg→Array Value→St M→(Value→St M→Res)→Res}(hE:∀ f args s K,(E f args s K).holds→CTg P w0 f args s fun v s=>(K v s).holds) :
  ∀ (bt:Nat→Bool) (k:Nat) (c:Code) (Q:Exit→List Value→St M→Res) (a:List Value) (s:St M),
   ((ecode P E bt k .plain c Q a s).holds→CWp P w0 c (eP Q) (lact a) s)∧(∀ x,(ecode P E bt k (.scope x) c Q a s).holds→CScope P w0 x c (eP Q) (lact a) s) ∧
   ((ecode P E bt k .loop c Q a s).holds→CLoop P w0 c (eP Q) (lact a) s):=by
 intro bt k
 induction k with
 |zero=>intro c Q a s;exact⟨fun h=>h.elim,fun x h=>h.elim,fun h=>h.elim⟩
 |succ k ih =>
  intro c Q a s
  refine⟨fun h=>?_,fun x h=>?_,fun h=>?_⟩
  ·cases c<;>simp only[ecode]at h<;>(try (exact h.elim))
   case skip=>exact cwp_skip ⟨_,rfl,h⟩
   case label=>exact cwp_label ⟨_,rfl,h⟩
   case region id ops d =>
    cases d
    ·exact cwp_region (eregion_sound hE _ _ _ _ h)
    ·simp only[Res.guard_holds]at h
     exact cwp_regionD hm h.1 (eregionD_sound hE _ _ _ _ _ h.2)
   case seq x y =>
    refine cwp_seq (cwp_mono ?_ ((ih _ _ _ _).1 h))
    rintro e _ s ⟨l,rfl,hq⟩
    cases e<;>first|exact (ih _ _ _ _).1 hq|exact⟨l,rfl,hq⟩
   case cond c x y =>
    simp only[Res.guard_holds]at h
    obtain⟨h1,h2⟩:=h
    split at h2
    ·rename_i t ht
     refine cwp_cond h1 (by rw[leval_eq];exact ht) ?_
     split at h2
     ·rename_i d hd
      have hcd:c = .tmp d:=by
       unfold bothC at hd
       split at hd
       ·split at hd
        ·cases hd;rfl
        ·cases hd
       ·cases hd
      subst hcd
      have hl:lget a d = .bool t:=ht
      simp only[lset_eq]at h2
      cases t
      ·have h3:=h2.2 rfl
       rw[lget_set _ _ _ hl]at h3
       exact (ih _ _ _ _).1 h3
      ·have h3:=h2.1 rfl
       rw[lget_set _ _ _ hl]at h3
       exact (ih _ _ _ _).1 h3
     ·cases t
      ·exact (ih _ _ _ _).1 h2
      ·exact (ih _ _ _ _).1 h2
    ·exact h2.elim
   case block id c =>
    refine cwp_block (cwp_mono ?_ ((ih _ _ _ _).1 h))
    rintro e _ s ⟨l,rfl,hq⟩
    cases e<;>first
     |exact⟨l,rfl,hq⟩
     |(simp only[eblock]at hq;simp only[cblock];split at hq
       ·rename_i e;rw[if_pos e];exact⟨l,rfl,hq⟩
       ·rename_i e;rw[if_neg e];exact⟨l,rfl,hq⟩)
   case loop c=>exact cwp_loop ((ih _ _ _ _).2.2 h)
   case exit=>exact cwp_exit ⟨_,rfl,h⟩
   case goto=>exact cwp_goto ⟨_,rfl,h⟩
   case ret=>exact cwp_ret ⟨_,rfl,h⟩
   case scope c=>exact cwp_scope ((ih _ _ _ _).2.1 _ h)
   case rangeFunc g ps assign body =>
    simp only[Res.guard_holds]at h
    obtain⟨h1,h2⟩:=h
    split at h2
    case h_2=>exact h2.elim
    rename_i gf first caps hg
    split at h2
    case h_2=>exact h2.elim
    rename_i fn hfn
    simp only[Res.guard_holds]at h2
    refine cwp_rangeFunc h1 (by rw[leval_eq];exact hg) hfn h2.1 (QC.mono (hE _ _ _ _ h2.2) ?_)
    intro v s3 hk
    unfold cloopPost cendLoop
    split at hk
    case h_2=>exact hk.elim
    rename_i st pend ps3 tmps3 as3 bd3 hat
    rw[hat]
    simp only[Res.guard_holds]at hk
    refine⟨?_,?_⟩
    ·intro e;rw[e]at hk;cases hk.1
    ·cases pend with
     |none=>exact⟨_,rfl,hk.2⟩
     |some c=>exact (ih _ _ _ _).1 hk.2
  ·simp only[ecode]at h
   refine cscope_piece (cwp_mono ?_ ((ih _ _ _ _).1 h))
   rintro e _ s ⟨l,rfl,hq⟩
   cases e<;>first
    |exact⟨l,rfl,hq⟩
    |skip
   rename_i lb
   simp only[escope]at hq
   simp only[cscope]
   cases hf:findLabel x lb with
   |some rest=>rw[hf]at hq;exact (ih _ _ _ _).2.1 _ hq
   |none=>rw[hf]at hq;exact⟨l,rfl,hq⟩
  ·simp only[ecode]at h
   refine cloop_round (cwp_mono ?_ ((ih _ _ _ _).1 h))
   rintro e _ s ⟨l,rfl,hq⟩
   cases e<;>first|exact (ih _ _ _ _).2.2 hq|exact⟨l,rfl,hq⟩
theorem eendRound_sound{l:Nat}{jump:Option Code}{K:Value→St M→Res}{s:St M}(h:(eendRound l jump K s).holds):cendRound l jump (fun v s=>(K v s).holds) s:=by
 unfold eendRound at h
 unfold cendRound
 split at h
 ·rename_i hat;rw[hat];exact h
 ·exact h.elim
def OrcOk(P:Program)(w0:World)(orc:Orc M):Prop:=∀ f args s v,orc.known f args s=some v→QC P w0 f args s fun v' s'=>v'=v∧s'=s
theorem etg_sound{orc:Orc M}(ho:OrcOk P w0 orc){E:Tg→Array Value→St M→(Value→St M→Res)→Res}(hE:∀ f args s K,(E f args s K).holds→CTg P w0 f args s fun v s=>(K v s).holds) :
  ∀ f args s K,(etg orc E f args s K).holds→CTg P w0 f args s fun v s=>(K v s).holds:=by
 intro f args s K h
 cases f with
 |yl l=>exact hE _ _ _ _ h
 |fn f =>
  simp only[etg]at h
  split at h
  ·rename_i v hv
   exact QC.mono (ho _ _ _ _ hv) fun v' s' ⟨e1,e2⟩=>by rw[e1,e2];exact h
  ·exact hE _ _ _ _ h
theorem ecallT_sound(hm:P.follows .mixedOrders=true){orc:Orc M}(ho:OrcOk P w0 orc):∀ (n:Nat) (f:Tg) (args:Array Value) (s:St M) (K:Value→St M→Res),(ecallT P orc n f args s K).holds→CTg P w0 f args s fun v s=>(K v s).holds:=by
 intro n
 induction n with
 |zero=>intro f args s K h;exact h.elim
 |succ n ih =>
  intro f args s K h
  cases f with
  |fn f =>
   simp only[ecallT]at h
   split at h
   ·rename_i fn hf
    split at h
    ·rename_i c hc
     rw[lforce_eq]at h
     have e0:({ tmps:=args++Array.replicate (fn.ntmps - args.size) undef,defers:=[] }:Act)=lact (args.toList++List.replicate (fn.ntmps - args.size) undef):=by
      unfold lact;congr 1;apply Array.ext';simp
     refine ccalls_enter hf hc ?_
     rw[e0]
     refine cwp_mono ?_ ((ecode_sound hm (etg_sound ho ih) _ _ _ _ _ _).1 h)
     rintro e _ s ⟨l,rfl,hq⟩
     cases e<;>simp only[ebody]at hq<;>(try (exact hq.elim))<;>simp only[cbody,lact] <;>
      (cases hr:cresults P fn ⟨l⟩ s with
       |some v=>rw[hr]at hq;exact hq
       |none=>rw[hr]at hq;exact hq.elim)
    ·exact h.elim
   ·exact h.elim
  |yl l =>
   simp only[ecallT]at h
   split at h
   case h_2=>exact h.elim
   rename_i ps tmps as bd hat
   simp only[Res.guard_holds,beq_iff_eq,lforce_eq]at h
   have e0:∀ (z:List (Tmp×Value)) (t:Array Value),({ tmps:=z.foldl (fun t (p,v)=>t.setIfInBounds p v) t,defers:=[] }:Act)=lact (z.foldl (fun t (p,v)=>t.set p v) t.toList):=by
    intro z
    induction z with
    |nil=>intro t;rfl
    |cons x z ihz =>
     intro t
     simp only[List.foldl_cons]
     rw[ihz]
     congr 2
     simp
   refine cround_enter hat h.1 ?_
   rw[e0]
   refine cwp_mono ?_ ((ecode_sound hm (etg_sound ho ih) _ _ _ _ _ _).1 h.2)
   rintro e _ s ⟨t,rfl,hq⟩
   cases e<;>simp only[eassignPost]at hq<;>(try (exact hq.elim))
   simp only[cassignPost,cbeginRound]
   split at hq
   case h_2=>exact hq.elim
   rename_i hat1
   rw[hat1]
   refine cwp_mono ?_ ((ecode_sound hm (etg_sound ho ih) _ _ _ _ _ _).1 hq)
   rintro e _ s ⟨t,rfl,hq⟩
   cases e<;>simp only[eroundPost]at hq<;>(try (exact hq.elim))<;>exact eendRound_sound hq
theorem ecall_sound(hm:P.follows .mixedOrders=true)(n:Nat)(f:FuncId)(args:Array Value)(s:St M)(K:Value→St M→Res)(h:(ecall P n f args s K).holds):QC P w0 f args s fun v s=>(K v s).holds:=
 ecallT_sound hm (fun _ _ _ _ h=>by cases h) n (.fn f) args s K h
def St.empty:St AL:={ mem:=⟨.leaf,fun _=>none⟩,next:=0 }
theorem St.empty_at(b:Nat):St.empty.at' b=none:=by
 show (match Nat.blt b trMax with|true=>trGet trMax .leaf b|false=>none)=none
 split
 ·exact trGet_leaf _ _
 ·rfl
theorem Rel.empty(w:World):Rel P w (fun _=>none) St.empty w:=
 ⟨fun _ _ h=>(by cases h),fun _ _ h=>(by cases h),fun _ _ _ h=>(by cases h),fun _ _ _ h=>(by cases h),fun _ _ _ _ _ _ h=>(by cases h),Go.RowKit.Below.refl _ _,(fun b _=>St.empty_at b),(fun _ _ h=>(by cases h)),(fun _ _ h=>(by cases h))⟩
def trial(P:Program)(f:FuncId):Res:=ecall (M:=AL) P 400 f #[] St.empty fun v _=>match v with | .bool b => .of b|_ => .no
theorem calls_true(hm:P.follows .mixedOrders=true){f:FuncId}(h2:trial P f=(trial P f).dup)(w:World) :
  Calls P f #[] w fun e w'=>e = .returned (.bool true)∧Below w.heap.size w w':=by
 refine (ecall_sound (w0:=w) hm 400 f #[] St.empty _ (Res.holds_dup _ h2) _ w #[] (Rel.empty w) ⟨rfl,fun i hi=>by simp at hi⟩).mono ?_
 rintro e w' ⟨v,s',ρ',v',rfl,hk,hvr,hR,_⟩
 split at hk
 ·rw[Res.of_holds]at hk
  subst hk;exact⟨by rw[hvr.bool_inv],hR.below⟩
 ·exact hk.elim
theorem ccalls_of_closed{f:FuncId}{s:St M}(h:∀ w,Calls P f #[] w fun e w'=>e = .returned (.bool true)∧Below w.heap.size w w'):QC P w0 f #[] s fun v s'=>v = .bool true∧s'=s:=by
 intro ρ w args' hR ha
 have:args'=#[]:=by have:=ha.1;simp at this;exact Array.eq_empty_of_size_eq_zero this.symm
 subst this
 refine (h w).mono ?_
 rintro e w' ⟨rfl,hB⟩
 refine⟨_,s,ρ,_,rfl,⟨rfl,rfl⟩,.bool true,?_,Ext.refl _ _⟩
 refine⟨hR.dom,fun b i hb=>Nat.lt_of_lt_of_le (hR.lt b i hb) hB.size,fun b i B hb hB2=>?_,hR.own,hR.inj,hR.below.trans (hB.mono hR.below.size),hR.fresh,(fun b i hb hk=>?_),(fun b i hb hk=>?_)⟩
 ·obtain⟨o,ho,hr⟩:=hR.blk b i B hb hB2
  exact⟨o,by rw[hB.block _ (hR.lt b i hb)];exact ho,hr⟩
 ·obtain⟨h1,h2⟩:=hR.one b i hb hk
  exact⟨by rw[hB.block _ (hR.lt b i hb)];exact h1,h2⟩
 ·obtain⟨r,hr⟩:=hR.two b i hb hk
  exact⟨r,by rw[hB.block _ (hR.lt b i hb)];exact hr⟩
end
end Go.Cs
namespace Go.Cs
abbrev Env:=Nat→Value
def wev(env:Env):Operand→Value
 |.tmp t=>env t
 |.const v=>v
 |.global g => .pointer (some ⟨g,0,none⟩)
 |.func f => .func (.func f) #[] #[]
def upd(env:Env)(d:Nat)(v:Value):Env:=fun t=>if t=d then v else env t
theorem upd_apply(env:Env)(d:Nat)(v:Value)(t:Nat):upd env d v t=if t=d then v else env t:=rfl
def wput(env:Env)(d:Option Tmp)(v:Value):Env:=
 match d with
 |some d=>upd env d v
 |none=>env
def init(l:List Value):Env:=fun t=>l.getD t undef
theorem upd_self{env:Env}{d:Nat}{v:Value}(h:env d=v):upd env d v=env:=by
 funext t
 unfold upd
 split
 ·rename_i e;rw[e,h]
 ·rfl
def both(t:Bool)(p q:Prop):Prop:=(t=true→p)∧(t=false→q)
def must(o:Option Value)(K:Value→Prop):Prop:=∃ v,o=some v∧K v
section
variable {M:Type}[Mem M](P:Program)(w0:World)
def shape(t:TypeId)(v:Value)(K:Value→Prop):Prop:=
 match P.underlying t with
 |some (.int k)=>∃ n,v = .int k n∧K (.int k n)
 |some .bool=>∃ b,v = .bool b∧K (.bool b)
 |some .string=>∃ x,v = .string x∧K (.string x)
 |_=>K v
def wbin(op:BinOp)(t:TypeId)(ox oy:Operand)(x y:Value)(K:Value→Prop):Prop:=
 match op,x,y with
 |.add,.int k a,.int k' b=>k=k'∧K (.int k (k.wrap (a+b)))
 |.sub,.int k a,.int k' b=>k=k'∧K (.int k (k.wrap (a - b)))
 |.mul,.int k a,.int k' b=>k=k'∧K (.int k (k.wrap (a*b)))
 |.quo,.int k a,.int k' b=>k=k'∧b≠0∧K (.int k (k.wrap (a.tdiv b)))
 |.rem,.int k a,.int k' b=>k=k'∧b≠0∧K (.int k (a.tmod b))
 |.shl,.int k a,.int _ b=>0≤b∧K (.int k (k.wrap (a*2 ^ (min b.toNat k.bits))))
 |.shr,.int k a,.int _ b=>0≤b∧K (.int k (a.fdiv (2 ^ (min b.toNat k.bits))))
 |.eql,.int k a,.int k' b=>k=k'∧K (.bool (decide (a=b)))
 |.neq,.int k a,.int k' b=>k=k'∧K (.bool (!decide (a=b)))
 |.lss,.int k a,.int k' b=>k=k'∧K (.bool (decide (a<b)))
 |.leq,.int k a,.int k' b=>k=k'∧K (.bool (decide (a≤b)))
 |.gtr,.int k a,.int k' b=>k=k'∧K (.bool (decide (b<a)))
 |.geq,.int k a,.int k' b=>k=k'∧K (.bool (decide (b≤a)))
 |.add,.string a,.string b=>a.size+b.size≤9223372036854775807∧K (.string (a++b))
 |.eql,.string a,.string b=>K (.bool (decide (a=b)))
 |.neq,.string a,.string b=>K (.bool (!decide (a=b)))
 |op,x,y=>must (cbin P op t ox oy x y) K
def wpu(o:Oper)(ev:Operand→Value)(K:Value→Prop):Prop:=
 match o.op with
 |.move x=>K (ev x)
 |.assign x=>K (ev x)
 |.pick c a b=>match ev c with
  |.bool t=>both t (K (ev a)) (K (ev b))
  |_=>False
 |.binOp op t x y _=>wbin P op t x y (ev x) (ev y) K
 |.convert src dst x=>match ev x with
  |.int _ n=>match P.underlying src,P.underlying dst with
   |some _,some (.int k)=>K (.int k (k.wrap n))
   |_,_=>False
  |.string b=>match P.underlying src,P.underlying dst with
   |some _,some .string=>K (.string b)
   |_,_=>False
  |_=>must (cpure P ev o.type o.op) K
 |.indexAddr t x ix=>match P.underlying t,ev x,ev ix with
  |some (.slice e),.slice (some a) n _,.int _ i=>(P.info? e).isSome=true∧0≤i∧i<n∧K (.pointer (some (a.add (i.toNat*P.cellsOf e))))
  |_,_,_=>must (cpure P ev o.type o.op) K
 |_=>must (cpure P ev o.type o.op) K
inductive Kd where
 |pu|rd|al|ef|ca|pr
 deriving DecidableEq
def kindOf(ev:Operand→Value):Op→Kd
 |.load _ _ => .rd
 |.lookup _ _ _ _ => .rd
 |.alloc _ => .al
 |.box _ _ => .al
 |.buildSlice _ _ _ => .al
 |.makeMap _ _ => .al
 |.makeSlice _ _ _ => .al
 |.range _ _ => .al
 |.store _ _ _ => .ef
 |.mapUpdate _ _ _ _ => .ef
 |.insert _ _ _ _ => .ef
 |.next _ _ => .ef
 |.slice _ _ _ _ _ => .pr
 |.binOp .eql _ x y _=>match ev x,ev y with
  |.pointer (some _),.pointer (some _) => .rd
  |_,_ => .pu
 |.binOp .neq _ x y _=>match ev x,ev y with
  |.pointer (some _),.pointer (some _) => .rd
  |_,_ => .pu
 |.convert _ dst x=>match ev x with
  |.int _ _ => .pu
  |.string _=>match P.underlying dst with
   |some .string => .pu
   |_ => .al
  |_ => .rd
 |.call c=>match c.callee with
  |.builtin .append => .ef
  |.builtin .delete => .ef
  |.builtin .copy => .ef
  |.builtin .clear => .ef
  |.builtin .unsafeString => .ef
  |.builtin .len => .pr
  |.builtin _ => .pu
  |_ => .ca
 |_ => .pu
def wop(o:Oper)(ev:Operand→Value)(s:St M)(K:Value→St M→Prop):Prop:=
 match kindOf P ev o.op with
 |.pu=>wpu P o ev fun v=>K v s
 |.rd=>must (cread P ev s o.op) fun v=>shape P o.type v fun v=>K v s
 |.al=>∃ B f,calloc P ev o.op=some (B,f)∧K (f s.next) (s.new B)
 |.ef=>∃ v s',ceff P ev s o.op=some (v,s')∧K v s'
 |.pr=>must (cpure P ev o.type o.op) (fun v=>K v s)∨must (cread P ev s o.op) (fun v=>K v s)
 |.ca=>match o.op with
  |.call c=>match ccallee P ev c with
   |some (f,args)=>QC P w0 f args s fun v s'=>shape P o.type v fun v=>K v s'
   |none=>match cyield ev c with
    |some (l,args)=>CRound P w0 l args s fun v s'=>shape P o.type v fun v=>K v s'
    |none=>∃ v s',ceff P ev s (.call c)=some (v,s')∧K v s'
  |_=>False
def wfop(o:Oper)(ev:Operand→Value)(s:St M)(K:Value→St M→Option Value→Prop):Prop:=
 match kindOf P ev o.op with
 |.pu=>wpu P o ev fun v=>K v s none
 |.rd=>must (cread P ev s o.op) fun v=>shape P o.type v fun v=>K v s (some v)
 |.al=>∃ B f,calloc P ev o.op=some (B,f)∧K (f s.next) (s.new B) none
 |.pr=>must (cpure P ev o.type o.op) (fun v=>K v s none)∨must (cread P ev s o.op) (fun v=>K v s (some v))
 |_=>False
def wguard(ops:Array Oper)(o:Oper)(env:Env)(yes no:Env→Prop):Prop:=
 match o.guard with
 |none=>yes env
 |some (j,want)=>match (ops[j]?).bind (·.dst) with
  |none=>no env
  |some d=>match env d with
   |.bool b=>(b=want→yes (upd env d (.bool want)))∧(b = !want→no (upd env d (.bool !want)))
   |.tuple cs=>cs.size≠1∧no env
   |_=>no env
def wreg(ops:Array Oper)(Q:Env→St M→Prop):List Oper→Env→St M→Prop
 | [],env,s=>Q env s
 |o::rest,env,s=>wguard ops o env (fun env=>wop P w0 o (wev env) s fun v s'=>wreg ops Q rest (wput env o.dst v) s') (fun env=>wreg ops Q rest (wput env o.dst undef) s)
structure DI where
 i:Nat
 act:Bool
 chk:List Nat
structure WF where
 i:Nat
 op:Op
 env:Env
 v:Option Value
def wstill(chk:List Nat)(s:St M):List WF→Prop→Prop
 | [],K=>K
 |f::l,K=>match f.v with
  |none=>wstill chk s l K
  |some v=>match chk.contains f.i with
   |true=>cread P (wev f.env) s f.op=some v∧wstill chk s l K
   |false=>wstill chk s l K
def wregD(ops:Array Oper)(Q:Env→St M→Prop):List DI→List WF→Env→St M→Prop
 | [],_,env,s=>Q env s
 |d::rest,fl,env,s=>match ops[d.i]? with
  |none=>False
  |some o=>match d.act with
   |true=>wguard ops o env (fun env=>wop P w0 o (wev env) s fun v s'=>wstill P d.chk s' fl (wregD ops Q rest fl (wput env o.dst v) s')) (fun env=>wregD ops Q rest fl (wput env o.dst undef) s)
   |false=>wguard ops o env (fun env=>wfop P o (wev env) s fun v s' r=>wregD ops Q rest (⟨d.i,o.op,env,r⟩::fl) (wput env o.dst v) s') (fun env=>wregD ops Q rest (⟨d.i,o.op,env,none⟩::fl) (wput env o.dst undef) s)
end
section
variable {M:Type}[Mem M]{P:Program}{w0:World}
theorem pureRun_underlying{t:TypeId}{d:TypeDesc}(h:P.underlying t=some d):pureRun P (underlying t)=some d:=by
 simp only[underlying,program,pureRun_bind]
 show (some P).bind (fun a=>pureRun P (match a.underlying t with|some d=>pure d|none=>stuck "no such type"))=some d
 simp only[Option.bind_some,h]
 rfl
theorem shape_of{t:TypeId}{v:Value}{K:Value→Prop}(h:shape P t v K):K v:=by
 unfold shape at h
 split at h
 ·obtain⟨n,rfl,h⟩:=h;exact h
 ·obtain⟨n,rfl,h⟩:=h;exact h
 ·obtain⟨n,rfl,h⟩:=h;exact h
 ·exact h
theorem decide_ba(a b:ByteArray):(a.toList == b.toList)=decide (a=b):=by
 rw[Bool.eq_iff_iff]
 simp only[beq_iff_eq,decide_eq_true_eq,ByteArray.toList_eq]
 exact⟨fun h=>ByteArray.ext (Array.ext' h),fun h=>by rw[h]⟩
theorem wbin_of{op:BinOp}{t:TypeId}{ox oy:Operand}{x y:Value}{K:Value→Prop}(h:wbin P op t ox oy x y K):∃ v,cbin P op t ox oy x y=some v∧K v:=by
 unfold wbin at h
 split at h
 all_goals first
  |exact h
  |skip
 all_goals first
  |(obtain⟨rfl,h⟩:=h;exact⟨_,by simp only[cbin,if_true];rfl,by first|exact h|(simpa [beq_eq_decide] using h)⟩)
  |skip
 ·obtain⟨rfl,h0,h⟩:=h
  exact⟨_,by simp only[cbin,if_true,pure6,Go.binOp,ne_eq,not_true_eq_false,if_false,Op.intDiv,h0];rfl,h⟩
 ·obtain⟨rfl,h0,h⟩:=h
  exact⟨_,by simp only[cbin,if_true,pure6,Go.binOp,ne_eq,not_true_eq_false,if_false,Op.intDiv,h0];rfl,h⟩
 ·obtain⟨h0,h⟩:=h
  rename_i k a k' b
  refine⟨_,?_,h⟩
  have:¬ b<0:=oM
  simp only[cbin,pure6,Go.binOp,Op.shift,this,if_false]
  split<;>rfl
 ·obtain⟨h0,h⟩:=h
  rename_i k a k' b
  refine⟨_,?_,h⟩
  have:¬ b<0:=oM
  simp only[cbin,pure6,Go.binOp,Op.shift,this,if_false]
  split<;>rfl
 ·obtain⟨h0,h⟩:=h
  rename_i a b
  refine⟨_,?_,h⟩
  have h1:¬ (((a.size+b.size:Nat):Int)>IntKind.i64.max):=by simp[IntKind.max,IntKind.bits,IntKind.signed];omega
  simp only[cbin,plain,and_self,if_true,pure6,eqGuard,Go.binOp,Op.stringOp,h1,if_false]
  rfl
 ·rename_i a b
  refine⟨_,?_,h⟩
  rw[← decide_ba]
  rfl
 ·rename_i a b
  refine⟨_,?_,h⟩
  rw[← decide_ba]
  rfl
theorem cpure_bin{o:Oper}{ev:Operand→Value}{op:BinOp}{t yt:TypeId}{x y:Operand}(ho:o.op = .binOp op t x y yt):cpure P ev o.type o.op=cbin P op t x y (ev x) (ev y):=by rw[ho];rfl
theorem wpu_of{o:Oper}{ev:Operand→Value}{K:Value→Prop}(h:wpu P o ev K):∃ v,cpure P ev o.type o.op=some v∧K v:=by
 unfold wpu at h
 split at h
 case h_1 x hx=>exact⟨ev x,by rw[hx];rfl,h⟩
 case h_2 x hx=>exact⟨ev x,by rw[hx];rfl,h⟩
 case h_3 c a b hx =>
  split at h
  ·rename_i t ht
   refine⟨if t then ev a else ev b,by rw[hx];simp only[cpure,ht],?_⟩
   cases t
   ·exact h.2 rfl
   ·exact h.1 rfl
  ·exact h.elim
 case h_4 op t x y yt hx =>
  obtain⟨v,h1,h2⟩:=wbin_of h
  exact⟨v,by rw[cpure_bin hx];exact h1,h2⟩
 case h_5 src dst x hx =>
  split at h
  ·rename_i k0 n hn
   split at h
   ·rename_i d k hs hk
    refine⟨_,?_,h⟩
    rw[hx]
    simp only[cpure,hn,plain,if_true,pure6,Go.convert,pureRun_bind,pureRun_underlying hs,pureRun_underlying hk,Option.bind_some,Conv.intToInt,pureRun_pure]
   ·exact h.elim
  ·rename_i b hb
   split at h
   ·rename_i d hs hk
    refine⟨_,?_,h⟩
    rw[hx]
    simp only[cpure,hb,plain,if_true,pure6,Go.convert,pureRun_bind,pureRun_underlying hs,pureRun_underlying hk,Option.bind_some,pureRun_pure]
   ·exact h.elim
  ·exact h
 case h_6 t x ix hx =>
  split at h
  ·rename_i e a n c k i hu hxa hix
   obtain⟨h1,h2,h3,h4⟩:=h
   obtain⟨ie,hie⟩:=Option.isSome_iff_exists.1 h1
   refine⟨_,?_,h4⟩
   rw[hx]
   simp only[cpure,hxa,hix,cidxAddr,hu,hie,h2,h3,and_self,if_true,cellsOf_info hie]
  ·exact h
 case h_7=>exact h
theorem wop_sound{o:Oper}{ev:Operand→Value}{s:St M}{K:Value→St M→Prop}(h:wop P w0 o ev s K):cstep P w0 o ev s K:=by
 unfold wop at h
 split at h
 ·obtain⟨v,h1,h2⟩:=wpu_of h;exact .inl ⟨v,h1,h2⟩
 ·obtain⟨v,h1,h2⟩:=h;exact .inr (.inl ⟨v,h1,shape_of h2⟩)
 ·obtain⟨B,f,h1,h2⟩:=h;exact .inr (.inr (.inl ⟨B,f,h1,h2⟩))
 ·obtain⟨v,s',h1,h2⟩:=h;exact .inr (.inr (.inr (.inl ⟨v,s',h1,h2⟩)))
 ·rcases h with ⟨v,h1,h2⟩|⟨v,h1,h2⟩
  ·exact .inl ⟨v,h1,h2⟩
  ·exact .inr (.inl ⟨v,h1,h2⟩)
 ·split at h
  ·rename_i c hc
   split at h
   ·rename_i f args hf
    refine .inr (.inr (.inr (.inr ?_)))
    rw[hc]
    simp only[ccall]
    rw[hf]
    exact QC.mono h fun v s' hk=>shape_of hk
   ·rename_i hn
    split at h
    ·rename_i l args hy
     refine .inr (.inr (.inr (.inr ?_)))
     rw[hc]
     simp only[ccall]
     rw[hn,hy]
     exact CRound.mono h fun v s' hk=>shape_of hk
    ·obtain⟨v,s',h1,h2⟩:=h
     exact .inr (.inr (.inr (.inl ⟨v,s',by rw[hc];exact h1,h2⟩)))
  ·exact h.elim
theorem wfop_sound{o:Oper}{ev:Operand→Value}{s:St M}{K:Value→St M→Option Value→Prop}(h:wfop P o ev s K):fstep P o ev s K:=by
 unfold wfop at h
 split at h
 ·obtain⟨v,h1,h2⟩:=wpu_of h;exact .inl ⟨v,h1,h2⟩
 ·obtain⟨v,h1,h2⟩:=h;exact .inr (.inl ⟨v,h1,shape_of h2⟩)
 ·obtain⟨B,f,h1,h2⟩:=h;exact .inr (.inr ⟨B,f,h1,h2⟩)
 ·rcases h with ⟨v,h1,h2⟩|⟨v,h1,h2⟩
  ·exact .inl ⟨v,h1,h2⟩
  ·exact .inr (.inl ⟨v,h1,h2⟩)
 ·exact h.elim
end
end Go.Cs
namespace Go.Cs
abbrev Ord:=List (Nat×List DI)
def ordOf:Ord→Nat→List DI
 | [],_=>[]
 |(a,l)::rest,k=>if a=k then l else ordOf rest k
def dstOk(n:Nat):Option Tmp→Bool
 |none=>true
 |some d=>d<n
def chkOk(bf:Array Nat):List DI→List Nat→Bool
 | [],_=>true
 |d::rest,fl=>match d.act with
  |true=>(fl.all fun j=>(bf.getD d.i 0).testBit j || d.chk.contains j) && chkOk bf rest fl
  |false=>chkOk bf rest (d.i::fl)
def codeOk(P:Program)(ord:Ord)(n:Nat):Code→Bool
 |.skip=>true
 |.region _ ops false=>ops.toList.all fun o=>o.op.operands.all opOk && dstOk n o.dst
 |.region id ops true=>(ops.toList.all fun o=>o.op.operands.all opOk && dstOk n o.dst) && drawOk P ops ((ordOf ord id).map (·.i)) && ((ordOf ord id).all fun d=>match ops[d.i]? with
   |none=>false
   |some o=>acts P o == d.act) && chkOk (Region.before ops) (ordOf ord id) []
 |.seq x y=>codeOk P ord n x && codeOk P ord n y
 |.cond c x y=>opOk c && codeOk P ord n x && codeOk P ord n y
 |.block _ c=>codeOk P ord n c
 |.loop c=>codeOk P ord n c
 |.scope c=>codeOk P ord n c
 |.exit _=>true
 |.label _=>true
 |.goto _=>true
 |.ret=>true
 |.refuse _=>true
 |.rangeFunc g ps as bd=>opOk g && ps.all (fun p=>p<n) && codeOk P ord n as && codeOk P ord n bd
structure AEnv(n:Nat)(env:Env)(a:Act):Prop where
 size:a.tmps.size=n
 d:a.defers=[]
 t:∀ t,a.tmps.getD t undef=env t
section
variable {M:Type}[Mem M](P:Program)(w0:World)(ord:Ord)(n:Nat)
def wlift(Q:Exit→Env→St M→Prop):Exit→Act→St M→Prop:=fun e a s=>∃ env,AEnv n env a∧Q e env s
def WLoop(c:Code)(Q:Exit→Env→St M→Prop)(env:Env)(s:St M):Prop:=
 codeOk P ord n c=true→∀ a,AEnv n env a→CLoop P w0 c (wlift n Q) a s
def WScope(c x:Code)(Q:Exit→Env→St M→Prop)(env:Env)(s:St M):Prop:=
 codeOk P ord n c=true→codeOk P ord n x=true→∀ a,AEnv n env a→CScope P w0 c x (wlift n Q) a s
def wthen(K:Env→St M→Prop)(Q:Exit→Env→St M→Prop):Exit→Env→St M→Prop
 |.normal,env,s=>K env s
 |e,env,s=>Q e env s
def wblock(id:Nat)(Q:Exit→Env→St M→Prop):Exit→Env→St M→Prop
 |.exit j,env,s=>if j=id then Q .normal env s else Q (.exit j) env s
 |e,env,s=>Q e env s
def wcond(c:Operand)(env:Env)(p q:Env→Prop):Prop:=
 match c with
 |.tmp t=>match env t with
  |.bool b=>(b=true→p (upd env t (.bool true)))∧(b=false→q (upd env t (.bool false)))
  |_=>False
 |.const (.bool b)=>(b=true→p env)∧(b=false→q env)
 |_=>False
def arr(n:Nat)(env:Env):Array Value:=((List.range n).map env).toArray
def wpend(Q:Exit→Env→St M→Prop)(env:Env)(s:St M):Option Code→Prop
 |none=>Q .normal env s
 |some .ret=>Q .ret env s
 |some (.exit id)=>Q (.exit id) env s
 |some (.goto l)=>Q (.goto l) env s
 |_=>False
def WRange(g:Operand)(ps:Array Tmp)(as bd:Code)(Q:Exit→Env→St M→Prop)(env:Env)(s:St M):Prop:=
 codeOk P ord n (.rangeFunc g ps as bd)=true→(∀ t,n≤t→env t=undef)→match ccallee P (wev env) (rangeCall g (s.next+1)) with
  |some (f,args)=>QC P w0 f args (s.skip.new (.loop .ready none ps (arr n env) as bd)) fun _ s3=>cendLoop (s.next+1) (fun jump s4=>wpend Q env s4 jump) s3
  |none=>False
def wvc:Code→(Exit→Env→St M→Prop)→Env→St M→Prop
 |.skip,Q,env,s=>Q .normal env s
 |.region _ ops false,Q,env,s=>wreg P w0 ops (Q .normal) ops.toList env s
 |.region id ops true,Q,env,s=>wregD P w0 ops (Q .normal) (ordOf ord id) [] env s
 |.seq x y,Q,env,s=>wvc x (wthen (wvc y Q) Q) env s
 |.cond c x y,Q,env,s=>wcond c env (fun env=>wvc x Q env s) (fun env=>wvc y Q env s)
 |.block id c,Q,env,s=>wvc c (wblock id Q) env s
 |.loop c,Q,env,s=>WLoop P w0 ord n c Q env s
 |.scope c,Q,env,s=>WScope P w0 ord n c c Q env s
 |.exit id,Q,env,s=>Q (.exit id) env s
 |.label _,Q,env,s=>Q .normal env s
 |.goto l,Q,env,s=>Q (.goto l) env s
 |.ret,Q,env,s=>Q .ret env s
 |.rangeFunc g ps as bd,Q,env,s=>WRange P w0 ord n g ps as bd Q env s
 |_,_,_,_=>False
def wresult(env:Env)(s:St M):ResultVar→Option Value
 |.tmp t=>some (env t)
 |.cell a t=>match env a with
  |.pointer (some ad)=>cload P t ad s
  |_=>none
def wresults(env:Env)(s:St M):List ResultVar→Option (List Value)
 | []=>some []
 |r::l=>match wresult P env s r,wresults env s l with
  |some v,some vs=>some (v::vs)
  |_,_=>none
def wret(rs:List ResultVar)(R:Value→St M→Prop)(env:Env)(s:St M):Prop:=
 match wresults P env s rs with
 |some [v]=>R v s
 |some vs=>R (.tuple vs.toArray) s
 |none=>False
def wbody(rs:List ResultVar)(R:Value→St M→Prop):Exit→Env→St M→Prop
 |.normal,env,s=>wret P rs R env s
 |.ret,env,s=>wret P rs R env s
 |_,_,_=>False
end
section
variable {M:Type}[Mem M]{P:Program}{w0:World}{ord:Ord}{n:Nat}{env:Env}{a:Act}{s:St M}
theorem AEnv.eval(h:AEnv n env a):a.eval=wev env:=by
 funext x
 cases x with
 |tmp t=>simp only[Act.eval,wev];exact h.t t
 |_=>rfl
theorem AEnv.put(h:AEnv n env a){d:Option Tmp}(hd:dstOk n d=true)(v:Value):AEnv n (wput env d v) (a.put d v):=by
 refine⟨by rw[put_size];exact h.size,by cases d<;>exact h.d,fun t=>?_⟩
 cases d with
 |none=>exact h.t t
 |some d =>
  have hd:d<n:=by simpa [dstOk] using hd
  by_cases e:t=d
  ·subst e
   simp only[Act.put,wput,upd,if_true]
   rw[Array.getD_eq_getD_getElem?,Array.getElem?_setIfInBounds,if_pos rfl,if_pos (by rw[h.size];exact hd)]
   rfl
  ·rw[put_getD (Ne.symm e)]
   simp only[wput,upd,e,if_false]
   exact h.t t
theorem wguard_spec{ops:Array Oper}{o:Oper}{yes no:Env→Prop}(h:AEnv n env a)(hg:wguard ops o env yes no):(cwanted ops o a.tmps=some true∧yes env)∨(cwanted ops o a.tmps=some false∧no env):=by
 unfold wguard at hg
 unfold cwanted
 split at hg
 ·rename_i e;rw[e];exact .inl ⟨rfl,hg⟩
 ·rename_i j want e
  rw[e]
  dsimp only
  split at hg
  ·rename_i e2;rw[e2];exact .inr ⟨rfl,hg⟩
  ·rename_i d e2
   rw[e2]
   dsimp only
   have ht:=h.t d
   rw[Array.getD_eq_getD_getElem?]at ht
   split at hg
   ·rename_i b hb
    rw[hb]at ht
    cases hd:a.tmps[d]? with
    |none=>rw[hd]at ht;simp[undef]at ht
    |some x =>
     rw[hd]at ht
     simp only[Option.getD_some]at ht
     subst ht
     dsimp only
     by_cases e3:b=want
     ·subst e3
      left
      refine⟨by simp,?_⟩
      have:=hg.1 rfl
      rwa [upd_self hb]at this
     ·have e4:b = !want:=by cases b<;>cases want<;>simp_all
      right
      refine⟨by simp[e3],?_⟩
      have:=hg.2 e4
      rw[← e4,upd_self hb]at this
      exact this
   ·rename_i cs hb
    rw[hb]at ht
    cases hd:a.tmps[d]? with
    |none=>exact .inr ⟨rfl,hg.2⟩
    |some x =>
     rw[hd]at ht
     simp only[Option.getD_some]at ht
     subst ht
     exact .inr ⟨by simp[hg.1],hg.2⟩
   ·rename_i h1 h2
    cases hd:a.tmps[d]? with
    |none=>exact .inr ⟨rfl,hg⟩
    |some x =>
     rw[hd]at ht
     simp only[Option.getD_some]at ht
     subst ht
     right
     refine⟨?_,hg⟩
     generalize env d=x at h1 h2
     cases x with
     |bool b=>exact absurd rfl (h1 b)
     |tuple cs=>exact absurd rfl (h2 cs)
     |_=>rfl
theorem wreg_of{ops:Array Oper}{Q:Env→St M→Prop}(ho:∀ o∈ops.toList,o.op.operands.all opOk=true∧dstOk n o.dst=true):∀ (l:List Oper) (k:Nat),l=ops.toList.drop k→∀ (env:Env) (a:Act) (s:St M),AEnv n env a→wreg P w0 ops Q l env s →
  cregion P w0 ops (fun a s=>∃ env,AEnv n env a∧Q env s) (List.range' k l.length) a s:=by
 intro l
 induction l with
 |nil=>intro k _ env a s ha h;exact⟨env,ha,h⟩
 |cons o rest ih =>
  intro k hk env a s ha h
  have hko:ops[k]?=some o:=by
   have:=List.head?_drop (l:=ops.toList) (i:=k)
   rw[← hk]at this
   simpa using this.symm
  have hmem:o∈ops.toList:=List.mem_of_mem_drop (i:=k) (by rw[← hk];simp)
  obtain⟨h1,h2⟩:=ho o hmem
  have hrest:rest=ops.toList.drop (k+1):=by
   have:(ops.toList.drop k).tail=rest:=by rw[← hk];rfl
   rw[← this,List.tail_drop]
  simp only[List.length_cons,List.range'_succ,cregion,hko]
  unfold wreg at h
  rcases wguard_spec ha h with ⟨h3,h4⟩|⟨h3,h4⟩
  ·rw[h3,h1,ha.eval]
   exact cstep_mono (fun v s' hv=>ih (k+1) hrest _ _ _ (ha.put h2 v) hv) (wop_sound h4)
  ·rw[h3]
   exact ih (k+1) hrest _ _ _ (ha.put h2 undef) h4
def flOf(fl:List WF):List (Fl M):=fl.map fun f=>⟨f.i,f.op,wev f.env,f.v⟩
theorem wstill_of{bf:Array Nat}{i:Nat}{chk:List Nat}{s:St M}{K K':Prop}(hk:K→K'):∀ (fl:List WF),(fl.all fun f=>(bf.getD i 0).testBit f.i || chk.contains f.i)=true→wstill P chk s fl K →
  stillAll P s ((flOf fl).filter fun f => !(bf.getD i 0).testBit f.i) K':=by
 intro fl
 induction fl with
 |nil=>intro _ h;exact hk h
 |cons f fl ih =>
  intro hc h
  simp only[List.all_cons,Bool.and_eq_true,Bool.or_eq_true]at hc
  obtain⟨h1,h2⟩:=hc
  unfold wstill at h
  simp only[flOf,List.map_cons,List.filter_cons]
  cases hb:(bf.getD i 0).testBit f.i with
  |true =>
   simp only[Bool.not_true,Bool.false_eq_true,if_false]
   split at h
   ·exact ih h2 h
   ·split at h
    ·exact ih h2 h.2
    ·exact ih h2 h
  |false =>
   simp only[Bool.not_false,if_true,stillAll]
   rw[hb]at h1
   have h1:chk.contains f.i=true:=by simpa using h1
   split at h
   ·rename_i e;rw[e];exact ih h2 h
   ·rename_i v e
    rw[h1]at h
    rw[e]
    exact⟨h.1,ih h2 h.2⟩
theorem fstep_mono{o:Oper}{ev:Operand→Value}{K K':Value→St M→Option Value→Prop}(hk:∀ v s' r,K v s' r→K' v s' r)(h:fstep P o ev s K):fstep P o ev s K':=by
 rcases h with ⟨v,h1,h2⟩|⟨v,h1,h2⟩|⟨B,f,h1,h2⟩
 ·exact .inl ⟨v,h1,hk _ _ _ h2⟩
 ·exact .inr (.inl ⟨v,h1,hk _ _ _ h2⟩)
 ·exact .inr (.inr ⟨B,f,h1,hk _ _ _ h2⟩)
theorem wregD_of{ops:Array Oper}{bf:Array Nat}{Q:Env→St M→Prop}(ho:∀ o∈ops.toList,o.op.operands.all opOk=true∧dstOk n o.dst=true):∀ (l:List DI) (fl:List WF),(∀ d∈l,∀ o,ops[d.i]?=some o→acts P o=d.act)→chkOk bf l (fl.map (·.i))=true →
  ∀ (env:Env) (a:Act) (s:St M),AEnv n env a→wregD P w0 ops Q l fl env s →
  cregionD P w0 ops bf (fun a s=>∃ env,AEnv n env a∧Q env s) (l.map (·.i)) (flOf fl) a s:=by
 intro l
 induction l with
 |nil=>intro fl _ _ env a s ha h;exact⟨env,ha,h⟩
 |cons d rest ih =>
  intro fl hact hchk env a s ha h
  unfold wregD at h
  simp only[List.map_cons,cregionD]
  split at h
  ·exact h.elim
  ·rename_i o hko
   rw[hko]
   have hmem:o∈ops.toList:=by
    have:=Array.mem_of_getElem? hko
    simpa using this
   obtain⟨h1,h2⟩:=ho o hmem
   have hac:=hact d (by simp) o hko
   have hact':∀ d∈rest,∀ o,ops[d.i]?=some o→acts P o=d.act:=fun d hd=>hact d (by simp[hd])
   unfold chkOk at hchk
   dsimp only
   split at h
   ·rename_i hd
    rw[hd]at hchk hac
    simp only[Bool.and_eq_true]at hchk
    rcases wguard_spec ha h with ⟨h3,h4⟩|⟨h3,h4⟩
    ·rw[h3,h1,ha.eval]
     simp only[hac,if_true]
     refine cstep_mono (fun v s' hv=>?_) (wop_sound h4)
     refine wstill_of (fun hv=>ih fl hact' hchk.2 _ _ _ (ha.put h2 v) hv) fl ?_ hv
     have:=hchk.1
     rw[List.all_map]at this
     exact this
    ·rw[h3]
     simp only[hac,if_true]
     exact ih fl hact' hchk.2 _ _ _ (ha.put h2 undef) h4
   ·rename_i hd
    rw[hd]at hchk hac
    dsimp only at hchk
    rcases wguard_spec ha h with ⟨h3,h4⟩|⟨h3,h4⟩
    ·rw[h3,h1,ha.eval]
     simp only[hac,Bool.false_eq_true,if_false]
     exact fstep_mono (fun v s' r hv=>ih (⟨d.i,o.op,env,r⟩::fl) hact' hchk _ _ _ (ha.put h2 v) hv) (wfop_sound h4)
    ·rw[h3]
     simp only[hac,Bool.false_eq_true,if_false]
     rw[ha.eval]
     exact ih (⟨d.i,o.op,env,none⟩::fl) hact' hchk _ _ _ (ha.put h2 undef) h4
theorem AEnv.arr(h:AEnv n env a):a.tmps=arr n env:=by
 apply Array.ext
 ·simp[Cs.arr,h.size]
 ·intro i h1 h2
  have:=h.t i
  simp only[Array.getD,h1,dif_pos]at this
  simp[Cs.arr]
  exact this
theorem wvc_sound(hm:P.follows .mixedOrders=true):∀ (c:Code) (Q:Exit→Env→St M→Prop) (env:Env) (s:St M) (a:Act),codeOk P ord n c=true→AEnv n env a→wvc P w0 ord n c Q env s→CWp P w0 c (wlift n Q) a s:=by
 intro c
 induction c with
 |skip=>intro Q env s a _ ha h;exact cwp_skip ⟨env,ha,h⟩
 |region id ops draw =>
  intro Q env s a hc ha h
  cases draw with
  |false =>
   simp only[codeOk,List.all_eq_true,Bool.and_eq_true]at hc
   refine cwp_region ?_
   have:=wreg_of (Q:=Q .normal) (fun o ho=>hc o ho) ops.toList 0 rfl env a s ha h
   rw[Array.length_toList,← List.range_eq_range']at this
   exact this
  |true =>
   simp only[codeOk,Bool.and_eq_true]at hc
   obtain⟨⟨⟨h1,h2⟩,h3⟩,h4⟩:=hc
   refine cwp_regionD hm h2 ?_
   refine wregD_of (Q:=Q .normal) (fun o ho=>?_) _ [] (fun d hd o hko=>?_) h4 env a s ha h
   ·simp only[List.all_eq_true,Bool.and_eq_true]at h1;exact h1 o ho
   ·have:=List.all_eq_true.1 h3 d hd
    rw[hko]at this
    simpa using this
 |seq x y ihx ihy =>
  intro Q env s a hc ha h
  simp only[codeOk,Bool.and_eq_true]at hc
  refine cwp_seq (cwp_mono ?_ (ihx _ env s a hc.1 ha h))
  rintro e a2 s2 ⟨env2,ha2,hq⟩
  cases e with
  |normal=>exact ihy Q env2 s2 a2 hc.2 ha2 hq
  |_=>exact⟨env2,ha2,hq⟩
 |cond c x y ihx ihy =>
  intro Q env s a hc ha h
  simp only[codeOk,Bool.and_eq_true]at hc
  simp only[wvc,wcond]at h
  have key:∀ b:Bool,wev env c = .bool b→(b=true→wvc P w0 ord n x Q env s)→(b=false→wvc P w0 ord n y Q env s)→CWp P w0 (.cond c x y) (wlift n Q) a s:=by
   intro b hb h1 h2
   refine cwp_cond hc.1.1 (t:=b) (by rw[ha.eval];exact hb) ?_
   cases b with
   |true=>exact ihx Q env s a hc.1.2 ha (h1 rfl)
   |false=>exact ihy Q env s a hc.2 ha (h2 rfl)
  split at h
  ·rename_i t
   split at h
   ·rename_i b hb
    refine key b hb (fun e=>?_) (fun e=>?_)
    ·subst e;have:=h.1 rfl;rwa [upd_self hb]at this
    ·subst e;have:=h.2 rfl;rwa [upd_self hb]at this
   ·exact h.elim
  ·exact key _ rfl h.1 h.2
  ·exact h.elim
 |block id c ih =>
  intro Q env s a hc ha h
  refine cwp_block (cwp_mono ?_ (ih _ env s a hc ha h))
  rintro e a2 s2 ⟨env2,ha2,hq⟩
  cases e with
  |exit j =>
   simp only[wblock]at hq
   simp only[cblock]
   split at hq
   ·rename_i e;rw[if_pos e];exact⟨env2,ha2,hq⟩
   ·rename_i e;rw[if_neg e];exact⟨env2,ha2,hq⟩
  |_=>exact⟨env2,ha2,hq⟩
 |loop c ih=>intro Q env s a hc ha h;exact cwp_loop (h hc a ha)
 |scope c ih=>intro Q env s a hc ha h;exact cwp_scope (h hc hc a ha)
 |exit id=>intro Q env s a _ ha h;exact cwp_exit ⟨env,ha,h⟩
 |label id=>intro Q env s a _ ha h;exact cwp_label ⟨env,ha,h⟩
 |goto id=>intro Q env s a _ ha h;exact cwp_goto ⟨env,ha,h⟩
 |ret=>intro Q env s a _ ha h;exact cwp_ret ⟨env,ha,h⟩
 |rangeFunc g ps as bd =>
  intro Q env s a hc ha h
  simp only[wvc,WRange]at h
  have h:=h hc (fun t ht=>by rw[← ha.t t,Array.getD_eq_getD_getElem?,Array.getElem?_eq_none (by rw[ha.size];exact ht)];rfl)
  simp only[codeOk,Bool.and_eq_true]at hc
  split at h
  case h_2=>exact h.elim
  rename_i f args hf
  unfold ccallee at hf
  simp only at hf
  split at hf
  ·rename_i f0 first caps hg
   split at hf
   ·rename_i fn hfn
    split at hf
    ·rename_i hb
     cases hf
     rw[← ha.eval]at hg
     refine cwp_rangeFunc hc.1.1.1 hg hfn hb (QC.mono (R:=fun _ s3=>cendLoop (s.next+1) (fun jump s4=>wpend Q env s4 jump) s3) ?_ ?_)
     ·rw[ha.arr]
      simpa [wev] using h
     ·intro v s3 hk
      unfold cendLoop at hk
      unfold cloopPost cendLoop
      split at hk
      case h_2=>exact hk.elim
      rename_i st pend ps3 tmps3 as3 bd3 hat
      obtain⟨hk1,hk⟩:=hk
      refine⟨hk1,?_⟩
      have hw:∀ e s',Q e env s'→wlift n Q e a s':=fun e s' h=>⟨env,ha,h⟩
      cases pend with
      |none=>exact hw _ _ hk
      |some c =>
       cases c with
       |exit id=>exact cwp_exit (hw _ _ hk)
       |goto l=>exact cwp_goto (hw _ _ hk)
       |ret=>exact cwp_ret (hw _ _ hk)
       |_=>exact hk.elim
    ·cases hf
   ·cases hf
  ·cases hf
 |refuse=>intro Q env s a hc ha h;exact h.elim
theorem wloop_inv(hm:P.follows .mixedOrders=true){c:Code}{Q:Exit→Env→St M→Prop}(I:Nat→Env→St M→Prop)(k:Nat)(h0:I k env s)
  (h:∀ k env s,I k env s→wvc P w0 ord n c (wthen (fun env s=>∃ m,m<k∧I m env s) Q) env s):WLoop P w0 ord n c Q env s:=by
 induction k using Nat.strongRecOn generalizing env s with
 |ind k ih =>
  intro hc a ha
  refine cloop_round (cwp_mono ?_ (wvc_sound hm c _ env s a hc ha (h k env s h0)))
  rintro e a2 s2 ⟨env2,ha2,hq⟩
  cases e with
  |normal =>
   obtain⟨m,hm,hq⟩:=hq
   exact ih m hm hq hc a2 ha2
  |_=>exact⟨env2,ha2,hq⟩
def wjump(c:Code)(Q:Exit→Env→St M→Prop)(J:Code→Env→St M→Prop):Exit→Env→St M→Prop
 |.goto l,env,s=>match findLabel c l with
  |some rest=>codeOk P ord n rest=true∧J rest env s
  |none=>Q (.goto l) env s
 |e,env,s=>Q e env s
theorem wscope_piece(hm:P.follows .mixedOrders=true){c x:Code}{Q:Exit→Env→St M→Prop}(h:wvc P w0 ord n x (wjump (P:=P) (ord:=ord) (n:=n) c Q (fun rest=>WScope P w0 ord n c rest Q)) env s):WScope P w0 ord n c x Q env s:=by
 intro hc hx a ha
 refine cscope_piece (cwp_mono ?_ (wvc_sound hm x _ env s a hx ha h))
 rintro e a2 s2 ⟨env2,ha2,hq⟩
 cases e with
 |goto l =>
  simp only[wjump]at hq
  simp only[cscope]
  split at hq
  ·rename_i rest hr;rw[hr];exact hq.2 hc hq.1 a2 ha2
  ·rename_i hr;rw[hr];exact⟨env2,ha2,hq⟩
 |_=>exact⟨env2,ha2,hq⟩
theorem wresults_of(ha:AEnv n env a):∀ (l:List ResultVar) (vs:List Value),wresults P env s l=some vs→l.mapM (cresult P a.tmps s)=some vs:=by
 intro l
 induction l with
 |nil=>intro vs h;simpa [wresults] using h
 |cons r l ih =>
  intro vs h
  unfold wresults at h
  have hr:cresult P a.tmps s r=wresult P env s r:=by
   cases r with
   |tmp t=>simp only[cresult,wresult];rw[ha.t]
   |cell x t=>simp only[cresult,wresult];rw[ha.t];rfl
  split at h
  ·rename_i v vs1 h1 h2
   cases h
   simp only[List.mapM_cons,hr,h1,ih vs1 h2,Option.bind_eq_bind,Option.bind_some]
   rfl
  ·cases h
theorem wcalls(hm:P.follows .mixedOrders=true){f:FuncId}{fn:Func}{c:Code}{l:List Value}{R:Value→St M→Prop}(ord:Ord)(hf:P.funcs[f]?=some fn)(hb:fn.body=some c)(hl:l.length≤fn.ntmps)(hc:codeOk P ord fn.ntmps c=true)
  (h:wvc P w0 ord fn.ntmps c (wbody P fn.results.toList R) (init l) s):QC P w0 f l.toArray s R:=by
 refine ccalls_enter hf hb (cwp_mono ?_ (wvc_sound hm c _ (init l) s _ hc ⟨?_,rfl,fun t=>?_⟩ h))
 ·rintro e a2 s2 ⟨env2,ha2,hq⟩
  have key:wret P fn.results.toList R env2 s2→match cresults P fn a2.tmps s2 with|some v=>R v s2|none=>False:=by
   intro hw
   unfold wret at hw
   unfold cresults
   split at hw
   ·rename_i v hv;rw[wresults_of ha2 _ _ hv];exact hw
   ·rename_i vs h1 hv
    rw[wresults_of ha2 _ _ hv]
    match vs,h1,hw with
    | [],_,hw=>exact hw
    | [v],h1,_=>exact (h1 v rfl).elim
    |_::_::_,_,hw=>exact hw
   ·exact hw.elim
  cases e with
  |normal=>exact key hq
  |ret=>exact key hq
  |_=>exact hq.elim
 ·simp;omega
 ·simp only[init]
  rw[Array.getD_eq_getD_getElem?,Array.getElem?_append,List.getD_eq_getElem?_getD]
  split
  ·simp
  ·rename_i hge
   have hge:l.length≤t:=by simpa using hge
   rw[List.getElem?_eq_none hge,Array.getElem?_replicate]
   split<;>rfl
def wparams:List (Tmp×Value)→Env→Env
 | [],env=>env
 |(p,v)::l,env=>wparams l (upd env p v)
def wroundPost(l:Nat)(K:Value→St M→Prop):Exit→Env→St M→Prop
 |.normal,_,s=>cendRound l none K s
 |.ret,_,s=>cendRound l (some .ret) K s
 |.exit id,_,s=>cendRound l (some (.exit id)) K s
 |.goto t,_,s=>cendRound l (some (.goto t)) K s
 |_,_,_=>False
def wassignPost(P:Program)(w0:World)(ord:Ord)(n:Nat)(l:Nat)(body:Code)(K:Value→St M→Prop):Exit→Env→St M→Prop
 |.normal,env,s=>cbeginRound l (fun s=>wvc P w0 ord n body (wroundPost l K) env s) s
 |_,_,_=>False
theorem params_env:∀ (l:List (Tmp×Value)) (env:Env) (t:Array Value),(∀ p∈l,p.1<n)→AEnv n env { tmps:=t,defers:=[] }→AEnv n (wparams l env) { tmps:=l.foldl (fun t (p,v)=>t.setIfInBounds p v) t,defers:=[] }:=by
 intro l
 induction l with
 |nil=>intro env t _ h;exact h
 |cons x l ih =>
  intro env t hl h
  obtain⟨p,v⟩:=x
  have:=h.put (d:=some p) (by simpa [dstOk] using hl (p,v) (by simp)) v
  exact ih _ _ (fun q hq=>hl q (by simp[hq])) this
theorem wround(hm:P.follows .mixedOrders=true){l:Nat}{args:Array Value}{g:Operand}{ps:Array Tmp}{as bd:Code}{K:Value→St M→Prop}(hc:codeOk P ord n (.rangeFunc g ps as bd)=true)
  (hl:s.at' l=some (.loop .ready none ps (arr n env) as bd))(he:∀ t,n≤t→env t=undef)(hs:args.size=ps.size)
  (h:wvc P w0 ord n as (wassignPost P w0 ord n l bd K) (wparams (ps.toList.zip args.toList) env) s):CRound P w0 l args s K:=by
 simp only[codeOk,Bool.and_eq_true]at hc
 have hA:AEnv n env { tmps:=arr n env,defers:=[] }:=by
  refine⟨by simp[Cs.arr],rfl,fun t=>?_⟩
  simp only[Cs.arr,Array.getD_eq_getD_getElem?,List.getElem?_toArray,List.getElem?_map]
  by_cases ht:t<n
  ·rw[List.getElem?_range ht];rfl
  ·rw[List.getElem?_eq_none (by simpa using Nat.le_of_not_lt ht),he t (Nat.le_of_not_lt ht)];rfl
 refine cround_enter hl hs (cwp_mono ?_ (wvc_sound hm as _ _ s _ hc.1.2 (params_env _ env _ (fun p hp=>?_) hA) h))
 ·rintro e a2 s2 ⟨env2,ha2,hq⟩
  cases e with
  |normal =>
   simp only[wassignPost,cbeginRound]at hq
   simp only[cassignPost,cbeginRound]
   split at hq
   case h_2=>exact hq.elim
   refine cwp_mono ?_ (wvc_sound hm bd _ env2 _ a2 hc.2 ha2 hq)
   rintro e a3 s3 ⟨env3,ha3,hq3⟩
   cases e<;>exact hq3
  |_=>exact hq.elim
 ·have h1:=hc.1.1.2
  rw[Array.all_eq_true_iff_forall_mem]at h1
  have:=(List.of_mem_zip hp).1
  simpa using h1 p.1 (by simpa using this)
theorem AEnv.eq(h:AEnv n env a):a={ tmps:=Cs.arr n env,defers:=[] }:=by
 have h1:=h.arr
 have h2:=h.d
 cases a
 simp only at h1 h2
 rw[h1,h2]
end
end Go.Cs
namespace Go.Cs
def qF(P:Program)(f:FuncId)(ord:Ord):Bool:=match P.funcs[f]? with
 |some fn=>(match fn.body with|some c=>codeOk P ord fn.ntmps c|none=>false) && fn.name != "runtime.NumGoroutine"
 |none=>false
def qK(P:Program)(f:FuncId):Bool:=match P.funcs[f]? with
 |some fn=>fn.body.isSome && fn.name != "runtime.NumGoroutine"
 |none=>false
section
variable {M:Type}[Mem M]{P:Program}{w0:World}{ord:Ord}{n:Nat}
theorem qO{f:FuncId}{ord:Ord}(h:qF P f ord=true):qK P f=true:=by
 unfold qF at h
 unfold qK
 split at h
 ·simp only[Bool.and_eq_true]at h
  split at h
  ·rename_i c hc;rw[hc];simpa using h.2
  ·simp at h
 ·cases h
theorem wfun(hm:P.follows .mixedOrders=true){f:FuncId}{ord:Ord}(hok:qF P f ord=true){fn:Func}{c:Code}{l:List Value}{s:St M}{R:Value→St M→Prop}(hf:P.funcs[f]?=some fn)(hb:fn.body=some c)(hl:l.length≤fn.ntmps)
  (h:wvc P w0 ord fn.ntmps c (wbody P fn.results.toList R) (init l) s):QC P w0 f l.toArray s R:=by
 unfold qF at hok
 rw[hf]at hok
 simp only[hb,Bool.and_eq_true]at hok
 exact wcalls hm ord hf hb hl hok.1 h
theorem wfun2(hm:P.follows .mixedOrders=true){f:FuncId}{ord:Ord}(hok:qF P f ord=true){fn:Func}{c:Code}{l:List Value}{s:St M}{R:Value→St M→Prop}{k:Nat}{rs:List ResultVar}(hf:P.funcs[f]?=some fn)(hb:fn.body=some c)(hk:fn.ntmps=k)(hr:fn.results=rs.toArray)(hl:l.length≤k)
  (h:wvc P w0 ord k c (wbody P rs R) (init l) s):QC P w0 f l.toArray s R:=by
 subst hk
 refine wfun hm hok hf hb hl ?_
 rw[hr]
 exact h
theorem wvc_congr{c:Code}{Q:Exit→Env→St M→Prop}{env env':Env}{s s':St M}(h1:env=env')(h2:s=s'){jp:Prop}(hj:(True∧True)=jp):wvc P w0 ord n c Q env s=wvc P w0 ord n c Q env' s':=by rw[h1,h2]
theorem wreg_congr{ops:Array Oper}{Q:Env→St M→Prop}{l:List Oper}{env env':Env}{s s':St M}(h1:env=env')(h2:s=s'){jp:Prop}(hj:(True∧True)=jp):wreg P w0 ops Q l env s=wreg P w0 ops Q l env' s':=by rw[h1,h2]
theorem wregD_congr{ops:Array Oper}{Q:Env→St M→Prop}{l:List DI}{fl:List WF}{env env':Env}{s s':St M}(h1:env=env')(h2:s=s'){jp:Prop}(hj:(True∧True)=jp):wregD P w0 ops Q l fl env s=wregD P w0 ops Q l fl env' s':=by rw[h1,h2]
theorem wguard_congr{ops:Array Oper}{o:Oper}{env:Env}{yes no:Env→Prop}{jp:Prop}(hj:(True∧True)=jp):wguard ops o env yes no=wguard ops o env yes no:=rfl
theorem wcond_congr{c:Operand}{env:Env}{p q:Env→Prop}{jp:Prop}(hj:(True∧True)=jp):wcond c env p q=wcond c env p q:=rfl
theorem wop_congr{o:Oper}{ev:Operand→Value}{s:St M}{K:Value→St M→Prop}{jp:Prop}(hj:(True∧True)=jp):wop P w0 o ev s K=wop P w0 o ev s K:=rfl
theorem wfop_congr{o:Oper}{ev:Operand→Value}{s:St M}{K:Value→St M→Option Value→Prop}{jp:Prop}(hj:(True∧True)=jp):wfop P o ev s K=wfop P o ev s K:=rfl
theorem wstill_congr{chk:List Nat}{s:St M}{fl:List WF}{K:Prop}{jp:Prop}(hj:(True∧True)=jp):wstill P chk s fl K=wstill P chk s fl K:=rfl
theorem wbin_congr{op:BinOp}{t:TypeId}{ox oy:Operand}{x y x' y':Value}{K:Value→Prop}(hx:x=x')(hy:y=y'){jp:Prop}(hj:(True∧True)=jp):wbin P op t ox oy x y K=wbin P op t ox oy x' y' K:=by rw[hx,hy]
theorem must_congr{o o':Option Value}{K:Value→Prop}(h:o=o'){jp:Prop}(hj:(True∧True)=jp):must o K=must o' K:=by rw[h]
theorem shape_congr{t:TypeId}{v v':Value}{K:Value→Prop}(h:v=v'){jp:Prop}(hj:(True∧True)=jp):shape P t v K=shape P t v' K:=by rw[h]
theorem CCalls_congr{f:FuncId}{args args':Array Value}{s s':St M}{R:Value→St M→Prop}(h:args=args')(h2:s=s'){jp:Prop}(hj:(True∧True)=jp):QC P w0 f args s R=QC P w0 f args' s' R:=by rw[h,h2]
theorem upd_congr{env env':Env}{d:Nat}{v v':Value}(h0:env=env')(h:v=v'){jp:Prop}(hj:(True∧True)=jp):upd env d v=upd env' d v':=by rw[h0,h]
theorem wret_congr{rs:List ResultVar}{R:Value→St M→Prop}{env:Env}{s:St M}{jp:Prop}(hj:(True∧True)=jp):wret P rs R env s=wret P rs R env s:=rfl
theorem WLoop_congr{c:Code}{Q:Exit→Env→St M→Prop}{env env':Env}{s s':St M}(h1:env=env')(h2:s=s'){jp:Prop}(hj:(True∧True)=jp):WLoop P w0 ord n c Q env s=WLoop P w0 ord n c Q env' s':=by rw[h1,h2]
theorem WScope_congr{c x:Code}{Q:Exit→Env→St M→Prop}{env env':Env}{s s':St M}(h1:env=env')(h2:s=s'){jp:Prop}(hj:(True∧True)=jp):WScope P w0 ord n c x Q env s=WScope P w0 ord n c x Q env' s':=by rw[h1,h2]
def wval(v:Value)(K:Value→Prop):Prop:=K v
theorem wval_congr{v v':Value}{K:Value→Prop}(h:v=v'){jp:Prop}(hj:(True∧True)=jp):wval v K=wval v' K:=by rw[h]
theorem val{v:Value}{K:Value→Prop}:wval v K=K v:=rfl
attribute [congr] wval_congr wvc_congr wreg_congr wregD_congr wguard_congr wcond_congr wop_congr wfop_congr wstill_congr wbin_congr must_congr shape_congr CCalls_congr upd_congr wret_congr WLoop_congr WScope_congr
section
variable {d:Option Tmp}{ty:TypeId}{pos:String}{af:Array Edge}{g:Option (Nat×Bool)}{ev:Operand→Value}{s:St M}{K:Value→St M→Prop}{F:Value→St M→Option Value→Prop}{x y:Operand}{t t2:TypeId}
theorem g_none{ops:Array Oper}{o:Op}{env:Env}{yes no:Env→Prop}:wguard ops ⟨d,o,ty,pos,af,none⟩ env yes no=yes env:=rfl
def wguard2(j:Option Tmp)(want:Bool)(env:Env)(yes no:Env→Prop):Prop:=match j with
  |none=>no env
  |some d=>match env d with
   |.bool b=>(b=want→yes (upd env d (.bool want)))∧(b = !want→no (upd env d (.bool !want)))
   |.tuple cs=>cs.size≠1∧no env
   |_=>no env
def wguard3(d:Nat)(v:Value)(want:Bool)(env:Env)(yes no:Env→Prop):Prop:=match v with
   |.bool b=>(b=want→yes (upd env d (.bool want)))∧(b = !want→no (upd env d (.bool !want)))
   |.tuple cs=>cs.size≠1∧no env
   |_=>no env
theorem wguard2_congr{j j':Option Tmp}{want:Bool}{env:Env}{yes no:Env→Prop}(h:j=j'){jp:Prop}(hj:(True∧True)=jp):wguard2 j want env yes no=wguard2 j' want env yes no:=by rw[h]
theorem wguard3_congr{e:Nat}{v v':Value}{want:Bool}{env:Env}{yes no:Env→Prop}(h:v=v'){jp:Prop}(hj:(True∧True)=jp):wguard3 e v want env yes no=wguard3 e v' want env yes no:=by rw[h]
attribute [congr] wguard2_congr wguard3_congr
theorem g_some{ops:Array Oper}{o:Op}{j:Nat}{want:Bool}{env:Env}{yes no:Env→Prop}:wguard ops ⟨d,o,ty,pos,af,some (j,want)⟩ env yes no=wguard2 ((ops[j]?).bind (·.dst)) want env yes no:=rfl
theorem g2_some{e:Nat}{want:Bool}{env:Env}{yes no:Env→Prop}:wguard2 (some e) want env yes no=wguard3 e (env e) want env yes no:=rfl
theorem g3_tt{e:Nat}{env:Env}{yes no:Env→Prop}:wguard3 e (.bool true) true env yes no=yes (upd env e (.bool true)):=by simp[wguard3]
theorem g3_ff{e:Nat}{env:Env}{yes no:Env→Prop}:wguard3 e (.bool false) false env yes no=yes (upd env e (.bool false)):=by simp[wguard3]
theorem g3_tf{e:Nat}{env:Env}{yes no:Env→Prop}:wguard3 e (.bool true) false env yes no=no (upd env e (.bool true)):=by simp[wguard3]
theorem g3_ft{e:Nat}{env:Env}{yes no:Env→Prop}:wguard3 e (.bool false) true env yes no=no (upd env e (.bool false)):=by simp[wguard3]
theorem g3_undef{e:Nat}{want:Bool}{env:Env}{yes no:Env→Prop}:wguard3 e undef want env yes no=no env:=by simp[wguard3,undef]
def wcond2(d:Nat)(v:Value)(env:Env)(p q:Env→Prop):Prop:=match v with
  |.bool b=>(b=true→p (upd env d (.bool true)))∧(b=false→q (upd env d (.bool false)))
  |_=>False
theorem wcond2_congr{e:Nat}{v v':Value}{env:Env}{yes no:Env→Prop}(h:v=v'){jp:Prop}(hj:(True∧True)=jp):wcond2 e v env yes no=wcond2 e v' env yes no:=by rw[h]
attribute [congr] wcond2_congr
theorem c_tmp{e:Nat}{env:Env}{p q:Env→Prop}:wcond (.tmp e) env p q=wcond2 e (env e) env p q:=rfl
theorem c2_true{e:Nat}{env:Env}{p q:Env→Prop}:wcond2 e (.bool true) env p q=p (upd env e (.bool true)):=by simp[wcond2]
theorem c2_false{e:Nat}{env:Env}{p q:Env→Prop}:wcond2 e (.bool false) env p q=q (upd env e (.bool false)):=by simp[wcond2]
theorem o_move:wop P w0 ⟨d,.move x,ty,pos,af,g⟩ ev s K=wval (ev x) fun v=>K v s:=rfl
theorem o_assign:wop P w0 ⟨d,.assign x,ty,pos,af,g⟩ ev s K=wval (ev x) fun v=>K v s:=rfl
theorem f_move:wfop P ⟨d,.move x,ty,pos,af,g⟩ ev s F=wval (ev x) fun v=>F v s none:=rfl
def wpick(c a b:Value)(K:Value→Prop):Prop:=match c with
 |.bool t=>both t (K a) (K b)
 |_=>False
theorem wpick_congr{c c' a b:Value}{K:Value→Prop}(h:c=c'){jp:Prop}(hj:(True∧True)=jp):wpick c a b K=wpick c' a b K:=by rw[h]
attribute [congr] wpick_congr
theorem o_pick{c a b:Operand}:wop P w0 ⟨d,.pick c a b,ty,pos,af,g⟩ ev s K=wpick (ev c) (ev a) (ev b) fun v=>K v s:=rfl
theorem f_pick{c a b:Operand}:wfop P ⟨d,.pick c a b,ty,pos,af,g⟩ ev s F=wpick (ev c) (ev a) (ev b) fun v=>F v s none:=rfl
theorem p_true{a b:Value}{K:Value→Prop}:wpick (.bool true) a b K=wval a K:=by simp[wpick,both,wval]
theorem p_false{a b:Value}{K:Value→Prop}:wpick (.bool false) a b K=wval b K:=by simp[wpick,both,wval]
theorem o_add:wop P w0 ⟨d,.binOp .add t x y t2,ty,pos,af,g⟩ ev s K=wbin P .add t x y (ev x) (ev y) fun v=>K v s:=rfl
theorem o_sub:wop P w0 ⟨d,.binOp .sub t x y t2,ty,pos,af,g⟩ ev s K=wbin P .sub t x y (ev x) (ev y) fun v=>K v s:=rfl
theorem o_mul:wop P w0 ⟨d,.binOp .mul t x y t2,ty,pos,af,g⟩ ev s K=wbin P .mul t x y (ev x) (ev y) fun v=>K v s:=rfl
theorem o_quo:wop P w0 ⟨d,.binOp .quo t x y t2,ty,pos,af,g⟩ ev s K=wbin P .quo t x y (ev x) (ev y) fun v=>K v s:=rfl
theorem o_rem:wop P w0 ⟨d,.binOp .rem t x y t2,ty,pos,af,g⟩ ev s K=wbin P .rem t x y (ev x) (ev y) fun v=>K v s:=rfl
theorem o_shl:wop P w0 ⟨d,.binOp .shl t x y t2,ty,pos,af,g⟩ ev s K=wbin P .shl t x y (ev x) (ev y) fun v=>K v s:=rfl
theorem o_shr:wop P w0 ⟨d,.binOp .shr t x y t2,ty,pos,af,g⟩ ev s K=wbin P .shr t x y (ev x) (ev y) fun v=>K v s:=rfl
theorem o_lss:wop P w0 ⟨d,.binOp .lss t x y t2,ty,pos,af,g⟩ ev s K=wbin P .lss t x y (ev x) (ev y) fun v=>K v s:=rfl
theorem o_leq:wop P w0 ⟨d,.binOp .leq t x y t2,ty,pos,af,g⟩ ev s K=wbin P .leq t x y (ev x) (ev y) fun v=>K v s:=rfl
theorem o_gtr:wop P w0 ⟨d,.binOp .gtr t x y t2,ty,pos,af,g⟩ ev s K=wbin P .gtr t x y (ev x) (ev y) fun v=>K v s:=rfl
theorem o_geq:wop P w0 ⟨d,.binOp .geq t x y t2,ty,pos,af,g⟩ ev s K=wbin P .geq t x y (ev x) (ev y) fun v=>K v s:=rfl
theorem f_add:wfop P ⟨d,.binOp .add t x y t2,ty,pos,af,g⟩ ev s F=wbin P .add t x y (ev x) (ev y) fun v=>F v s none:=rfl
theorem f_sub:wfop P ⟨d,.binOp .sub t x y t2,ty,pos,af,g⟩ ev s F=wbin P .sub t x y (ev x) (ev y) fun v=>F v s none:=rfl
theorem f_mul:wfop P ⟨d,.binOp .mul t x y t2,ty,pos,af,g⟩ ev s F=wbin P .mul t x y (ev x) (ev y) fun v=>F v s none:=rfl
theorem f_lss:wfop P ⟨d,.binOp .lss t x y t2,ty,pos,af,g⟩ ev s F=wbin P .lss t x y (ev x) (ev y) fun v=>F v s none:=rfl
theorem f_gtr:wfop P ⟨d,.binOp .gtr t x y t2,ty,pos,af,g⟩ ev s F=wbin P .gtr t x y (ev x) (ev y) fun v=>F v s none:=rfl
theorem f_geq:wfop P ⟨d,.binOp .geq t x y t2,ty,pos,af,g⟩ ev s F=wbin P .geq t x y (ev x) (ev y) fun v=>F v s none:=rfl
def weq(P:Program)(op:BinOp)(t ty:TypeId)(ox oy:Operand)(x y:Value)(pu:(Value→Prop))(rd:Prop):Prop:=match x,y with
 |.pointer (some _),.pointer (some _)=>rd
 |x,y=>wbin P op t ox oy x y pu
theorem weq_congr{op:BinOp}{t ty:TypeId}{ox oy:Operand}{x y x' y':Value}{pu:(Value→Prop)}{rd:Prop}(hx:x=x')(hy:y=y'){jp:Prop}(hj:(True∧True)=jp):weq P op t ty ox oy x y pu rd=weq P op t ty ox oy x' y' pu rd:=by rw[hx,hy]
attribute [congr] weq_congr
theorem o_eql:wop P w0 ⟨d,.binOp .eql t x y t2,ty,pos,af,g⟩ ev s K=weq P .eql t ty x y (ev x) (ev y) (fun v=>K v s) (must (cread P ev s (.binOp .eql t x y t2)) fun v=>shape P ty v fun v=>K v s):=by
 unfold wop weq
 simp only[kindOf,wpu]
 generalize ev x=u
 generalize ev y=v
 cases u<;>try rfl
 rename_i p
 cases p<;>try rfl
 cases v<;>try rfl
 rename_i q
 cases q<;>rfl
theorem o_neq:wop P w0 ⟨d,.binOp .neq t x y t2,ty,pos,af,g⟩ ev s K=weq P .neq t ty x y (ev x) (ev y) (fun v=>K v s) (must (cread P ev s (.binOp .neq t x y t2)) fun v=>shape P ty v fun v=>K v s):=by
 unfold wop weq
 simp only[kindOf,wpu]
 generalize ev x=u
 generalize ev y=v
 cases u<;>try rfl
 rename_i p
 cases p<;>try rfl
 cases v<;>try rfl
 rename_i q
 cases q<;>rfl
theorem f_eql:wfop P ⟨d,.binOp .eql t x y t2,ty,pos,af,g⟩ ev s F=weq P .eql t ty x y (ev x) (ev y) (fun v=>F v s none) (must (cread P ev s (.binOp .eql t x y t2)) fun v=>shape P ty v fun v=>F v s (some v)):=by
 unfold wfop weq
 simp only[kindOf,wpu]
 generalize ev x=u
 generalize ev y=v
 cases u<;>try rfl
 rename_i p
 cases p<;>try rfl
 cases v<;>try rfl
 rename_i q
 cases q<;>rfl
theorem f_neq:wfop P ⟨d,.binOp .neq t x y t2,ty,pos,af,g⟩ ev s F=weq P .neq t ty x y (ev x) (ev y) (fun v=>F v s none) (must (cread P ev s (.binOp .neq t x y t2)) fun v=>shape P ty v fun v=>F v s (some v)):=by
 unfold wfop weq
 simp only[kindOf,wpu]
 generalize ev x=u
 generalize ev y=v
 cases u<;>try rfl
 rename_i p
 cases p<;>try rfl
 cases v<;>try rfl
 rename_i q
 cases q<;>rfl
theorem eq_pp{op:BinOp}{a b:Addr}{pu:Value→Prop}{rd:Prop}:weq P op t ty x y (.pointer (some a)) (.pointer (some b)) pu rd=rd:=rfl
theorem eq_p0{op:BinOp}{a:Option Addr}{pu:Value→Prop}{rd:Prop}:weq P op t ty x y (.pointer a) (.pointer none) pu rd=wbin P op t x y (.pointer a) (.pointer none) pu:=by cases a<;>rfl
theorem eq_int{op:BinOp}{k k2:IntKind}{a b:Int}{pu:Value→Prop}{rd:Prop}:weq P op t ty x y (.int k a) (.int k2 b) pu rd=wbin P op t x y (.int k a) (.int k2 b) pu:=rfl
theorem eq_bool{op:BinOp}{a b:Bool}{pu:Value→Prop}{rd:Prop}:weq P op t ty x y (.bool a) (.bool b) pu rd=wbin P op t x y (.bool a) (.bool b) pu:=rfl
theorem eq_string{op:BinOp}{a b:ByteArray}{pu:Value→Prop}{rd:Prop}:weq P op t ty x y (.string a) (.string b) pu rd=wbin P op t x y (.string a) (.string b) pu:=rfl
theorem eq_agg{op:BinOp}{a b:Array Value}{pu:Value→Prop}{rd:Prop}:weq P op t ty x y (.agg a) (.agg b) pu rd=wbin P op t x y (.agg a) (.agg b) pu:=rfl
theorem eq_slice{op:BinOp}{a:Option Addr}{m c:Nat}{v:Value}{pu:Value→Prop}{rd:Prop}:weq P op t ty x y (.slice a m c) v pu rd=wbin P op t x y (.slice a m c) v pu:=rfl
theorem eq_map{op:BinOp}{a:Option Nat}{v:Value}{pu:Value→Prop}{rd:Prop}:weq P op t ty x y (.map a) v pu rd=wbin P op t x y (.map a) v pu:=rfl
section
variable {k:IntKind}{a b:Int}{G:Value→Prop}
theorem b_add:wbin P .add t x y (.int k a) (.int k b) G=wval (.int k (k.wrap (a+b))) G:=by simp[wbin,wval]
theorem b_sub:wbin P .sub t x y (.int k a) (.int k b) G=wval (.int k (k.wrap (a - b))) G:=by simp[wbin,wval]
theorem b_mul:wbin P .mul t x y (.int k a) (.int k b) G=wval (.int k (k.wrap (a*b))) G:=by simp[wbin,wval]
theorem b_quo:wbin P .quo t x y (.int k a) (.int k b) G=(b≠0∧wval (.int k (k.wrap (a.tdiv b))) G):=by simp[wbin,wval]
theorem b_rem:wbin P .rem t x y (.int k a) (.int k b) G=(b≠0∧wval (.int k (a.tmod b)) G):=by simp[wbin,wval]
theorem b_shl{k2:IntKind}:wbin P .shl t x y (.int k a) (.int k2 b) G=(0≤b∧wval (.int k (k.wrap (a*2 ^ (min b.toNat k.bits)))) G):=rfl
theorem b_shr{k2:IntKind}:wbin P .shr t x y (.int k a) (.int k2 b) G=(0≤b∧wval (.int k (a.fdiv (2 ^ (min b.toNat k.bits)))) G):=rfl
theorem b_eql:wbin P .eql t x y (.int k a) (.int k b) G=wval (.bool (decide (a=b))) G:=by simp[wbin,wval]
theorem b_neq:wbin P .neq t x y (.int k a) (.int k b) G=wval (.bool (!decide (a=b))) G:=by simp[wbin,wval]
theorem b_lss:wbin P .lss t x y (.int k a) (.int k b) G=wval (.bool (decide (a<b))) G:=by simp[wbin,wval]
theorem b_leq:wbin P .leq t x y (.int k a) (.int k b) G=wval (.bool (decide (a≤b))) G:=by simp[wbin,wval]
theorem b_gtr:wbin P .gtr t x y (.int k a) (.int k b) G=wval (.bool (decide (b<a))) G:=by simp[wbin,wval]
theorem b_geq:wbin P .geq t x y (.int k a) (.int k b) G=wval (.bool (decide (b≤a))) G:=by simp[wbin,wval]
theorem b_sadd{a b:ByteArray}:wbin P .add t x y (.string a) (.string b) G=(a.size+b.size≤9223372036854775807∧wval (.string (a++b)) G):=rfl
theorem b_seql{a b:ByteArray}:wbin P .eql t x y (.string a) (.string b) G=wval (.bool (decide (a=b))) G:=rfl
end
end
theorem c2_split{e:Nat}{b:Bool}{env:Env}{p q:Env→Prop}(h1:b=true→p (upd env e (.bool true)))(h2:b=false→q (upd env e (.bool false))):wcond2 e (.bool b) env p q:=⟨h1,h2⟩
theorem m_some{v:Value}{K:Value→Prop}:must (some v) K=K v:=by simp[must]
theorem i_zero{v:Value}{l:List Value}:init (v::l) 0=v:=rfl
theorem i_succ{v:Value}{l:List Value}{j:Nat}:init (v::l) (j+1)=init l j:=rfl
theorem i_nil{j:Nat}:init [] j=undef:=rfl
theorem callOk_spec{f:FuncId}(h:qK P f=true):∃ fn,P.funcs[f]?=some fn∧(fn.body.isSome && fn.name != "runtime.NumGoroutine")=true:=by
 unfold qK at h
 split at h
 ·rename_i fn hf;exact⟨fn,hf,h⟩
 ·cases h
theorem o_call{d:Option Tmp}{ty:TypeId}{pos:String}{af:Array Edge}{g:Option (Nat×Bool)}{ev:Operand→Value}{s:St M}{K:Value→St M→Prop}{c:Call}{f:FuncId}(hc:c.callee = .value (.func f))(hev:ev (.func f) = .func (.func f) #[] #[])(hok:qK P f=true) :
  wop P w0 ⟨d,.call c,ty,pos,af,g⟩ ev s K=QC P w0 f (c.args.map ev) s fun v s'=>shape P ty v fun v=>K v s':=by
 obtain⟨fn,h1,h2⟩:=callOk_spec hok
 unfold wop
 simp only[kindOf,hc,ccallee,hev,h1,h2,if_true,Array.empty_append,Array.append_empty]
end
end Go.Cs
namespace Go.Cs
section
variable {M:Type}[Mem M]{P:Program}{w0:World}{ord:Ord}{n:Nat}
variable {d:Option Tmp}{ty:TypeId}{pos:String}{af:Array Edge}{g:Option (Nat×Bool)}{ev:Operand→Value}{s:St M}{K:Value→St M→Prop}{F:Value→St M→Option Value→Prop}{x y:Operand}{t t2:TypeId}
section
variable {Q:Exit→Env→St M→Prop}{env:Env}{c c2:Code}{id:Nat}{ops:Array Oper}{QQ:Env→St M→Prop}
theorem w_skip:wvc P w0 ord n .skip Q env s=Q .normal env s:=rfl
theorem w_region{l:List Oper}:wvc P w0 ord n (.region id l.toArray false) Q env s=wreg P w0 l.toArray (Q .normal) l env s:=rfl
def wregD0(P:Program)(w0:World)(ops:Array Oper)(QQ:Env→St M→Prop)(l:List DI)(env:Env)(s:St M):Prop:=wregD P w0 ops QQ l [] env s
theorem wregD0_congr{l l':List DI}{jp:Prop}(h:l=l')(hj:(True∧True)=jp):wregD0 P w0 ops QQ l env s=wregD0 P w0 ops QQ l' env s:=by rw[h]
attribute [congr] wregD0_congr
theorem d_in{l:List DI}:wregD0 P w0 ops QQ l env s=wregD P w0 ops QQ l [] env s:=rfl
theorem w_regionD:wvc P w0 ord n (.region id ops true) Q env s=wregD0 P w0 ops (Q .normal) (ordOf ord id) env s:=rfl
theorem w_seq:wvc P w0 ord n (.seq c c2) Q env s=wvc P w0 ord n c (wthen (wvc P w0 ord n c2 Q) Q) env s:=rfl
theorem w_cond{o:Operand}:wvc P w0 ord n (.cond o c c2) Q env s=wcond o env (fun env=>wvc P w0 ord n c Q env s) (fun env=>wvc P w0 ord n c2 Q env s):=rfl
theorem w_block:wvc P w0 ord n (.block id c) Q env s=wvc P w0 ord n c (wblock id Q) env s:=rfl
theorem w_loop:wvc P w0 ord n (.loop c) Q env s=WLoop P w0 ord n c Q env s:=rfl
theorem w_scope:wvc P w0 ord n (.scope c) Q env s=WScope P w0 ord n c c Q env s:=rfl
theorem w_exit:wvc P w0 ord n (.exit id) Q env s=Q (.exit id) env s:=rfl
theorem w_label:wvc P w0 ord n (.label id) Q env s=Q .normal env s:=rfl
theorem w_goto:wvc P w0 ord n (.goto id) Q env s=Q (.goto id) env s:=rfl
theorem w_ret:wvc P w0 ord n .ret Q env s=Q .ret env s:=rfl
theorem w_nil:wreg P w0 ops QQ [] env s=QQ env s:=rfl
theorem w_cons{o:Oper}{rest:List Oper}:wreg P w0 ops QQ (o::rest) env s=wguard ops o env (fun env=>wop P w0 o (wev env) s fun v s'=>wreg P w0 ops QQ rest (wput env o.dst v) s') (fun env=>wreg P w0 ops QQ rest (wput env o.dst undef) s):=rfl
theorem d_nil{fl:List WF}:wregD P w0 ops QQ [] fl env s=QQ env s:=rfl
def wreg2(P:Program)(w0:World)(ops:Array Oper)(QQ:Env→St M→Prop)(d:DI)(rest:List DI)(fl:List WF)(env:Env)(s:St M)(o:Option Oper):Prop:=match o with
  |none=>False
  |some o=>match d.act with
   |true=>wguard ops o env (fun env=>wop P w0 o (wev env) s fun v s'=>wstill P d.chk s' fl (wregD P w0 ops QQ rest fl (wput env o.dst v) s')) (fun env=>wregD P w0 ops QQ rest fl (wput env o.dst undef) s)
   |false=>wguard ops o env (fun env=>wfop P o (wev env) s fun v s' r=>wregD P w0 ops QQ rest (⟨d.i,o.op,env,r⟩::fl) (wput env o.dst v) s') (fun env=>wregD P w0 ops QQ rest (⟨d.i,o.op,env,none⟩::fl) (wput env o.dst undef) s)
theorem wreg2_congr{d:DI}{rest:List DI}{fl:List WF}{o o':Option Oper}{jp:Prop}(h:o=o')(hj:(True∧True)=jp):wreg2 P w0 ops QQ d rest fl env s o=wreg2 P w0 ops QQ d rest fl env s o':=by rw[h]
attribute [congr] wreg2_congr
theorem d_cons{d:DI}{rest:List DI}{fl:List WF}:wregD P w0 ops QQ (d::rest) fl env s=wreg2 P w0 ops QQ d rest fl env s (ops[d.i]?):=rfl
theorem d2_act{i:Nat}{chk:List Nat}{rest:List DI}{fl:List WF}{o:Oper}:wreg2 P w0 ops QQ ⟨i,true,chk⟩ rest fl env s (some o)=wguard ops o env (fun env=>wop P w0 o (wev env) s fun v s'=>wstill P chk s' fl (wregD P w0 ops QQ rest fl (wput env o.dst v) s')) (fun env=>wregD P w0 ops QQ rest fl (wput env o.dst undef) s):=rfl
theorem d2_pass{i:Nat}{chk:List Nat}{rest:List DI}{fl:List WF}{o:Oper}:wreg2 P w0 ops QQ ⟨i,false,chk⟩ rest fl env s (some o)=wguard ops o env (fun env=>wfop P o (wev env) s fun v s' r=>wregD P w0 ops QQ rest (⟨i,o.op,env,r⟩::fl) (wput env o.dst v) s') (fun env=>wregD P w0 ops QQ rest (⟨i,o.op,env,none⟩::fl) (wput env o.dst undef) s):=rfl
theorem st_nil{chk:List Nat}{K:Prop}:wstill P chk s [] K=K:=rfl
theorem st_none{chk:List Nat}{fl:List WF}{K:Prop}{i:Nat}{op:Op}{e:Env}:wstill P chk s (⟨i,op,e,none⟩::fl) K=wstill P chk s fl K:=rfl
def wst2(P:Program)(chk:List Nat)(s:St M)(fl:List WF)(op:Op)(e:Env)(v:Value)(K:Prop)(b:Bool):Prop:=match b with
   |true=>cread P (wev e) s op=some v∧wstill P chk s fl K
   |false=>wstill P chk s fl K
theorem wst2_congr{chk:List Nat}{fl:List WF}{op:Op}{e:Env}{v:Value}{K:Prop}{b b':Bool}{jp:Prop}(h:b=b')(hj:(True∧True)=jp):wst2 P chk s fl op e v K b=wst2 P chk s fl op e v K b':=by rw[h]
attribute [congr] wst2_congr
theorem st_some{chk:List Nat}{fl:List WF}{K:Prop}{i:Nat}{op:Op}{e:Env}{v:Value}:wstill P chk s (⟨i,op,e,some v⟩::fl) K=wst2 P chk s fl op e v K (chk.contains i):=by
 unfold wstill
 dsimp only
 cases chk.contains i<;>rfl
theorem st2_true{chk:List Nat}{fl:List WF}{op:Op}{e:Env}{v:Value}{K:Prop}:wst2 P chk s fl op e v K true=(cread P (wev e) s op=some v∧wstill P chk s fl K):=rfl
theorem st2_false{chk:List Nat}{fl:List WF}{op:Op}{e:Env}{v:Value}{K:Prop}:wst2 P chk s fl op e v K false=wstill P chk s fl K:=rfl
theorem t_normal{K:Env→St M→Prop}:wthen K Q .normal env s=K env s:=rfl
theorem t_ret{K:Env→St M→Prop}:wthen K Q .ret env s=Q .ret env s:=rfl
theorem t_exit{K:Env→St M→Prop}:wthen K Q (.exit id) env s=Q (.exit id) env s:=rfl
theorem t_goto{K:Env→St M→Prop}:wthen K Q (.goto id) env s=Q (.goto id) env s:=rfl
theorem bl_normal:wblock id Q .normal env s=Q .normal env s:=rfl
theorem bl_ret:wblock id Q .ret env s=Q .ret env s:=rfl
theorem bl_goto{j:Nat}:wblock id Q (.goto j) env s=Q (.goto j) env s:=rfl
def wbl2(Q:Exit→Env→St M→Prop)(j:Nat)(env:Env)(s:St M)(b:Bool):Prop:=match b with
 |true=>Q .normal env s
 |false=>Q (.exit j) env s
theorem wbl2_congr{j:Nat}{b b':Bool}{jp:Prop}(h:b=b')(hj:(True∧True)=jp):wbl2 Q j env s b=wbl2 Q j env s b':=by rw[h]
attribute [congr] wbl2_congr
theorem bl_exit{j:Nat}:wblock id Q (.exit j) env s=wbl2 Q j env s (decide (j=id)):=by
 unfold wbl2
 simp only[wblock]
 by_cases h:j=id
 ·simp[h]
 ·simp[h]
theorem bl2_true{j:Nat}:wbl2 Q j env s true=Q .normal env s:=rfl
theorem bl2_false{j:Nat}:wbl2 Q j env s false=Q (.exit j) env s:=rfl
theorem bo_normal{rs:List ResultVar}{R:Value→St M→Prop}:wbody P rs R .normal env s=wret P rs R env s:=rfl
theorem bo_ret{rs:List ResultVar}{R:Value→St M→Prop}:wbody P rs R .ret env s=wret P rs R env s:=rfl
def wret2(R:Value→St M→Prop)(s:St M)(o:Option (List Value)):Prop:=match o with
 |some [v]=>R v s
 |some vs=>R (.tuple vs.toArray) s
 |none=>False
theorem wret2_congr{R:Value→St M→Prop}{o o':Option (List Value)}{jp:Prop}(h:o=o')(hj:(True∧True)=jp):wret2 R s o=wret2 R s o':=by rw[h]
attribute [congr] wret2_congr
theorem r_ret{rs:List ResultVar}{R:Value→St M→Prop}:wret P rs R env s=wret2 R s (wresults P env s rs):=rfl
theorem r_one{R:Value→St M→Prop}{v:Value}:wret2 R s (some [v])=R v s:=rfl
theorem r_none{R:Value→St M→Prop}:wret2 R s (some [])=R (.tuple #[]) s:=rfl
theorem r_more{R:Value→St M→Prop}{v v2:Value}{l:List Value}:wret2 R s (some (v::v2::l))=R (.tuple (v::v2::l).toArray) s:=rfl
theorem rs_nil:wresults P env s []=some []:=rfl
def wrs2(v:Option Value)(l:Option (List Value)):Option (List Value):=match v,l with
  |some v,some vs=>some (v::vs)
  |_,_=>none
theorem rs_cons{r:ResultVar}{l:List ResultVar}:wresults P env s (r::l)=wrs2 (wresult P env s r) (wresults P env s l):=rfl
theorem rs2{v:Value}{l:List Value}:wrs2 (some v) (some l)=some (v::l):=rfl
theorem rs_tmp{t:Tmp}:wresult P env s (.tmp t)=some (env t):=rfl
def wrc2(P:Program)(t:TypeId)(s:St M)(v:Value):Option Value:=match v with
  |.pointer (some ad)=>cload P t ad s
  |_=>none
theorem rs_cell{a:Tmp}{t:TypeId}:wresult P env s (.cell a t)=wrc2 P t s (env a):=rfl
theorem rs_cell2{ad:Addr}{t:TypeId}:wrc2 P t s (.pointer (some ad))=cload P t ad s:=rfl
theorem ev_tmp{t:Tmp}:wev env (.tmp t)=env t:=rfl
theorem ev_const{v:Value}:wev env (.const v)=v:=rfl
theorem ev_func{f:FuncId}:wev env (.func f) = .func (.func f) #[] #[]:=rfl
theorem put_some{d:Tmp}{v:Value}:wput env (some d) v=upd env d v:=rfl
theorem put_none{v:Value}:wput env none v=env:=rfl
theorem or_hit{id:Nat}{l:List DI}{rest:Ord}:ordOf ((id,l)::rest) id=l:=by simp[ordOf]
theorem or_miss{id j:Nat}{l:List DI}{rest:Ord}(h:¬ j=id):ordOf ((j,l)::rest) id=ordOf rest id:=by simp[ordOf,h]
end
def wcv(P:Program)(src dst:TypeId)(v:Value)(pu:Value→Prop)(other:Prop):Prop:=match v with
 |.int _ m=>match P.underlying src,P.underlying dst with
  |some _,some (.int k)=>pu (.int k (k.wrap m))
  |_,_=>other
 |_=>other
theorem wcv_congr{src dst:TypeId}{v v':Value}{pu:Value→Prop}{other:Prop}(h:v=v'){jp:Prop}(hj:(True∧True)=jp):wcv P src dst v pu other=wcv P src dst v' pu other:=by rw[h]
attribute [congr] wcv_congr
def wcv2(a b:Option TypeDesc)(m:Int)(pu:Value→Prop)(other:Prop):Prop:=match a,b with
  |some _,some (.int k)=>pu (.int k (k.wrap m))
  |_,_=>other
theorem wcv2_congr{a b a' b':Option TypeDesc}{m:Int}{pu:Value→Prop}{other:Prop}(h:a=a')(h2:b=b'){jp:Prop}(hj:(True∧True)=jp):wcv2 a b m pu other=wcv2 a' b' m pu other:=by rw[h,h2]
attribute [congr] wcv2_congr
theorem cv_int{src dst:TypeId}{k2:IntKind}{m:Int}{pu:Value→Prop}{other:Prop}:wcv P src dst (.int k2 m) pu other=wcv2 (P.underlying src) (P.underlying dst) m pu other:=rfl
theorem cv2_int{a:TypeDesc}{k:IntKind}{m:Int}{pu:Value→Prop}{other:Prop}:wcv2 (some a) (some (.int k)) m pu other=wval (.int k (k.wrap m)) pu:=rfl
theorem cv_slice{src dst:TypeId}{v:Option Addr}{i j:Nat}{pu:Value→Prop}{other:Prop}:wcv P src dst (.slice v i j) pu other=other:=rfl
def wopx(P:Program)(w0:World)(o:Oper)(ev:Operand→Value)(s:St M)(K:Value→St M→Prop):Prop:=wop P w0 o ev s K
theorem wopx_congr{o:Oper}{ev:Operand→Value}{s:St M}{K:Value→St M→Prop}{jp:Prop}(hj:(True∧True)=jp):wopx P w0 o ev s K=wopx P w0 o ev s K:=rfl
attribute [congr] wopx_congr
theorem o_convert{src dst:TypeId}:wop P w0 ⟨d,.convert src dst x,ty,pos,af,g⟩ ev s K=wcv P src dst (ev x) (fun v=>K v s) (wopx P w0 ⟨d,.convert src dst x,ty,pos,af,g⟩ ev s K):=by
 unfold wcv wopx
 split
 ·rename_i k m hv
  split
  ·rename_i k2 h1 h2;unfold wop;simp[kindOf,wpu,hv,h1,h2]
  ·rfl
 ·rfl
def wfopx(P:Program)(o:Oper)(ev:Operand→Value)(s:St M)(F:Value→St M→Option Value→Prop):Prop:=wfop P o ev s F
theorem wfopx_congr{o:Oper}{ev:Operand→Value}{s:St M}{K:Value→St M→Option Value→Prop}{jp:Prop}(hj:(True∧True)=jp):wfopx P o ev s K=wfopx P o ev s K:=rfl
attribute [congr] wfopx_congr
theorem o_cal{args:Array Operand}{ats:Array TypeId}{f:FuncId}{env:Env}(hok:qK P f=true) :
  wop P w0 ⟨d,.call ⟨.value (.func f),args,ats⟩,ty,pos,af,g⟩ (wev env) s K=QC P w0 f (args.map (wev env)) s fun v s'=>shape P ty v fun v=>K v s':=o_call rfl rfl hok
def shape2(td:Option TypeDesc)(v:Value)(K:Value→Prop):Prop:=match td with
 |some (.int k)=>∃ n,v = .int k n∧K (.int k n)
 |some .bool=>∃ b,v = .bool b∧K (.bool b)
 |some .string=>∃ x,v = .string x∧K (.string x)
 |_=>K v
theorem shape2_congr{td td':Option TypeDesc}{v v':Value}{K:Value→Prop}(h:td=td')(h2:v=v'){jp:Prop}(hj:(True∧True)=jp):shape2 td v K=shape2 td' v' K:=by rw[h,h2]
attribute [congr] shape2_congr
theorem sh{t:TypeId}{v:Value}{K:Value→Prop}:shape P t v K=shape2 (P.underlying t) v K:=rfl
section
variable {K:Value→Prop}{v:Value}
theorem sh_int{k:IntKind}{m:Int}:shape2 (some (.int k)) (.int k m) K=K (.int k m):=by simp[shape2]
theorem sh_bool{b:Bool}:shape2 (some .bool) (.bool b) K=K (.bool b):=by simp[shape2]
theorem sh_string{b:ByteArray}:shape2 (some .string) (.string b) K=K (.string b):=by simp[shape2]
theorem sh_pointer{t:TypeId}:shape2 (some (.pointer t)) v K=K v:=rfl
theorem sh_slice{t:TypeId}:shape2 (some (.slice t)) v K=K v:=rfl
theorem sh_map{t t2:TypeId}:shape2 (some (.map t t2)) v K=K v:=rfl
theorem sh_struct{fs:Array Field}:shape2 (some (.struct fs)) v K=K v:=rfl
theorem sh_func{a b:Array TypeId}{c:Bool}:shape2 (some (.func a b c)) v K=K v:=rfl
theorem sh_interface{a:Array (String×TypeId)}:shape2 (some (.interface a)) v K=K v:=rfl
theorem sh_tuple{a:Array TypeId}:shape2 (some (.tuple a)) v K=K v:=rfl
end
end
end Go.Cs
namespace Go.Cs
open Go.RowKit (Below)
open Go.ChangeShapes Go.WideShapes Go.ChangeAt in
theorem post_of_below{H:Type}{enc:TypeId×Value→H}{P:Program}{f:Func}{s:ChangeSpec}{apart fresh handsOn:Bool}{W W':World}{args:Array Value}{v:Value}{ds gs:List (DataW H)}{before pa pv:List MemPlace}
  (hW:DataW.Whole enc P f.params.toList s.vars apart W args.toList ds gs before)
  (hres:∀ (b:Nat) (sp:Nat→Bool) (hd:Bool),DataW.TrodAll enc P W' b sp hd f.resultTypes.toList (v.resultList f.resultTypes.size) (s.fn H (ds++gs)).results [])
  (hargs:∀ sp:Nat→Bool,(∀ p∈before,sp p.block=true)→DataW.TrodAll enc P W' 0 sp true f.params.toList args.toList (s.fn H (ds++gs)).args pa)
  (hvars:∀ sp:Nat→Bool,(∀ p∈before,sp p.block=true)→DataW.TrodVars enc P W' sp s.vars (s.fn H (ds++gs)).vars pv)
  (hps:before=pa++pv)(hk:W.keptBut W' (·∈before)):s.post enc P f apart fresh handsOn false W args v W':=by
 have hold:∀ p∈before,(fun b=>decide (b<W.heap.size)) p.block=true:=fun p hp=>by simpa using hW.lt p hp
 refine⟨ds,gs,before,[],pa,pv,hW,hres _ _ _,hargs _ hold,hvars _ hold,World.keptBut_mono (fun p hp=>⟨hp,?_⟩) hk,fun h=>by cases h⟩
 rw[hps,List.mem_append]at hp
 exact Or.inr hp
theorem fits_i64{n:Int}(h:(Lit.int .i64 n).wf=true) : -9223372036854775808≤n∧n≤9223372036854775807:=by
 simp only[Lit.wf,Bool.and_eq_true,decide_eq_true_eq]at h
 exact h
end Go.Cs
end
section
namespace Go.Cs
section
variable {M:Type}[Mem M]{P:Program}{w0:World}
variable {d:Option Tmp}{ty:TypeId}{pos:String}{af:Array Edge}{g:Option (Nat×Bool)}{ev:Operand→Value}{s:St M}{K:Value→St M→Prop}{F:Value→St M→Option Value→Prop}{x y:Operand}{t t2:TypeId}
def wext(v:Value)(i:Nat)(K:Value→Prop):Prop:=must (match v with
 |.tuple vs=>if vs.size=1 then (match vs.toList with
   | [.bool false]=>if i=0 then some (.bool false) else none
   |_=>none) else vs[i]?
 |_=>none) K
theorem wext_congr{v v':Value}{i:Nat}{K:Value→Prop}{jp:Prop}(h:v=v')(hj:(True∧True)=jp):wext v i K=wext v' i K:=by rw[h]
attribute [congr] wext_congr
theorem o_extract{i:Nat}:wop P w0 ⟨d,.extract x i,ty,pos,af,g⟩ ev s K=wext (ev x) i fun v=>K v s:=rfl
theorem f_extract{i:Nat}:wfop P ⟨d,.extract x i,ty,pos,af,g⟩ ev s F=wext (ev x) i fun v=>F v s none:=rfl
theorem e2_0{a b:Value}{K:Value→Prop}:wext (.tuple #[a,b]) 0 K=wval a K:=by simp[wext,wval,must]
theorem e2_1{a b:Value}{K:Value→Prop}:wext (.tuple #[a,b]) 1 K=wval b K:=by simp[wext,wval,must]
def wnot(P:Program)(t:TypeId)(v:Value)(K:Value→Prop):Prop:=must (if plain 1 v=true then pure6 P (Op.unary .not v) else none) K
theorem wnot_congr{v v':Value}{K:Value→Prop}{jp:Prop}(h:v=v')(hj:(True∧True)=jp):wnot P t v K=wnot P t v' K:=by rw[h]
attribute [congr] wnot_congr
theorem o_not:wop P w0 ⟨d,.unOp .not t x,ty,pos,af,g⟩ ev s K=wnot P t (ev x) fun v=>K v s:=rfl
theorem f_not:wfop P ⟨d,.unOp .not t x,ty,pos,af,g⟩ ev s F=wnot P t (ev x) fun v=>F v s none:=rfl
theorem n_bool{b:Bool}{K:Value→Prop}:wnot P t (.bool b) K=wval (.bool !b) K:=by
 unfold wnot wval must
 simp only[plain,if_true,pure6,Op.unary,pureRun_pure]
 simp
end
end Go.Cs
namespace Go.Cs
def szOf(P:Program)(t:TypeId):Option Nat:=(P.info? t).map (·.size)
def faOk(P:Program)(t:TypeId)(f:Nat):Option Nat:=match P.underlying t with
 |some (.struct fs)=>match fs[f]? with
  |some fl=>match P.info? fl.type with
   |some i=>if i.size=0 then none else some fl.offset
   |none=>none
  |none=>none
 |_=>none
section
variable {M:Type}[Mem M]{P:Program}{w0:World}
variable {d:Option Tmp}{ty:TypeId}{pos:String}{af:Array Edge}{g:Option (Nat×Bool)}{ev:Operand→Value}{s:St M}{K:Value→St M→Prop}{F:Value→St M→Option Value→Prop}{x y:Operand}{t t2:TypeId}
def wgo(v:Value)(s:St M)(K:Value→St M→Prop):Prop:=K v s
theorem wgo_congr{v v':Value}{s s':St M}{K:Value→St M→Prop}{jp:Prop}(h:v=v')(h2:s=s')(hj:(True∧True)=jp):wgo v s K=wgo v' s' K:=by rw[h,h2]
theorem go{v:Value}{s:St M}{K:Value→St M→Prop}:wgo v s K=K v s:=rfl
def wmk(o:Option (Blk×(Nat→Value)))(s:St M)(K:Value→St M→Prop):Prop:=∃ B f,o=some (B,f)∧K (f s.next) (s.new B)
theorem wmk_congr{o o':Option (Blk×(Nat→Value))}{s:St M}{K:Value→St M→Prop}{jp:Prop}(h:o=o')(hj:(True∧True)=jp):wmk o s K=wmk o' s K:=by rw[h]
theorem mk{B:Blk}{f:Nat→Value}{s:St M}{K:Value→St M→Prop}:wmk (some (B,f)) s K=wgo (f s.next) (s.new B) K:=by
 unfold wmk wgo
 rw[eq_iff_iff]
 exact⟨fun ⟨B',f',h,hk⟩=>by cases h;exact hk,fun hk=>⟨B,f,rfl,hk⟩⟩
def wch(o:Option (Value×St M))(K:Value→St M→Prop):Prop:=∃ v s',o=some (v,s')∧K v s'
theorem wch_congr{o o':Option (Value×St M)}{K:Value→St M→Prop}{jp:Prop}(h:o=o')(hj:(True∧True)=jp):wch o K=wch o' K:=by rw[h]
theorem ch{v:Value}{s:St M}{K:Value→St M→Prop}:wch (some (v,s)) K=wgo v s K:=by
 unfold wch wgo
 rw[eq_iff_iff]
 exact⟨fun ⟨v',s',h,hk⟩=>by cases h;exact hk,fun hk=>⟨v,s,rfl,hk⟩⟩
def wpr(a b:Option Value)(K:Value→Prop):Prop:=must a K∨must b K
theorem wpr_congr{a b a' b':Option Value}{K:Value→Prop}{jp:Prop}(h:a=a')(h2:b=b')(hj:(True∧True)=jp):wpr a b K=wpr a' b' K:=by rw[h,h2]
attribute [congr] wgo_congr wmk_congr wch_congr wpr_congr
theorem pr_l{v:Value}{K:Value→Prop}:wpr (some v) none K=K v:=by simp[wpr,must]
theorem pr_r{v:Value}{K:Value→Prop}:wpr none (some v) K=K v:=by simp[wpr,must]
def cld2(B:Option Blk)(ag:Option Bool)(n o:Nat):Option Value:=match B with
 |some (.cells vs _ _)=>match ag with
  |some true=>(cut vs o n).map fun l => .agg l.toArray
  |some false=>vs[o]?
  |none=>none
 |_=>none
def cld(P:Program)(t:TypeId)(v:Value)(s:St M):Option Value:=match v with
 |.pointer (some a)=>cld2 (s.at' a.block) (aggT P t) (P.cellsOf t) a.off
 |_=>none
theorem cload_eq{a:Addr}:cload P t a s=cld2 (s.at' a.block) (aggT P t) (P.cellsOf t) a.off:=rfl
theorem o_load:wop P w0 ⟨d,.load t x,ty,pos,af,g⟩ ev s K=must (cld P t (ev x) s) fun v=>shape P ty v fun v=>K v s:=rfl
theorem f_load:wfop P ⟨d,.load t x,ty,pos,af,g⟩ ev s F=must (cld P t (ev x) s) fun v=>shape P ty v fun v=>F v s (some v):=rfl
theorem cr_load:cread P ev s (.load t x)=cld P t (ev x) s:=rfl
theorem ld{a:Addr}:cld P t (.pointer (some a)) s=cld2 (s.at' a.block) (aggT P t) (P.cellsOf t) a.off:=rfl
theorem o_box:wop P w0 ⟨d,.box t x,ty,pos,af,g⟩ ev s K=wmk (if qP (ev x)=true∧(P.info? t).isSome then some (.cells (ev x).cells.toList t true,fun b => .pointer (some ⟨b,0,none⟩)) else none) s K:=rfl
theorem o_alloc:wop P w0 ⟨d,.alloc t,ty,pos,af,g⟩ ev s K=wmk ((czero P t).map fun z=>(.cells z.cells.toList t true,fun b => .pointer (some ⟨b,0,none⟩))) s K:=rfl
theorem f_box:wfop P ⟨d,.box t x,ty,pos,af,g⟩ ev s F=wmk (if qP (ev x)=true∧(P.info? t).isSome then some (.cells (ev x).cells.toList t true,fun b => .pointer (some ⟨b,0,none⟩)) else none) s fun v s=>F v s none:=rfl
theorem f_alloc:wfop P ⟨d,.alloc t,ty,pos,af,g⟩ ev s F=wmk ((czero P t).map fun z=>(.cells z.cells.toList t true,fun b => .pointer (some ⟨b,0,none⟩))) s fun v s=>F v s none:=rfl
theorem o_makeMap{t:TypeId}:wop P w0 ⟨d,.makeMap t none,ty,pos,af,g⟩ ev s K=wmk (some (.map [] 0,fun b => .map (some b))) s K:=rfl
theorem o_store:wop P w0 ⟨d,.store t x y,ty,pos,af,g⟩ ev s K=wch (match ev x with
  |.pointer (some a)=>if qP (ev y)=true then (cstore P t a (ev y) s).map fun s'=>(undef,s') else none
  |_=>none) K:=rfl
theorem cstore_eq{a:Addr}{v:Value}:cstore P t a v s=match szOf P t with
  |some n=>if v.cells.size=n then cstoreCells a v.cells.toList s else none
  |none=>none:=by
 unfold cstore szOf
 cases P.info? t<;>rfl
def cst2(s:St M)(a:Addr)(l:List Value)(B:Option Blk):Option (St M):=match B with
 |some (.cells vs e true)=>if a.off+l.length≤vs.length∧l.all qC=true then some (s.put a.block (.cells (setCells vs a.off l) e true)) else none
 |_=>none
theorem cstoreCells_eq{a:Addr}{l:List Value}:cstoreCells a l s=cst2 s a l (s.at' a.block):=rfl
theorem cst{a:Addr}{l vs:List Value}{e:TypeId}:cst2 s a l (some (.cells vs e true))=if a.off+l.length≤vs.length∧l.all qC=true then some (s.put a.block (.cells (setCells vs a.off l) e true)) else none:=rfl
def cfa(o:Option Nat)(v:Value):Option Value:=match o,v with
 |some o,.pointer (some a)=>some (.pointer (some (a.add o)))
 |_,_=>none
theorem cfa_eq{f:Nat}:cpure P ev ty (.fieldAddr t x f)=cfa (faOk P t f) (ev x):=by
 simp only[cpure,faOk,cfa]
 split
 ·rename_i fs a h1 h2
  simp only[h1,h2]
  split
  ·rename_i fl h3
   simp only[h3]
   split
   ·rename_i i h4
    simp only[h4]
    split<;>rfl
   ·rename_i h4;simp only[h4]
  ·rename_i h3;simp only[h3]
 ·rename_i h
  split
  ·rename_i o a h1 h2
   split at h1
   ·rename_i fs h3;exact absurd h2 (h fs a h3)
   ·cases h1
  ·rfl
theorem o_fieldAddr{f:Nat}:wop P w0 ⟨d,.fieldAddr t x f,ty,pos,af,g⟩ ev s K=must (cfa (faOk P t f) (ev x)) fun v=>K v s:=by
 rw[← cfa_eq (P:=P) (ev:=ev) (ty:=ty)];rfl
theorem f_fieldAddr{f:Nat}:wfop P ⟨d,.fieldAddr t x f,ty,pos,af,g⟩ ev s F=must (cfa (faOk P t f) (ev x)) fun v=>F v s none:=by
 rw[← cfa_eq (P:=P) (ev:=ev) (ty:=ty)];rfl
theorem fa{o:Nat}{a:Addr}:cfa (some o) (.pointer (some a))=some (.pointer (some (a.add o))):=rfl
theorem add_mk{b o n:Nat}:(⟨b,o,none⟩:Addr).add n=⟨b,o+n,none⟩:=addr_add_mk b o n
def cixB(sz:Option Nat)(i:Int)(n:Nat)(a:Addr):Option Value:=match sz with
 |some z=>if 0≤i∧i<n then some (.pointer (some (a.add (i.toNat*z)))) else none
 |none=>none
def cixA(P:Program)(td:Option TypeDesc)(v ix:Value):Option Value:=match ix with
 |.int _ i=>match td,v with
  |some (.slice e),.slice (some a) n _=>cixB (szOf P e) i n a
  |some (.array n e),.pointer (some a)=>cixB (szOf P e) i n a
  |_,_=>none
 |_=>none
theorem cix_eq{v ix:Value}:cidxAddr P t v ix=cixA P (P.underlying t) v ix:=by
 unfold cidxAddr cixA
 cases ix with
 |int k i =>
  dsimp only
  cases P.underlying t with
  |none=>rfl
  |some td =>
   cases td with
   |slice e =>
    cases v with
    |slice a n c=>cases a with
     |none=>rfl
     |some a=>simp only[cixB,szOf];cases P.info? e<;>rfl
    |_=>rfl
   |array n e =>
    cases v with
    |pointer a=>cases a with
     |none=>rfl
     |some a=>simp only[cixB,szOf];cases P.info? e<;>rfl
    |_=>rfl
   |_=>rfl
 |_=>rfl
theorem ix_slice{e:TypeId}{a:Addr}{n c:Nat}{k:IntKind}{i:Int}:cixA P (some (.slice e)) (.slice (some a) n c) (.int k i)=cixB (szOf P e) i n a:=rfl
theorem ix_array{e:TypeId}{a:Addr}{n:Nat}{k:IntKind}{i:Int}:cixA P (some (.array n e)) (.pointer (some a)) (.int k i)=cixB (szOf P e) i n a:=rfl
theorem ixb{z n:Nat}{i:Int}{a:Addr}:cixB (some z) i n a=if 0≤i∧i<n then some (.pointer (some (a.add (i.toNat*z)))) else none:=rfl
end
end Go.Cs
namespace Go.Cs
section
variable {M:Type}[Mem M]{P:Program}{w0:World}
variable {d:Option Tmp}{ty:TypeId}{pos:String}{af:Array Edge}{g:Option (Nat×Bool)}{ev:Operand→Value}{s:St M}{K:Value→St M→Prop}{F:Value→St M→Option Value→Prop}{x y:Operand}{t t2:TypeId}
def clen(td:Option TypeDesc)(v:Option Value):Option Value:=match td,v with
  |some (.slice _),some (.slice _ n _)=>some (.int .i64 n)
  |some .string,some (.string s)=>some (.int .i64 s.size)
  |some (.array n _),some _=>some (.int .i64 n)
  |some (.map _ _),some (.map none)=>some (.int .i64 0)
  |_,_=>none
def clenM(s:St M)(td:Option TypeDesc)(v:Option Value):Option Value:=match td,v with
   |some (.map _ _),some (.map (some r))=>match s.at' r with
    |some (.map es _)=>some (.int .i64 es.length)
    |_=>none
   |_,_=>none
theorem o_len{args:Array Operand}{ats:Array TypeId}:wop P w0 ⟨d,.call ⟨.builtin .len,args,ats⟩,ty,pos,af,g⟩ ev s K =
  wpr (clen (ats[0]?.bind P.underlying) ((args.map ev)[0]?)) (clenM s (ats[0]?.bind P.underlying) ((args[0]?).map ev)) fun v=>K v s:=rfl
theorem f_len{args:Array Operand}{ats:Array TypeId}:wfop P ⟨d,.call ⟨.builtin .len,args,ats⟩,ty,pos,af,g⟩ ev s F =
  (must (clen (ats[0]?.bind P.underlying) ((args.map ev)[0]?)) (fun v=>F v s none)∨must (clenM s (ats[0]?.bind P.underlying) ((args[0]?).map ev)) fun v=>F v s (some v)):=rfl
theorem len_slice{e:TypeId}{a:Option Addr}{n c:Nat}:clen (some (.slice e)) (some (.slice a n c))=some (.int .i64 n):=rfl
theorem len_string{b:ByteArray}:clen (some .string) (some (.string b))=some (.int .i64 b.size):=rfl
theorem lenM_slice{e:TypeId}{v:Option Value}:clenM s (some (.slice e)) v=none:=rfl
theorem lenM_string{v:Option Value}:clenM s (some .string) v=none:=rfl
def cnil(v:Value):Option Value:=match v with
  |.pointer (some a)=>some (.pointer (some a))
  |.iface t v=>some (.iface t v)
  |.func (.func f) a b=>some (.func (.func f) a b)
  |_=>none
theorem o_nilCheck:wop P w0 ⟨d,.nilCheck x,ty,pos,af,g⟩ ev s K=must (cnil (ev x)) fun v=>K v s:=rfl
theorem f_nilCheck:wfop P ⟨d,.nilCheck x,ty,pos,af,g⟩ ev s F=must (cnil (ev x)) fun v=>F v s none:=rfl
theorem nil_p{a:Addr}:cnil (.pointer (some a))=some (.pointer (some a)):=rfl
def cidx(P:Program)(td:Option TypeDesc)(v ix:Value):Option Value:=match td,v,ix with
  |some .string,.string s,.int _ i=>if 0≤i then (s[i.toNat]?).map fun b => .int .u8 b.toNat else none
  |some (.array n e),.agg cs,.int _ i=>match P.info? e with
   |some ie=>if 0≤i∧i<n then cpart P e cs (i.toNat*ie.size) else none
   |none=>none
  |_,_,_=>none
theorem o_index:wop P w0 ⟨d,.index t x y,ty,pos,af,g⟩ ev s K=must (cidx P (P.underlying t) (ev x) (ev y)) fun v=>K v s:=rfl
theorem f_index:wfop P ⟨d,.index t x y,ty,pos,af,g⟩ ev s F=must (cidx P (P.underlying t) (ev x) (ev y)) fun v=>F v s none:=rfl
theorem ix_str{b:ByteArray}{k:IntKind}{i:Int}:cidx P (some .string) (.string b) (.int k i)=if 0≤i then (b[i.toNat]?).map fun b => .int .u8 b.toNat else none:=rfl
end
end Go.Cs
namespace Go.Cs
section
variable {P:Program}{d:Nat}{xs ys:Array Value}{f:Field}{fs:List Field}{a b:Value}{r s:Bool}{t:TypeId}
theorem pureRun_program:pureRun P program=some P:=rfl
theorem pureRun_ite{α:Type}{c:Prop}[Decidable c]{x y:Sem α}:pureRun P (if c then x else y)=if c then pureRun P x else pureRun P y:=by split<;>rfl
theorem pr_eqStruct{fs:Array Field}(ht:P.underlying t=some (.struct fs))(hp:P.stoodInHeld t=false):pureRun P (Op.equalIn (d+1) t (.agg xs) (.agg ys))=pureRun P (Op.eqFields d xs ys fs.toList):=by
 simp only[Op.equalIn,pureRun_bind,pureRun_underlying ht,Option.bind_some,pureRun_program,hp,Bool.false_eq_true,if_false]
 rw[← Array.forIn_toList]
 generalize fs.toList=fs
 clear ht
 induction fs with
 |nil=>simp only[List.forIn_nil,pureRun_pure,Op.eqFields,Option.bind_some]
 |cons f fs ih =>
  simp only[List.forIn_cons,Op.eqFields,pureRun_bind,pureRun_ite]
  split
  ·cases pureRun P (part f.type xs f.offset) with
   |none=>rfl
   |some a =>
    simp only[Option.bind_some]
    cases pureRun P (part f.type ys f.offset) with
    |none=>rfl
    |some b =>
     simp only[Option.bind_some]
     cases pureRun P (Op.equalIn d f.type a b) with
     |none=>rfl
     |some r =>
      cases r with
      |true=>simpa [pureRun_pure] using ih
      |false=>simp[pureRun_pure]
  ·simpa [pureRun_pure] using ih
theorem pr_eqNil:pureRun P (Op.eqFields d xs ys [])=some true:=rfl
theorem pr_eqCons(hn:(f.name == "_")=false)(ha:pureRun P (part f.type xs f.offset)=some a)(hb:pureRun P (part f.type ys f.offset)=some b)(he:pureRun P (Op.equalIn d f.type a b)=some r)(hr:pureRun P (Op.eqFields d xs ys fs)=some s) :
  pureRun P (Op.eqFields d xs ys (f::fs))=some (r && s):=by
 have hn':f.name ≠ "_":=by simpa using hn
 rw[Op.eqFields]
 simp only[if_pos hn',pureRun_bind,ha,hb,he,Option.bind_some,pureRun_ite,hr]
 cases r<;>rfl
theorem pr_eqInt{k0 k:IntKind}{a b:Int}(h:P.underlying t=some (.int k0)):pureRun P (Op.equalIn (d+1) t (.int k a) (.int k b))=some (a == b):=by
 simp only[Op.equalIn,pureRun_bind,pureRun_underlying h,Option.bind_some,if_true,pureRun_pure]
theorem pr_eqString{a b:ByteArray}(h:P.underlying t=some .string):pureRun P (Op.equalIn (d+1) t (.string a) (.string b))=some (decide (a=b)):=by
 simp only[Op.equalIn,pureRun_bind,pureRun_underlying h,Option.bind_some,pureRun_pure]
 rw[← decide_ba]
 simp only[beq_toListBytes]
end
end Go.Cs
namespace Go.Cs
section
variable {M:Type}[Mem M]
def St.le(s s':St M):Prop:=s.next≤s'.next∧∀ b,b<s.next→s'.at' b=s.at' b
theorem St.le_refl(s:St M):s.le s:=⟨Nat.le_refl _,fun _ _=>rfl⟩
theorem St.le_trans{s s1 s2:St M}(h:s.le s1)(h':s1.le s2):s.le s2:=
 ⟨Nat.le_trans h.1 h'.1,fun b hb=>by rw[h'.2 b (Nat.lt_of_lt_of_le hb h.1),h.2 b hb]⟩
theorem St.le_new{s s1:St M}{B:Blk}(h:s.le s1):s.le (s1.new B):=
 ⟨by have:=h.1;simp;omega,fun b hb=>by rw[St.at_new,if_neg (by have:=h.1;omega)];exact h.2 b hb⟩
theorem St.le_put{s s1:St M}{B:Blk}{b:Nat}(h:s.le s1)(hb:s.next≤b):s.le (s1.put b B):=
 ⟨h.1,fun c hc=>by rw[St.at_put,if_neg oM];exact h.2 c hc⟩
def Fix(W:List Nat)(env env':Env):Prop:=∀ t,W.contains t=false→env' t=env t
theorem Fix.refl{W:List Nat}{env:Env}:Fix W env env:=fun _ _=>rfl
theorem Fix.upd{W:List Nat}{env env':Env}{d:Nat}{v:Value}(hd:W.contains d=true)(h:Fix W env env'):Fix W env (upd env' d v):=by
 intro t ht
 have:t≠d:=by intro e;subst e;rw[hd]at ht;cases ht
 rw[upd_apply,if_neg this]
 exact h t ht
theorem Fix.trans{W:List Nat}{a b c:Env}(h:Fix W a b)(h':Fix W b c):Fix W a c:=fun t ht=>by rw[h' t ht,h t ht]
variable {P:Program}{w0:World}{ord:Ord}{n:Nat}
theorem wloop_fix(hm:P.follows .mixedOrders=true)(W:List Nat){c:Code}{Q:Exit→Env→St M→Prop}{env:Env}{s:St M}(I:Nat→Env→St M→Prop)(k:Nat)(h0:I k env s)
  (h:∀ k env' s',Fix W env env'→I k env' s'→wvc P w0 ord n c (wthen (fun e s=>Fix W env e∧∃ m,m<k∧I m e s) Q) env' s'):WLoop P w0 ord n c Q env s:=by
 refine wloop_inv hm (fun k e s=>Fix W env e∧I k e s) k ⟨Fix.refl,h0⟩ ?_
 rintro k e s ⟨hf,hi⟩
 have:=h k e s hf hi
 have e:(fun (e:Env) (s:St M)=>Fix W env e∧∃ m,m<k∧I m e s)=(fun (e:Env) (s:St M)=>∃ m,m<k∧Fix W env e∧I m e s):=by
  funext e s
  rw[eq_iff_iff]
  exact⟨fun ⟨a,m,b,c⟩=>⟨m,b,a,c⟩,fun ⟨m,b,a,c⟩=>⟨a,m,b,c⟩⟩
 rw[e]at this
 exact this
variable {d:Option Tmp}{ty:TypeId}{pos:String}{af:Array Edge}{g:Option (Nat×Bool)}{ev:Operand→Value}{s:St M}{K:Value→St M→Prop}{F:Value→St M→Option Value→Prop}{x y:Operand}{t t2:TypeId}
def wcalv(P:Program)(w0:World)(o:Oper)(ev:Operand→Value)(fv:Value)(args:Array Value)(s:St M)(ty:TypeId)(K:Value→St M→Prop):Prop:=match fv with
 |.func (.func f) first cap=>(match qK P f with
  |true=>QC P w0 f (first++args++cap) s fun v s'=>shape P ty v fun v=>K v s'
  |false=>wopx P w0 o ev s K)
 |.func (.yield l) _ _=>CRound P w0 l args s fun v s'=>shape P ty v fun v=>K v s'
 |_=>wopx P w0 o ev s K
theorem wcalv_congr{o:Oper}{ev:Operand→Value}{fv fv':Value}{args args':Array Value}{s:St M}{K:Value→St M→Prop}{jp:Prop}(h:fv=fv')(h2:args=args')(hj:(True∧True)=jp):wcalv P w0 o ev fv args s ty K=wcalv P w0 o ev fv' args' s ty K:=by rw[h,h2]
attribute [congr] wcalv_congr
theorem o_calv{u:Nat}{args:Array Operand}{ats:Array TypeId}{env:Env} :
  wop P w0 ⟨d,.call ⟨.value (.tmp u),args,ats⟩,ty,pos,af,g⟩ (wev env) s K=wcalv P w0 ⟨d,.call ⟨.value (.tmp u),args,ats⟩,ty,pos,af,g⟩ (wev env) (wev env (.tmp u)) (args.map (wev env)) s ty K:=by
 unfold wcalv
 split
 ·rename_i f first cap hfv
  split
  ·rename_i hok
   obtain⟨fn,h1,h2⟩:=callOk_spec hok
   unfold wop
   simp only[kindOf,ccallee,hfv,h1,h2,if_true]
  ·rfl
 ·rename_i l x1 x2 hfv
  unfold wop
  simp only[kindOf,ccallee,cyield,hfv]
 ·rfl
theorem caly{o:Oper}{ev:Operand→Value}{l:Nat}{a b args:Array Value}:wcalv P w0 o ev (.func (.yield l) a b) args s ty K=CRound P w0 l args s fun v s'=>shape P ty v fun v=>K v s':=rfl
theorem calv{o:Oper}{ev:Operand→Value}{f:FuncId}{a b args:Array Value}(h:qK P f=true):wcalv P w0 o ev (.func (.func f) a b) args s ty K=QC P w0 f (a++args++b) s fun v s'=>shape P ty v fun v=>K v s':=by
 unfold wcalv
 simp only[h]
theorem o_makeFunc{f:FuncId}{a b:Array Operand}:wop P w0 ⟨d,.makeFunc (.func f) a b,ty,pos,af,g⟩ ev s K=wval (.func (.func f) (a.map ev) (b.map ev)) fun v=>K v s:=by
 unfold wop
 simp only[kindOf,wpu,cpure,must,wval]
 simp
theorem f_makeFunc{f:FuncId}{a b:Array Operand}:wfop P ⟨d,.makeFunc (.func f) a b,ty,pos,af,g⟩ ev s F=wval (.func (.func f) (a.map ev) (b.map ev)) fun v=>F v s none:=by
 unfold wfop
 simp only[kindOf,wpu,cpure,must,wval]
 simp
def wextr(o:Option Value)(c:Option (Value×St M))(s:St M)(K:Value→St M→Prop):Prop:=match o with
 |some v=>K v s
 |none=>match c with
  |some (v,s')=>K v s'
  |none=>False
theorem wextr_congr{o o':Option Value}{c c':Option (Value×St M)}{s:St M}{K:Value→St M→Prop}(h:o=o')(h2:c=c'):wextr o c s K=wextr o' c' s K:=by rw[h,h2]
attribute [congr] wextr_congr
theorem x_ext1{v:Value}{c:Option (Value×St M)}:wextr (some v) c s K=K v s:=rfl
theorem x_ext2{v:Value}{s':St M}:wextr none (some (v,s')) s K=K v s':=rfl
theorem o_ext{f:FuncId}{args:Array Operand}{ats:Array TypeId}{env:Env}(h:qK P f=false) :
  wop P w0 ⟨d,.call ⟨.value (.func f),args,ats⟩,ty,pos,af,g⟩ (wev env) s K=wextr (cextern P f (args.map (wev env))) (catom P f (args.map (wev env)) s) s K:=by
 have hc:ccallee P (wev env) ⟨.value (.func f),args,ats⟩=none:=by
  unfold ccallee
  unfold qK at h
  simp only[wev]
  split
  ·rename_i fn hfn
   rw[hfn]at h
   simp only at h
   rw[h]
   rfl
  ·rfl
 have hy:cyield (wev env) ⟨.value (.func f),args,ats⟩=none:=rfl
 have e:ceff P (wev env) s (.call ⟨.value (.func f),args,ats⟩)=match cextern P f (args.map (wev env)) with|some v=>some (v,s)|none=>catom P f (args.map (wev env)) s:=by
  simp only[ceff,wev,Array.empty_append,Array.append_empty]
  cases cextern P f (args.map (wev env))<;>rfl
 unfold wop
 simp only[kindOf,hc,hy,e]
 unfold wextr
 rw[eq_iff_iff]
 cases cextern P f (args.map (wev env)) with
 |some v =>
  simp only
  constructor
  ·rintro⟨v1,s',h1,h2⟩;cases h1;exact h2
  ·intro h1;exact⟨v,s,rfl,h1⟩
 |none =>
  simp only
  cases catom P f (args.map (wev env)) s with
  |none=>exact⟨fun ⟨_,_,h1,_⟩=>(by cases h1),fun h=>h.elim⟩
  |some x =>
   obtain⟨v,s1⟩:=x
   constructor
   ·rintro⟨v1,s',h1,h2⟩;cases h1;exact h2
   ·intro h1;exact⟨v,s1,rfl,h1⟩
def cus(P:Program)(td:Option TypeDesc)(p n:Value)(s:St M)(B:Option Blk):Option (Value×St M):=match td,p,n with
   |some (.pointer u),.pointer p,.int _ n =>
    if n=0 then some (.string .empty,s)
    else match p with
     |some a=>match B with
      |some (.cells vs e true)=>if 0<n∧n≤9223372036854775807∧upOk P e u=true∧P.cellsOf e=1 then
        (match (cut vs a.off n.toNat).bind fun l=>l.mapM byteOf? with
         |some bs=>some (.string ⟨bs.toArray⟩,s.put a.block (.cells vs e false))
         |none=>none)
       else none
      |_=>none
     |none=>none
   |_,_,_=>none
def cusv(P:Program)(td:Option TypeDesc)(p n:Value)(s:St M):Option (Value×St M):=match p with
 |.pointer (some a)=>cus P td (.pointer (some a)) n s (s.at' a.block)
 |p=>cus P td p n s none
theorem o_us{x y:Operand}{t1 t2:TypeId}:wop P w0 ⟨d,.call ⟨.builtin .unsafeString,#[x,y],#[t1,t2]⟩,ty,pos,af,g⟩ ev s K=wch (cusv P (P.underlying t1) (ev x) (ev y) s) K:=by
 have e:ceff P ev s (.call ⟨.builtin .unsafeString,#[x,y],#[t1,t2]⟩)=cusv P (P.underlying t1) (ev x) (ev y) s:=by
  simp only[ceff,cusv,cus,List.getElem?_toArray,List.getElem?_cons_zero,List.getElem?_cons_succ,Option.bind_some,Option.map_some,List.size_toArray,List.length_cons,List.length_nil]
  cases P.underlying t1 with
  |none=>cases ev x with
   |pointer p=>cases p<;>rfl
   |_=>rfl
  |some td=>cases td<;>first
   |(cases ev x with
     |pointer p=>cases p<;>rfl
     |_=>rfl)
   |(cases ev x with
     |pointer p=>cases p<;>cases ev y<;>first|rfl|(simp only[Nat.reduceAdd,Nat.reduceBEq,Bool.true_eq_false,if_false])
     |_=>rfl)
 unfold wop
 simp only[kindOf,e]
 rfl
theorem us_p{td:Option TypeDesc}{a:Addr}{n:Value}:cusv P td (.pointer (some a)) n s=cus P td (.pointer (some a)) n s (s.at' a.block):=rfl
theorem us_0{u:TypeId}{k:IntKind}:cusv P (some (.pointer u)) (.pointer none) (.int k 0) s=some (.string .empty,s):=rfl
theorem f_ssd{args:Array Operand}{ats:Array TypeId}:wfop P ⟨d,.call ⟨.builtin .unsafeSliceData,args,ats⟩,ty,pos,af,g⟩ ev s F=must (cbuiltin P .unsafeSliceData ats ty (args.map ev)) fun v=>F v s none:=rfl
theorem ssd_some{ats:Array TypeId}{a:Addr}{n c:Nat}:cbuiltin P .unsafeSliceData ats ty #[.slice (some a) n c]=if c≠0∧(c=UNK→n≠0) then some (.pointer (some a)) else none:=rfl
theorem ssd_none{ats:Array TypeId}{n c:Nat}:cbuiltin P .unsafeSliceData ats ty #[.slice none n c]=some (.pointer none):=rfl
theorem cus_hit{u e:TypeId}{a:Addr}{k:IntKind}{n:Nat}{vs:List Value}{l:List UInt8}(h0:n≠0)(h1:n≤9223372036854775807)(hu:upOk P e u=true)(he:P.cellsOf e=1)(hc:cut vs a.off n=some (l.map fun b => .int .u8 b.toNat)) :
  cus P (some (.pointer u)) (.pointer (some a)) (.int k n) s (some (.cells vs e true))=some (.string ⟨l.toArray⟩,s.put a.block (.cells vs e false)):=by
 have hm:∀ l:List UInt8,(l.map fun b=>Value.int .u8 b.toNat).mapM byteOf?=some l:=by
  intro l
  induction l with
  |nil=>rfl
  |cons b l ih=>simp[List.mapM_cons,byteOf?,ih]
 unfold cus
 simp only
 rw[if_neg oM,if_pos ⟨oM,oM,hu,he⟩,Int.toNat_natCast,hc,Option.bind_some,hm]
def wneg(P:Program)(v:Value)(K:Value→Prop):Prop:=must (if plain 1 v=true then pure6 P (Op.unary .neg v) else none) K
theorem wneg_congr{v v':Value}{K:Value→Prop}{jp:Prop}(h:v=v')(hj:(True∧True)=jp):wneg P v K=wneg P v' K:=by rw[h]
attribute [congr] wneg_congr
theorem o_neg:wop P w0 ⟨d,.unOp .neg t x,ty,pos,af,g⟩ ev s K=wneg P (ev x) fun v=>K v s:=rfl
theorem neg_int{k:IntKind}{m:Int}{K:Value→Prop}:wneg P (.int k m) K=wval (.int k (k.wrap (-m))) K:=by
 unfold wneg wval must
 simp only[plain,if_true,pure6,Op.unary,Op.intArith,pureRun_pure]
 simp
theorem o_slice{lo hi mx:Option Operand}:wop P w0 ⟨d,.slice t x lo hi mx,ty,pos,af,g⟩ ev s K=wpr (cslice P t (ev x) (lo.map ev) (hi.map ev) (mx.map ev)) (cread P ev s (.slice t x lo hi mx)) fun v=>K v s:=rfl
theorem f_slice{lo hi mx:Option Operand}:wfop P ⟨d,.slice t x lo hi mx,ty,pos,af,g⟩ ev s F=(must (cslice P t (ev x) (lo.map ev) (hi.map ev) (mx.map ev)) (fun v=>F v s none)∨must (cread P ev s (.slice t x lo hi mx)) fun v=>F v s (some v)):=rfl
def cbs2(vs:Option Blk)(off n:Nat):Option Value:=match vs with
 |some (.cells vs _ _)=>(match cut vs off n with
    |some l=>(l.mapM byteOf?).map fun bs => .string ⟨bs.toArray⟩
    |none=>none)
 |_=>none
def cbs(s:St M)(v:Value):Option Value:=match v with
 |.slice (some a) n _=>cbs2 (s.at' a.block) a.off n
 |.slice none _ _=>some (.string .empty)
 |_=>none
theorem cread_bs{src dst e:TypeId}(h1:P.underlying src=some (.slice e))(h2:P.underlying dst=some .string)(h3:P.underlying e=some (.int .u8)):cread P ev s (.convert src dst x)=cbs s (ev x):=by
 unfold cread cbs cbs2
 simp only[h1,h2]
 generalize ev x=v
 cases v with
 |slice a n c =>
  cases a with
  |none=>simp only[h3]
  |some a=>simp only[h3];cases s.at' a.block with
   |none=>rfl
   |some B=>cases B<;>rfl
 |_=>rfl
def wbs(P:Program)(w0:World)(o:Oper)(ev:Operand→Value)(s:St M)(K:Value→St M→Prop)(v:Value):Prop:=match v with
 |.slice a n c=>must (cbs s (.slice a n c)) fun v=>shape P o.type v fun v=>K v s
 |_=>wop P w0 o ev s K
theorem wbs_congr{o:Oper}{ev:Operand→Value}{s:St M}{K:Value→St M→Prop}{v v':Value}{jp:Prop}(h:v=v')(hj:(True∧True)=jp):wbs P w0 o ev s K v=wbs P w0 o ev s K v':=by rw[h]
attribute [congr] wbs_congr
theorem o_bs{src dst e:TypeId}(h1:P.underlying src=some (.slice e))(h2:P.underlying dst=some .string)(h3:P.underlying e=some (.int .u8)) :
  wopx P w0 ⟨d,.convert src dst x,ty,pos,af,g⟩ ev s K=wbs P w0 ⟨d,.convert src dst x,ty,pos,af,g⟩ ev s K (ev x):=by
 unfold wopx wbs
 split
 ·rename_i a n c hv
  unfold wop
  simp only[kindOf,hv]
  rw[cread_bs h1 h2 h3,hv]
 ·rfl
theorem bs_go{o:Oper}{a:Option Addr}{n c:Nat}:wbs P w0 o ev s K (.slice a n c)=must (cbs s (.slice a n c)) fun v=>shape P o.type v fun v=>K v s:=rfl
theorem bs_at{a:Addr}{n c:Nat}:cbs s (.slice (some a) n c)=cbs2 (s.at' a.block) a.off n:=rfl
def crow(P:Program)(t:TypeId)(len:Nat)(parts:Array (Nat×Value)):Option Blk:=match P.underlying t with
  |some (.slice e)=>match P.info? e with
   |some ie=>if len*ie.size≤65536∧len<UNK∧(parts.toList.all fun x=>qP x.2)=true then
     match zerosOf P e (len*ie.size) with
     |some z=>match Instr.fill (fun i=>some (i*ie.size,ie.size)) z.toArray parts.toList with
      |some cells=>some (.cells cells.toList e true)
      |none=>none
     |none=>none
    else none
   |none=>none
  |_=>none
theorem calloc_row{len:Nat}{parts:Array (Nat×Operand)}:calloc P ev (.buildSlice t len parts)=(crow P t len (parts.map fun x=>(x.1,ev x.2))).map fun B=>(B,fun b => .slice (some ⟨b,0,none⟩) len len):=by
 unfold calloc crow
 dsimp only
 have e:((parts.map fun x=>(x.1,ev x.2)).toList.all fun x=>qP x.2)=(parts.toList.all fun x=>qP (ev x.2)):=by
  simp[Function.comp_def]
 rw[e]
 cases P.underlying t with
 |none=>rfl
 |some td =>
  cases td with
  |slice e' =>
   dsimp only
   cases P.info? e' with
   |none=>rfl
   |some ie =>
    dsimp only
    by_cases hc:len*ie.size≤65536∧len<UNK∧(parts.toList.all fun x=>qP (ev x.snd))=true
    ·rw[if_pos hc,if_pos hc]
     cases zerosOf P e' (len*ie.size) with
     |none=>rfl
     |some z =>
      dsimp only
      cases Instr.fill (fun i=>some (i*ie.size,ie.size)) z.toArray (Array.map (fun x=>(x.fst,ev x.snd)) parts).toList<;>rfl
    ·rw[if_neg hc,if_neg hc];rfl
  |_=>rfl
theorem o_row{len:Nat}{parts:Array (Nat×Operand)}:wop P w0 ⟨d,.buildSlice t len parts,ty,pos,af,g⟩ ev s K=wmk ((crow P t len (parts.map fun x=>(x.1,ev x.2))).map fun B=>(B,fun b => .slice (some ⟨b,0,none⟩) len len)) s K:=by
 rw[← calloc_row];rfl
theorem f_row{len:Nat}{parts:Array (Nat×Operand)}:wfop P ⟨d,.buildSlice t len parts,ty,pos,af,g⟩ ev s F=wmk ((crow P t len (parts.map fun x=>(x.1,ev x.2))).map fun B=>(B,fun b => .slice (some ⟨b,0,none⟩) len len)) s fun v s=>F v s none:=by
 rw[← calloc_row];rfl
def cbuild(P:Program)(t:TypeId)(parts:Array (Nat×Value)):Option Value:=if (parts.toList.all fun x=>qP x.2)=true∧zeroPlain P t=true then pureRun P (Instr.build t parts) else none
theorem cpure_build{parts:Array (Nat×Operand)}:cpure P ev ty (.build t parts)=cbuild P t (parts.map fun x=>(x.1,ev x.2)):=by
 unfold cpure cbuild
 have e:((parts.map fun x=>(x.1,ev x.2)).toList.all fun x=>qP x.2)=(parts.toList.all fun x=>qP (ev x.2)):=by
  simp[Function.comp_def]
 rw[e]
theorem o_build{parts:Array (Nat×Operand)}:wop P w0 ⟨d,.build t parts,ty,pos,af,g⟩ ev s K=must (cbuild P t (parts.map fun x=>(x.1,ev x.2))) fun v=>K v s:=by
 rw[← cpure_build (ty:=ty)];rfl
theorem f_build{parts:Array (Nat×Operand)}:wfop P ⟨d,.build t parts,ty,pos,af,g⟩ ev s F=must (cbuild P t (parts.map fun x=>(x.1,ev x.2))) fun v=>F v s none:=by
 rw[← cpure_build (ty:=ty)];rfl
def clk3(ok:Bool)(r:Option (Option (Nat×Value)))(z:Option Value):Option Value:=match r with
 |some (some (_,v))=>some (if ok then .tuple #[v,.bool true] else v)
 |some none=>z.map fun z=>if ok then .tuple #[z,.bool false] else z
 |none=>none
def clk2(P:Program)(td:Option TypeDesc)(B:Option Blk)(k:Value)(ok:Bool):Option Value:=match td with
 |some (.map kt et)=>match B with
  |some (.map es _)=>clk3 ok (cfind P kt k es) (czero P et)
  |_=>none
 |_=>none
def clkn(P:Program)(td:Option TypeDesc)(k:Value)(ok:Bool):Option Value:=match td with
 |some (.map kt et)=>clk3 ok (cfind P kt k []) (czero P et)
 |_=>none
theorem lk_map{r:Nat}{k:Value}{ok:Bool}:clookup P t (.map (some r)) k ok s=clk2 P (P.underlying t) (s.at' r) k ok:=by
 unfold clookup clk2 clk3
 split
 ·rename_i kt et h
  simp only[h]
  cases s.at' r with
  |none=>rfl
  |some B=>cases B<;>rfl
 ·rename_i h
  split
  ·rename_i h2;exact absurd h2 (h _ _)
  ·rfl
theorem lk_nil{k:Value}{ok:Bool}:clookup P t (.map none) k ok s=clkn P (P.underlying t) k ok:=by
 unfold clookup clkn clk3
 split
 ·rename_i kt et h;simp only[h];rfl
 ·rename_i h
  split
  ·rename_i h2;exact absurd h2 (h _ _)
  ·rfl
theorem lk2{kt et:TypeId}{es:List MapEntry}{c:Nat}{k:Value}{ok:Bool}:clk2 P (some (.map kt et)) (some (.map es c)) k ok=clk3 ok (cfind P kt k es) (czero P et):=rfl
theorem lkn{kt et:TypeId}{k:Value}{ok:Bool}:clkn P (some (.map kt et)) k ok=clk3 ok (cfind P kt k []) (czero P et):=rfl
theorem lk3_hit{i:Nat}{v:Value}{z:Option Value}:clk3 true (some (some (i,v))) z=some (.tuple #[v,.bool true]):=rfl
theorem lk3_miss{z:Value}:clk3 true (some none) (some z)=some (.tuple #[z,.bool false]):=rfl
theorem o_lookup{ok:Bool}:wop P w0 ⟨d,.lookup t x y ok,ty,pos,af,g⟩ ev s K=must (clookup P t (ev x) (ev y) ok s) fun v=>shape P ty v fun v=>K v s:=rfl
def cms3(s:St M)(r:Nat)(es:List MapEntry)(c:Nat)(k v:Value)(o:Option (Option (Nat×Value))):Option (St M):=match o with
 |some (some (i,_))=>some (s.put r (.map (es.modify i fun e=>{ e with key:=k,val:=v }) c))
 |some none=>some (s.put r (.map (es ++ [{ key:=k,val:=v,born:=c }]) (c+1)))
 |none=>none
def cms2(P:Program)(td:Option TypeDesc)(s:St M)(r:Nat)(B:Option Blk)(k v:Value):Option (St M):=match td with
 |some (.map kt _)=>match B with
  |some (.map es c)=>cms3 s r es c k v (cfind P kt k es)
  |_=>none
 |_=>none
theorem ms_map{r:Nat}{k v:Value}:cmapset P t (.map (some r)) k v s=cms2 P (P.underlying t) s r (s.at' r) k v:=by
 unfold cmapset cms2
 split
 ·rename_i kt et r' h h2
  cases h2
  simp only[h]
  cases s.at' r with
  |none=>rfl
  |some B=>cases B<;>rfl
 ·rename_i h
  split
  ·rename_i kt et h2;exact absurd rfl (h kt et r h2)
  ·rfl
theorem ms2{kt et:TypeId}{r:Nat}{es:List MapEntry}{c:Nat}{k v:Value}:cms2 P (some (.map kt et)) s r (some (.map es c)) k v=cms3 s r es c k v (cfind P kt k es):=rfl
theorem ms3_hit{r i:Nat}{es:List MapEntry}{c:Nat}{k v u:Value}:cms3 s r es c k v (some (some (i,u)))=some (s.put r (.map (es.modify i fun e=>{ e with key:=k,val:=v }) c)):=rfl
theorem ms3_miss{r:Nat}{es:List MapEntry}{c:Nat}{k v:Value}:cms3 s r es c k v (some none)=some (s.put r (.map (es ++ [{ key:=k,val:=v,born:=c }]) (c+1))):=rfl
theorem o_mapUpdate{z:Operand}:wop P w0 ⟨d,.mapUpdate t x y z,ty,pos,af,g⟩ ev s K=wch ((cmapset P t (ev x) (ev y) (ev z) s).map fun s'=>(undef,s')) K:=rfl
def cmore2(n size off:Nat)(B:Option Blk):Option (Nat×List Value):=match B with
 |some (.cells vs _ _)=>(cut vs off (n*size)).map fun l=>(n,l)
 |_=>none
theorem more_at{size n c:Nat}{b:Addr}:cmore size (.slice (some b) n c) s=cmore2 n size b.off (s.at' b.block):=rfl
theorem more_nil{size n c:Nat}:cmore size (.slice none n c) s=some (0,[]):=rfl
theorem more2{n size off:Nat}{vs:List Value}{e:TypeId}{w:Bool}:cmore2 n size off (some (.cells vs e w))=(cut vs off (n*size)).map fun l=>(n,l):=rfl
def capp4(P:Program)(e:TypeId)(ie:TypeInfo)(a:Addr)(k n:Nat)(new:List Value)(s:St M)(B:Option Blk):Option (Value×St M):=match B with
       |some (.cells vs et true)=>if et=e∧a.off % ie.size=0 then (match cut vs a.off (k*ie.size) with
        |some old=>cgrow P e ie (k+n) (old++new) (s.kill a.block)
        |none=>none) else none
       |_=>none
def capp5(P:Program)(e:TypeId)(ie:TypeInfo)(a:Addr)(k n:Nat)(new:List Value)(s:St M)(B:Option Blk):Option (Value×St M):=match B with
      |some (.cells vs _ _)=>match cut vs a.off (k*ie.size) with
       |some old=>cgrow P e ie (k+n) (old++new) s
       |none=>none
      |_=>none
def capp3(P:Program)(e:TypeId)(ie:TypeInfo)(sl:Value)(s:St M)(more:Option (Nat×List Value)):Option (Value×St M):=match more with
 |none=>none
 |some (n,new)=>if new.all qC=false then none else match sl with
    |.slice none _ _=>if n=0 then some (.slice none 0 0,s) else cgrow P e ie n new s
    |.slice (some a) k c =>
     if c=UNK then
      if n=0 then some (.slice (some a) k c,s)
      else capp4 P e ie a k n new s (s.at' a.block)
     else if k+n≤c then
      if n=0 then some (.slice (some a) k c,s) else (cstoreCells (a.add (k*ie.size)) new s).map fun s'=>(.slice (some a) (k+n) c,s')
     else capp5 P e ie a k n new s (s.at' a.block)
    |_=>none
theorem app_eq{t1 t2 e e2:TypeId}{ie:TypeInfo}{sl v:Value}(h1:P.underlying t1=some (.slice e))(h2:P.underlying t2=some (.slice e2))(h3:P.info? e=some ie) :
  capp P #[t1,t2] #[sl,v] s=capp3 P e ie sl s (cmore ie.size v s):=by
 unfold capp capp3
 simp only[List.getElem?_toArray,List.getElem?_cons_zero,List.getElem?_cons_succ,Option.bind_some,h1,h2,h3]
 cases cmore ie.size v s<;>rfl
theorem app_eq_str{t1 t2 e:TypeId}{ie:TypeInfo}{sl v:Value}(h1:P.underlying t1=some (.slice e))(h2:P.underlying t2=some .string)(h3:P.info? e=some ie) :
  capp P #[t1,t2] #[sl,v] s=capp3 P e ie sl s (cmore ie.size v s):=by
 unfold capp capp3
 simp only[List.getElem?_toArray,List.getElem?_cons_zero,List.getElem?_cons_succ,Option.bind_some,h1,h2,h3]
 cases cmore ie.size v s<;>rfl
theorem o_append{args:Array Operand}{ats:Array TypeId}:wop P w0 ⟨d,.call ⟨.builtin .append,args,ats⟩,ty,pos,af,g⟩ ev s K=wch (capp P ats (args.map ev) s) K:=rfl
end
end Go.Cs
namespace Go.Cs
section
variable {M:Type}[Mem M]{P:Program}{w0:World}
variable {d:Option Tmp}{ty:TypeId}{pos:String}{af:Array Edge}{g:Option (Nat×Bool)}{ev:Operand→Value}{s:St M}{K:Value→St M→Prop}{F:Value→St M→Option Value→Prop}{x y:Operand}{t t2:TypeId}
theorem m_none{F:Value→Prop}:must none F=False:=by simp[must]
theorem cast0:((0:Nat):Int)=0:=rfl
theorem ba_empty:ByteArray.empty=⟨#[]⟩:=rfl
theorem o_indexAddr:wop P w0 ⟨d,.indexAddr t x y,ty,pos,af,g⟩ ev s K=must (cixA P (P.underlying t) (ev x) (ev y)) fun v=>K v s:=by
 rw[← cix_eq]
 unfold wop
 simp only[kindOf,wpu]
 split
 ·rename_i e a n c k i h1 h2 h3
  simp only[must,cidxAddr,h1,h2,h3]
  cases h:P.info? e with
  |none=>simp
  |some ie =>
   rw[cellsOf_info h]
   by_cases hc:0≤i∧i<n
   ·simp[hc.1,hc.2]
   ·simp only[if_neg hc,Option.isSome_some,true_and,reduceCtorEq,false_and,exists_false,eq_iff_iff,iff_false]
    rintro⟨h4,h5,_⟩
    exact hc ⟨h4,h5⟩
 ·rfl
theorem f_indexAddr:wfop P ⟨d,.indexAddr t x y,ty,pos,af,g⟩ ev s F=must (cixA P (P.underlying t) (ev x) (ev y)) fun v=>F v s none:=by
 rw[← cix_eq]
 unfold wfop
 simp only[kindOf,wpu]
 split
 ·rename_i e a n c k i h1 h2 h3
  simp only[must,cidxAddr,h1,h2,h3]
  cases h:P.info? e with
  |none=>simp
  |some ie =>
   rw[cellsOf_info h]
   by_cases hc:0≤i∧i<n
   ·simp[hc.1,hc.2]
   ·simp only[if_neg hc,Option.isSome_some,true_and,reduceCtorEq,false_and,exists_false,eq_iff_iff,iff_false]
    rintro⟨h4,h5,_⟩
    exact hc ⟨h4,h5⟩
 ·rfl
theorem cr_slice3{lo hi:Option Operand}{m:Operand}:cread P ev s (.slice t x lo hi (some m))=none:=rfl
theorem sl_arr3{n z l h m:Nat}{e:TypeId}{a:Addr}{k1 k2 k3:IntKind}(hu:P.underlying t=some (.array n e))(hz:szOf P e=some z)(h1:l≤h)(h2:h≤m)(h3:m≤n)(h4:m<UNK) :
  cslice P t (.pointer (some a)) (some (.int k1 l)) (some (.int k2 h)) (some (.int k3 m))=some (.slice (some (if m=l then a else a.add (l*z))) (h - l) (m - l)):=by
 unfold szOf at hz
 cases hi:P.info? e with
 |none=>rw[hi]at hz;cases hz
 |some ie =>
  rw[hi]at hz
  cases hz
  unfold cslice cbound
  simp only[hu,hi]
  have e1:(0:Int)≤m∧(m:Int)≤n:=oM
  have e2:(0:Int)≤h∧(h:Int)≤m:=oM
  have e3:(0:Int)≤l∧(l:Int)≤h:=oM
  simp[e1,e2,e3,h4]
end
section
variable {M:Type}[Mem M]{P:Program}{w0:World}
variable {d:Option Tmp}{ty:TypeId}{pos:String}{af:Array Edge}{g:Option (Nat×Bool)}{ev:Operand→Value}{s:St M}{K:Value→St M→Prop}{F:Value→St M→Option Value→Prop}{x y:Operand}{t t2:TypeId}
theorem wb_eq_p{a:Option Addr}{v:Value}{K:Value→Prop}:wbin P .eql t x y (.pointer a) v K=must (cbin P .eql t x y (.pointer a) v) K:=rfl
theorem wb_ne_p{a:Option Addr}{v:Value}{K:Value→Prop}:wbin P .neq t x y (.pointer a) v K=must (cbin P .neq t x y (.pointer a) v) K:=rfl
theorem wb_eq_m{a:Option Nat}{v:Value}{K:Value→Prop}:wbin P .eql t x y (.map a) v K=must (cbin P .eql t x y (.map a) v) K:=rfl
theorem wb_eq_s{a:Option Addr}{n c:Nat}{v:Value}{K:Value→Prop}:wbin P .eql t x y (.slice a n c) v K=must (cbin P .eql t x y (.slice a n c) v) K:=rfl
theorem wb_eq_a{a:Array Value}{v:Value}{K:Value→Prop}:wbin P .eql t x y (.agg a) v K=must (cbin P .eql t x y (.agg a) v) K:=rfl
theorem wb_ne_a{a:Array Value}{v:Value}{K:Value→Prop}:wbin P .neq t x y (.agg a) v K=must (cbin P .neq t x y (.agg a) v) K:=rfl
theorem wb_eq_b{a b:Bool}{K:Value→Prop}:wbin P .eql t x y (.bool a) (.bool b) K=must (cbin P .eql t x y (.bool a) (.bool b)) K:=rfl
def cpp(P:Program)(op:BinOp)(td:Option TypeDesc)(x y:Value):Option Value:=match x,y,td with
  |.pointer (some a),.pointer (some b),some (.pointer e)=>match P.info? e with
   |some ie =>
    if a.block=b.block∧ie.size≠0∧a.spot=none∧b.spot=none then
     match op with
     |.eql=>some (.bool (a.off == b.off))
     |.neq=>some (.bool (!(a.off == b.off)))
     |_=>none
    else none
   |none=>none
  |_,_,_=>none
theorem cr_bin{op:BinOp}:cread P ev s (.binOp op t x y t2)=cpp P op (P.underlying t) (ev x) (ev y):=rfl
theorem cpp_ne{e:TypeId}{n b o o':Nat}(h:szOf P e=some n)(hn:n≠0):cpp P .neq (some (.pointer e)) (.pointer (some ⟨b,o,none⟩)) (.pointer (some ⟨b,o',none⟩))=some (.bool (!(o == o'))):=by
 unfold szOf at h
 obtain⟨ie,h1,h2⟩:=Option.map_eq_some_iff.1 h
 subst h2
 simp only[cpp,h1,hn,ne_eq,not_false_eq_true,and_self,if_true]
def cup(P:Program)(sd dd:Option TypeDesc)(a:Addr)(B:Option Blk):Option Value:=match sd,dd with
 |some (.pointer t),some .unsafePointer=>match B with
   |some (.cells vs _ _)=>if (P.info? t).any (fun i=>i.size != 0)=true∧a.off<vs.length then some (.pointer (some a)) else none
   |_=>none
 |some .unsafePointer,some (.pointer u)=>match B with
   |some (.cells vs e true)=>if upOk P e u=true∧a.off % P.cellsOf e=0∧a.off+P.cellsOf e≤vs.length then some (.pointer (some a)) else none
   |_=>none
 |_,_=>none
def wcp(P:Program)(w0:World)(o:Oper)(src dst:TypeId)(ev:Operand→Value)(s:St M)(K:Value→St M→Prop)(v:Value):Prop:=match v with
 |.pointer (some a)=>must (cup P (P.underlying src) (P.underlying dst) a (s.at' a.block)) fun v=>shape P o.type v fun v=>K v s
 |_=>wop P w0 o ev s K
theorem wcp_congr{o:Oper}{src dst:TypeId}{ev:Operand→Value}{s:St M}{K:Value→St M→Prop}{v v':Value}{jp:Prop}(h:v=v')(hj:(True∧True)=jp):wcp P w0 o src dst ev s K v=wcp P w0 o src dst ev s K v':=by rw[h]
attribute [congr] wcp_congr
theorem o_cp{src dst:TypeId}:wopx P w0 ⟨d,.convert src dst x,ty,pos,af,g⟩ ev s K=wcp P w0 ⟨d,.convert src dst x,ty,pos,af,g⟩ src dst ev s K (ev x):=by
 unfold wopx wcp
 split
 ·rename_i a hv
  have e:cread P ev s (.convert src dst x)=cup P (P.underlying src) (P.underlying dst) a (s.at' a.block):=by
   unfold cread cup
   simp only[hv]
   cases P.underlying src with
   |none=>rfl
   |some sd =>
    cases P.underlying dst with
    |none=>cases sd<;>rfl
    |some dd=>cases sd<;>cases dd<;>rfl
  unfold wop
  simp only[kindOf,hv]
  rw[e]
 ·rfl
theorem cp_go{o:Oper}{src dst:TypeId}{a:Addr}:wcp P w0 o src dst ev s K (.pointer (some a))=must (cup P (P.underlying src) (P.underlying dst) a (s.at' a.block)) fun v=>shape P o.type v fun v=>K v s:=rfl
theorem cup_to{t:TypeId}{a:Addr}{vs:List Value}{e:TypeId}{w:Bool}(h:(P.info? t).any (fun i=>i.size != 0)=true):cup P (some (.pointer t)) (some .unsafePointer) a (some (.cells vs e w))=if a.off<vs.length then some (.pointer (some a)) else none:=by
 simp only[cup,h,true_and]
theorem cup_of{u:TypeId}{a:Addr}{vs:List Value}{e:TypeId}(h:upOk P e u=true):cup P (some .unsafePointer) (some (.pointer u)) a (some (.cells vs e true))=if a.off % P.cellsOf e=0∧a.off+P.cellsOf e≤vs.length then some (.pointer (some a)) else none:=by
 simp only[cup,h,true_and]
theorem cv_ptr{src dst:TypeId}{a:Option Addr}{pu:Value→Prop}{other:Prop}:wcv P src dst (.pointer a) pu other=other:=rfl
theorem sh_unsafe{v:Value}{K:Value→Prop}:shape2 (some .unsafePointer) v K=K v:=rfl
end
theorem wrap_i64{n:Int}(h : -9223372036854775808≤n∧n≤9223372036854775807):IntKind.i64.wrap n=n:=by
 simp only[IntKind.wrap,IntKind.signed,IntKind.bits]
 simp
 omega
theorem wrap_u64{n:Int}(h:0≤n∧n≤18446744073709551615):IntKind.u64.wrap n=n:=by
 simp only[IntKind.wrap,IntKind.signed,IntKind.bits]
 simp
 omega
theorem wrap_u8{n:Int}(h:0≤n∧n≤255):IntKind.u8.wrap n=n:=by
 simp only[IntKind.wrap,IntKind.signed,IntKind.bits]
 simp
 omega
theorem wrap_u64_mod(n:Int):IntKind.u64.wrap n=n % 18446744073709551616:=by
 simp[IntKind.wrap,IntKind.bits,IntKind.signed]
theorem wrap_u64_negneg{n:Int}(h : -9223372036854775808≤n∧n<0):IntKind.u64.wrap (-IntKind.u64.wrap n) = -n:=by
 rw[wrap_u64_mod,wrap_u64_mod];omega
def toV(b:UInt8):Value := .int .u8 b.toNat
theorem byteOf_toV(b:UInt8):byteOf? (toV b)=some b:=by simp[byteOf?,toV]
theorem mapM_toV:∀ l:List UInt8,(l.map toV).mapM byteOf?=some l:=by
 intro l
 induction l with
 |nil=>rfl
 |cons b l ih=>simp[List.mapM_cons,byteOf_toV,ih]
theorem toV_ofNat{n:Nat}(h:n<256):toV (UInt8.ofNat n) = .int .u8 n:=by
 unfold toV
 rw[UInt8.toNat_ofNat_of_lt' (by simpa using h)]
theorem cbs2_drop{vs:List Value}{e:TypeId}{w:Bool}{j N:Nat}{l:List UInt8}(h1:vs.length=N)(h2:j≤N)(h3:vs.drop j=l.map toV):cbs2 (some (.cells vs e w)) j (N - j)=some (.string ⟨l.toArray⟩):=by
 unfold cbs2 cut
 dsimp only
 rw[if_pos oM,h3,List.take_of_length_le (by have:=congrArg List.length h3;simp at this;simp;omega)]
 dsimp only
 rw[mapM_toV]
 rfl
theorem cbs2_all{vs:List Value}{e:TypeId}{w:Bool}{n:Nat}{l:List UInt8}(h1:n=l.length)(h3:vs=l.map toV):cbs2 (some (.cells vs e w)) 0 n=some (.string ⟨l.toArray⟩):=by
 have:=cbs2_drop (e:=e) (w:=w) (j:=0) (N:=l.length) (vs:=vs) (l:=l) (by simp[h3]) oM (by simpa using h3)
 rw[h1];simpa using this
end Go.Cs
namespace Go.Cs
section
variable {M:Type}[Mem M]{P:Program}{w0:World}
variable {d:Option Tmp}{ty:TypeId}{pos:String}{af:Array Edge}{g:Option (Nat×Bool)}{ev:Operand→Value}{s:St M}{K:Value→St M→Prop}{F:Value→St M→Option Value→Prop}{x y:Operand}{t t2:TypeId}
theorem o_and:wop P w0 ⟨d,.binOp .and t x y t2,ty,pos,af,g⟩ ev s K=wbin P .and t x y (ev x) (ev y) fun v=>K v s:=rfl
theorem wb_and{k:IntKind}{a b:Int}{G:Value→Prop}:wbin P .and t x y (.int k a) (.int k b) G=must (cbin P .and t x y (.int k a) (.int k b)) G:=rfl
end
section
variable {M:Type}[Mem M]
theorem setCells_nil(vs:List Value)(o:Nat):setCells vs o []=vs:=rfl
theorem setCells_cons(vs:List Value)(o:Nat)(c:Value)(cs:List Value):setCells vs o (c::cs)=setCells (vs.set o c) (o+1) cs:=rfl
theorem cut_all{vs:List Value}{n:Nat}(h:n=vs.length):cut vs 0 n=some vs:=by subst h;simp[cut]
def SlC(e:TypeId)(sz:Nat)(s:St M)(sl:Value)(cs:List Value)(n:Nat):Prop:=
 (n=0∧cs=[]∧sl = .slice none 0 0)∨(∃ b c,sl = .slice (some ⟨b,0,none⟩) n c∧(c=UNK∨(c=n∧c<UNK))∧s.at' b=some (.cells cs e true)∧cs.length=n*sz)
theorem SlC.same{e:TypeId}{sz:Nat}{s s':St M}{sl:Value}{cs:List Value}{n:Nat}(h:SlC e sz s sl cs n)(hs:∀ q m c,sl = .slice (some q) m c→s'.at' q.block=s.at' q.block):SlC e sz s' sl cs n:=by
 rcases h with h|⟨b,c,h1,h2,h3,h4⟩
 ·exact .inl h
 ·exact .inr ⟨b,c,h1,h2,by rw[hs _ _ _ h1];exact h3,h4⟩
theorem app_row{P:Program}{s:St M}{e t1 t2:TypeId}{ie:TypeInfo}{z sl v:Value}{old new:List Value}{n k:Nat}(hie:P.info? e=some ie)(hz:czero P e=some z)(hzs:z.cells.size=ie.size)(hb:0<ie.bytes)
  (happ:capp P #[t1,t2] #[sl,v] s=capp3 P e ie sl s (cmore ie.size v s))(hk:k≠0)(hlen:(n+k)*ie.bytes≤140737488355328)(hok:new.all qC=true)(hv:cmore ie.size v s=some (k,new))(hsl:SlC e ie.size s sl old n) :
  ∃ s',capp P #[t1,t2] #[sl,v] s=some (.slice (some ⟨s.next,0,none⟩) (n+k) UNK,s')∧s'.next=s.next+1∧s'.at' s.next=some (.cells (old++new) e true) ∧
   (∀ b,b≠s.next→(∀ q m c,sl = .slice (some q) m c→b≠q.block)→s'.at' b=s.at' b):=by
 rw[happ,hv]
 unfold capp3
 simp only[hok,Bool.true_eq_false,if_false]
 rcases hsl with ⟨rfl,rfl,rfl⟩|⟨b,c,rfl,hc,hb',hl⟩
 ·simp only[hk,if_false]
  unfold cgrow
  rw[hz]
  simp only[hzs]
  rw[if_pos ⟨trivial,hb,by simpa using hlen⟩]
  exact⟨s.new (.cells new e true),by simp,by simp,by simp,fun c hc _=>by rw[St.at_new,if_neg hc]⟩
 ·have hcut:cut old 0 (n*ie.size)=some old:=cut_all (by rw[hl])
  rcases hc with rfl|⟨rfl,hc2⟩
  ·simp only[if_true,hk,if_false,hb']
   unfold capp4
   simp only[hcut,Nat.zero_mod,and_self,if_true]
   unfold cgrow
   rw[hz]
   simp only[hzs]
   rw[if_pos ⟨trivial,hb,hlen⟩]
   refine⟨(s.kill b).new (.cells (old++new) e true),by simp,by simp,by simp,fun c hc hq=>?_⟩
   rw[St.at_new,St.next_kill,if_neg hc,St.at_kill,if_neg (hq _ _ _ rfl)]
  ·have hc3:¬ c=UNK:=oM
   have hc4:¬ c+k≤c:=oM
   simp only[hc3,if_false,hc4]
   unfold capp5
   simp only[hb',hcut]
   unfold cgrow
   rw[hz]
   simp only[hzs]
   rw[if_pos ⟨trivial,hb,hlen⟩]
   exact⟨_,rfl,rfl,by simp,fun c hc _=>by rw[St.at_new,if_neg hc]⟩
end
end Go.Cs
namespace Go.Cs
open Go.RowKit (Below)
section
variable {M:Type}[Mem M]{P:Program}{w0:World}{s:St M}
theorem Rel.later{ρ:Ren}{w w':World}(hR:Rel P w0 ρ s w)(hB:Below w.heap.size w w'):Rel P w0 ρ s w':=by
 refine⟨hR.dom,fun b i hb=>Nat.lt_of_lt_of_le (hR.lt b i hb) hB.size,fun b i B hb hB2=>?_,hR.own,hR.inj,hR.below.trans (hB.mono hR.below.size),hR.fresh,(fun b i hb hk=>?_),(fun b i hb hk=>?_)⟩
 ·obtain⟨o,ho,hr⟩:=hR.blk b i B hb hB2
  exact⟨o,by rw[hB.block _ (hR.lt b i hb)];exact ho,hr⟩
 ·obtain⟨h1,h2⟩:=hR.one b i hb hk
  exact⟨by rw[hB.block _ (hR.lt b i hb)];exact h1,h2⟩
 ·obtain⟨r,hr⟩:=hR.two b i hb hk
  exact⟨r,by rw[hB.block _ (hR.lt b i hb)];exact hr⟩
end
def St.far(k:Nat):St AL:={ mem:=⟨.leaf,fun _=>none⟩,next:=k }
end Go.Cs
end
section
namespace Go.Cs
def Zd:=(aI (aI (aI (aI (aI (aI (aI @w_skip @w_region) (aI @w_regionD (aI @w_seq @w_cond))) (aI (aI @w_block @w_loop) (aI @w_scope (aI @w_exit @w_label)))) (aI (aI (aI @w_goto @w_ret) (aI @w_nil (aI @w_cons @d_nil))) (aI (aI @d_cons (aI @d2_act @d2_pass)) (aI @st_nil (aI @st_none @st_some))))) (aI (aI (aI (aI @st2_true @st2_false) (aI @t_normal (aI @t_ret @t_exit))) (aI (aI @t_goto (aI @bl_normal @bl_ret)) (aI @bl_goto (aI @bl_exit @bl2_true)))) (aI (aI (aI @bl2_false @bo_normal) (aI @bo_ret (aI @r_ret @r_one))) (aI (aI @r_none (aI @r_more @g_none)) (aI @g_some (aI @g2_some @g3_tt)))))) (aI (aI (aI (aI (aI @g3_ff @g3_tf) (aI @g3_ft (aI @g3_undef @c_tmp))) (aI (aI @c2_true @c2_false) (aI @o_move (aI @o_assign @f_move)))) (aI (aI (aI @o_pick @f_pick) (aI @p_true (aI @p_false @o_add))) (aI (aI @o_sub (aI @o_mul @o_quo)) (aI @o_rem (aI @o_shl @o_shr))))) (aI (aI (aI (aI @o_lss @o_leq) (aI @o_gtr (aI @o_geq @o_eql))) (aI (aI @o_neq (aI @f_add @f_sub)) (aI @f_mul (aI @f_lss @f_gtr)))) (aI (aI (aI @f_geq @f_eql) (aI @f_neq (aI @eq_int @eq_bool))) (aI (aI @eq_string (aI @eq_p0 @eq_pp)) (aI @eq_agg (aI @eq_slice @eq_map))))))) (aI (aI (aI (aI (aI (aI @b_add @b_sub) (aI @b_mul (aI @b_quo @b_rem))) (aI (aI @b_shl @b_shr) (aI @b_eql (aI @b_neq @b_lss)))) (aI (aI (aI @b_leq @b_gtr) (aI @b_geq (aI @b_sadd @b_seql))) (aI (aI @o_extract (aI @f_extract @e2_0)) (aI @e2_1 (aI @o_not @f_not))))) (aI (aI (aI (aI @n_bool @o_cal) (aI @o_convert (aI @cv_int @cv2_int))) (aI (aI @cv_slice (aI @sh @sh_int)) (aI @sh_bool (aI @sh_string @sh_pointer)))) (aI (aI (aI @sh_slice @sh_map) (aI @sh_struct (aI @sh_func @sh_interface))) (aI (aI @sh_tuple (aI @m_some @o_load)) (aI @f_load (aI @o_box @o_alloc)))))) (aI (aI (aI (aI (aI @f_box @f_alloc) (aI @o_makeMap (aI @o_store @o_fieldAddr))) (aI (aI @f_fieldAddr (aI @o_len @o_nilCheck)) (aI @f_nilCheck (aI @o_index @f_index)))) (aI (aI (aI @o_calv @calv) (aI @caly (aI @o_makeFunc @f_makeFunc))) (aI (aI @o_neg (aI @neg_int @o_slice)) (aI @f_slice (aI @bs_go @o_row))))) (aI (aI (aI (aI @f_row @o_build) (aI @f_build (aI @o_lookup @o_mapUpdate))) (aI (aI @o_append (aI @o_indexAddr @f_indexAddr)) (aI @o_ext (aI @wb_eq_p @wb_ne_p)))) (aI (aI (aI @wb_eq_m @wb_eq_s) (aI @wb_eq_a (aI @wb_ne_a @wb_eq_b))) (aI (aI @cv_ptr (aI @sh_unsafe @cp_go)) (aI @o_us (aI @f_ssd @f_len))))))))
def Zp:=(aI (aI (aI (aI (aI (aI @d_in (aI @rs_nil @rs_cons)) (aI (aI @rs2 @rs_tmp) (aI @rs_cell @rs_cell2))) (aI (aI (aI @ev_tmp @ev_const) (aI @ev_func @put_some)) (aI (aI @put_none @or_hit) (aI @or_miss @val)))) (aI (aI (aI (aI @upd_apply @i_zero) (aI @i_succ @i_nil)) (aI (aI @List.toList_toArray.{0} @List.map_toArray.{0,0}) (aI @List.map_cons.{0,0} @List.map_nil.{0,0}))) (aI (aI (aI @Option.bind_some.{0,0} @List.getElem?_toArray.{0}) (aI @List.getElem?_cons_zero.{0} @List.getElem?_cons_succ.{0})) (aI (aI @decide_true @decide_false) (aI @Bool.not_true @Bool.not_false))))) (aI (aI (aI (aI (aI @not_false_eq_true @true_and) (aI @and_true @Int.toNat_one)) (aI (aI @Bool.false_eq_true @go) (aI @mk @ch))) (aI (aI (aI @pr_l @pr_r) (aI @cr_load @ld)) (aI (aI @fa @add_mk) (aI @St.at_put @St.at_new)))) (aI (aI (aI (aI @St.next_new @St.next_put) (aI @List.length_cons.{0} @List.length_nil.{0})) (aI (aI @List.drop_zero.{0} @List.drop_succ_cons.{0}) (aI @List.take_succ_cons.{0} @List.take_zero.{0}))) (aI (aI (aI @List.take_nil.{0} @Option.map_some.{0,0}) (aI @Option.map_none.{0,0} @Nat.zero_add)) (aI (aI @Nat.left_eq_add @Nat.add_eq_left) (aI @Nat.add_right_cancel_iff @Nat.add_left_cancel_iff)))))) (aI (aI (aI (aI (aI @Nat.add_assoc (aI @Nat.succ_ne_self @len_slice)) (aI (aI @len_string @lenM_slice) (aI @lenM_string @nil_p))) (aI (aI (aI @ix_str @bs_at) (aI @lk_map @lk_nil)) (aI (aI @lk2 @lkn) (aI @lk3_hit @lk3_miss)))) (aI (aI (aI (aI @ms_map @ms2) (aI @ms3_hit @ms3_miss)) (aI (aI @ix_slice @ix_array) (aI @ixb @cstore_eq))) (aI (aI (aI @cstoreCells_eq @cst) (aI @cr_slice3 @List.nil_append.{0})) (aI (aI @Array.empty_append.{0} @Array.append_empty.{0}) (aI @List.append_toArray.{0} @List.cons_append.{0}))))) (aI (aI (aI (aI (aI @ba_empty @Option.isSome_some.{0}) (aI @Option.isSome_none.{0} @List.size_toArray.{0})) (aI (aI @List.all_cons.{0} @List.all_nil.{0}) (aI @Bool.and_self @Int.toNat_natCast))) (aI (aI (aI @Nat.mul_one @Nat.zero_mul) (aI @and_self @List.contains_cons.{0})) (aI (aI @List.contains_nil.{0} @Bool.or_true) (aI @Bool.or_false @beq_self_eq_true.{0})))) (aI (aI (aI (aI @x_ext1 @x_ext2) (aI @cr_bin @us_p)) (aI (aI @us_0 @ssd_some) (aI @ssd_none @m_none))) (aI (aI (aI @cast0 @or_false) (aI @false_or @setCells_cons)) (aI (aI @setCells_nil @List.set_cons_zero.{0}) (aI @List.set_cons_succ.{0} @cload_eq)))))))
def Zr.{u}:=(aI (aI @if_true.{u} @if_false.{u}) (aI @ne_eq.{u} (aI @implies_true.{u} @forall_const.{u})))
def Zs:=aI (aI @qP.eq_1 @qP.eq_2) (aI (aI @Value.cells.eq_1 @Value.cells.eq_2) (aI @cut.eq_1 (aI (aI @qC.eq_1 (aI @qC.eq_2 @qC.eq_3)) (aI @cld2.eq_1 @cld2.eq_2))))
theorem oF{p:Prop}(h:p:=by first|omega|(simp only[Sn];omega)):p:=h
theorem oL{p:Prop}(h:p:=by repeat (first|exact St.le_refl _|assumption|refine St.le_new ?_|refine St.le_put ?_ (by first|omega|(simp only[Sn];omega))|refine St.le_trans ?_ (by assumption))):p:=h
def Sn:=(aI @St.next_new (aI @St.next_put @St.next_kill))
def lR:=@St.le_refl
def lT:=@St.le_trans
def lN:=@St.le_new
def lP:=@St.le_put
def nN := @St.next_new
def aP := @St.at_put
def aN := @St.at_new
def nU := @St.next_put
end Go.Cs
end
