/- The interpreter 'VM'. -/
import Derived.Test.YtpgkmggaifgjkaaGreatDoorVmA
import Derived.Laws.Build
set_option linter.all false
namespace Go.Proofs.YtpgkmggaifgjkaaGreatDoor.VM
open Go
section
variable (P:Program)
def und (t:Nat):Option TypeDesc:=P.underlying t
def va8 (t:Nat):Option Nat:=(P.info? t).map (·.size)
def bytesT (t:Nat):Option Nat:=(P.info? t).map (·.bytes)
def zeroT (t:Nat):Option Value:=(P.info? t).bind (·.zero)
def widthT (t:Nat):Option (Option Nat):=
 match und P t with
 |some (.struct _)=>(va8 P t).map some
 |some (.array ..)=>none
 |some _=>some none
 |none=>none
def zerosT:Nat->Nat->Option (List ZC)
 |0,_=>none
 |k+1,t=>
  match und P t with
  |some (.struct fs)=>(fs.toList.mapM λ(f:Field)=>zerosT k f.type).map List.flatten
  |some (.slice e)=>some [.nl e]
  |some (.array ..)=>none
  |some (.pointer _)=>some [.v (.pointer none)]
  |some .bool=>some [.v (.bool false)]
  |some (.int i)=>some [.v (.int i 0)]
  |some .string=>some [.v (.string .empty)]
  |some (.func ..)=>some [.v .nilFunc]
  |some (.interface _)=>some [.v .nilIface]
  |some (.map ..)=>some [.v (.map none)]
  |_=>none
def sameV:Value->Value->Bool
 | .bool a,.bool b=>a==b
 | .int k a,.int k' b=>k==k'&&a==b
 | .string a,.string b=>a.size==0&&b.size==0
 | .pointer none,.pointer none=>true
 | .nilFunc,.nilFunc=>true
 | .nilIface,.nilIface=>true
 | .map none,.map none=>true
 |_,_=>false
def zcFits (z:ZC) (v:Value):Bool:=
 match z with
 | .v x=>sameV x v
 | .nl e=>(match v with| .slice none 0 0=>true|_=>false)&&(va8 P e).isSome
def zsFit:List ZC->List Value->Bool
 | [],[]=>true
 |z::zs,v::vs=>zcFits P z v&&zsFit zs vs
 |_,_=>false
def zeros (t:Nat):Option (List ZC):=(zerosT P 8 t).bind λzs=>match zeroT P t with
 |some v=>if va8 P t=some zs.length/\zsFit P zs v.cells.toList=true then some zs else none
 |none=>none
def atomic:Value->Bool
 | .bool _| .int .. | .string _| .pointer none| .nilFunc| .nilIface| .map none=>true
 |_=>false
def cOpd (t:Nat):Operand->Option Opd
 | .tmp n=>if n<10000 then some (.t n) else none
 | .func f=>some (.f f)
 | .global _=>none
 | .const (.slice none 0 0)=>match und P t with|some (.slice e)=>if (va8 P e).isSome then some (.nl e) else none|_=>none
 | .const v=>if atomic v then some (.c v) else none
def cOpds:List (Nat×Operand)->Option (List Opd)
 | []=>some []
 |(t,x)::r=>match cOpd P t x,cOpds r with
  |some y,some ys=>some (y::ys)
  |_,_=>none
def fieldT (s f:Nat):Option Field:=
 match und P s with
 |some (.struct fs)=>fs[f]?
 |_=>none
def cParts (t:Nat):List (Nat×Operand)->Option (List (Nat×Nat×Opd))
 | []=>some []
 |(i,x)::r=>match fieldT P t i with
  |none=>none
  |some f=>match va8 P f.type,cOpd P f.type x,cParts t r with
   |some w,some y,some ys=>some ((f.offset,w,y)::ys)
   |_,_,_=>none
def cElems (e:Nat):List (Nat×Operand)->Option (List (Nat×Opd))
 | []=>some []
 |(i,x)::r=>match cOpd P e x,cElems e r with
  |some y,some ys=>some ((i,y)::ys)
  |_,_=>none
def plainT (t:Nat):Bool:=
 match und P t with
 |some (.int _)|some .string=>true
 |_=>false
def boolT (t:Nat):Bool:=
 match und P t with
 |some .bool=>true
 |_=>false
def stT (t:Nat):Option Nat:=
 match und P t with
 |some (.struct fs)=>if (!P.stoodInHeld t&& !P.eqGuardType P.depth t&&(fs.toList.map (·.offset)==List.range' 0 fs.toList.length)&&fs.toList.all λf=>f.name != "_" &&(match und P f.type with|some (.int _)=>true|_=>false))=true then some fs.toList.length else none
 |_=>none
def eqSign:BinOp->Option Bool
 | .eql=>some false
 | .neq=>some true
 |_=>none
def optOpd (t:Nat):Option Operand->Option (Option Opd)
 |none=>some none
 |some x=>(cOpd P t x).map some
def sameOpd:Operand->Operand->Bool
 | .tmp n,.tmp m=>n==m
 | .const (.int .i64 n),.const (.int .i64 m)=>n==m
 |_,_=>false
def isZero:Operand->Bool
 | .const (.int .i64 n)=>n==0
 |_=>false
def alsT (t:Nat):List Nat->Bool
 | [a,_]=>match und P t,und P a with
  |some (.pointer u),some (.slice e)=>match und P u,und P e with
   |some (.struct fs),some .string=>fs.toList.head?.any λf=>f.type==a
   |_,_=>false
  |_,_=>false
 |_=>false
def madeHere (ops:Array Oper) (x:Operand):Bool:=
 match x with
 | .tmp n=>ops.any λo=>o.dst==some n&&(match o.op with| .buildSlice .. =>true|_=>false)
 |_=>false
def ldaT (ops:Array Oper) (t:Nat):Bool:=(match und P t with|some .bool|some (.int _)|some .string=>true|_=>false)&&ops.any λo=>match o.op with
 | .buildSlice t _ _=>(match und P t with
  |some (.slice e)=>(match zeros P e with|some zs=> !flatZ zs|none=>false)
  |_=>false)
 |_=>false
def methP (t:Nat) (name:String):Option Nat:=match P.info? t with
 |some i=>match i.methods.find? (·.name==name) with
  |some m=>if m.path.isEmpty then (match m.func,und P t with
   |some (f,true),some (.pointer _)=>some f
   |_,_=>none) else none
  |none=>none
 |none=>none
def ofMeth (name:String):Option (Nat×Nat):=(List.range P.types.size).findSome? λt=>(methP P t name).map λf=>(t,f)
def cOp1 (ops:Array Oper) (o:Oper):Option VOp:=
 match o.op,o.dst with
 | .move x,some d| .assign x,some d=>(cOpd P o.type x).map (.mov d)
 | .pick c a b,some d=>match cOpd P 0 c,cOpd P o.type a,cOpd P o.type b with
  |some c,some a,some b=>some (.pick d c a b)
  |_,_,_=>none
 | .alloc t,some d=>(zeros P t).map (.alloc d)
 | .box t x,some d=>match widthT P t with
  |some _=>(cOpd P t x).map (.box d)
  |none=>none
 | .build t ps,some d=>match und P t,zeros P t,cParts P t ps.toList with
  |some (.struct fs),some zs,some ps=>if (fs.toList.mapM (λf=>(P.info? f.type).map λi=>(f.offset,i.size))).isSome=true then some (.build d zs ps) else none
  |_,_,_=>none
 | .buildSlice t n ps,some d=>match und P t with
  |some (.slice e)=>match va8 P e,zeros P e,cElems P e ps.toList with
   |some m,some zs,some ps=>if 0<m/\n * m<=16777216 then some (.bsl d e m zs n ps) else none
   |_,_,_=>none
  |_=>none
 | .load t x,some d=>match widthT P t,cOpd P 0 x with
  |some w,some x=>some (if ldaT P ops t=true/\w=none then .lda d x else .load d w x)
  |_,_=>none
 | .store t x y,none=>match widthT P t,va8 P t,cOpd P 0 x,cOpd P t y with
  |some _,some w,some x,some y=>some (.store w x y)
  |_,_,_,_=>none
 | .nilCheck x,some d=>(cOpd P 0 x).map (.nilck d)
 | .binOp op t x y _,some d=>if plainT P t then match cOpd P t x,cOpd P t y with
  |some x,some y=>some (.bin d op x y)
  |_,_=>none else if boolT P t then match cOpd P t x,cOpd P t y,eqSign op with
  |some x,some y,some ne=>some (.beq d ne 0 x y)
  |_,_,_=>none else match stT P t,cOpd P t x,cOpd P t y,eqSign op with
  |some (n+1),some x,some y,some ne=>some (.beq d ne (n+1) x y)
  |_,_,_,_=>none
 | .unOp op _ x,some d=>(cOpd P 0 x).map (.un d op)
 | .convert s t x,some d=>match und P s,und P t,cOpd P s x with
  |some (.int _),some (.int k),some x=>some (.cvi d k x)
  |some .string,some .string,some x=>some (.cvs d x)
  |some .string,some (.slice e),some x=>match und P e with
   |some (.int .u8)=>if va8 P e=some 1 then some (.s2b d e x) else none
   |_=>none
  |some (.slice e),some .string,some x=>match und P e with
   |some (.int .u8)=>some (.b2s d e x)
   |_=>none
  |_,_,_=>none
 | .makeFunc (.func f) first cs,some d=>match cOpds P (first.toList.map λx=>(0,x)),cOpds P (cs.toList.map λx=>(0,x)) with
  |some us,some vs=>some (.mkf d f us vs)
  |_,_=>none
 | .makeInterface t x,some d=>if P.concrete t=true then (cOpd P t x).map (.mki d t) else none
 | .makeSlice t x y,some d=>match und P t with
  |some (.slice e)=>match bytesT P e,zeros P e,cOpd P 3 x with
   |some by_,some zs,some x'=>if sameOpd x y=true then some (.mks d e by_ zs x') else none
   |_,_,_=>none
  |_=>none
 | .slice t x lo hi none,some d=>match und P t,cOpd P t x,optOpd P 3 lo,optOpd P 3 hi with
  |some .string,some x,some lo,some hi=>some (.sslc d x lo hi)
  |some (.slice e),some x,some lo,some hi=>if (va8 P e).isSome then some (.slc d e x lo hi) else none
  |_,_,_,_=>none
 | .slice t x none (some hi) (some mx),some d=>match und P t,cOpd P t x with
  |some (.slice e),some x'=>if isZero hi=true/\isZero mx=true/\(va8 P e).isSome=true then some (.slc0 d e x') else none
  |_,_=>none
 | .fieldAddr s x f,some d=>match fieldT P s f,cOpd P 0 x with
  |some f,some x=>if (va8 P f.type).any (0<·) then some (.fad d x f.offset) else none
  |_,_=>none
 | .field s x f,some d=>match fieldT P s f with
  |some f=>match widthT P f.type,cOpd P s x with
   |some w,some x=>some (.fld d x f.offset w)
   |_,_=>none
  |none=>none
 | .indexAddr t x i,some d=>match und P t with
  |some (.slice e)=>match va8 P e,cOpd P t x,cOpd P 3 i with
   |some m,some x,some i=>if 0<m then some (.iad d e m x i) else none
   |_,_,_=>none
  |_=>none
 | .index t x i,some d=>match und P t with
  |some .string=>match cOpd P t x,cOpd P 3 i with
   |some x,some i=>some (.ix d x i)
   |_,_=>none
  |_=>none
 | .extract x i,some d=>(cOpd P 0 x).map λx=> .ext d x i
 | .call {callee:= .builtin .len,args,argTypes},some d=>match args.toList,argTypes.toList with
  | [x],[t]=>match und P t with
   |some .string=>(cOpd P t x).map (.slen d)
   |some (.slice _)=>(cOpd P t x).map (.len d)
   |_=>none
  |_,_=>none
 | .call {callee:= .builtin .append,args,argTypes},some d=>match args.toList,argTypes.toList with
  | [x,y],[t,u]=>match und P t,und P u with
   |some (.slice e),some (.slice e')=>if e=e'/\t=u then match va8 P e,bytesT P e,zeros P e,cOpd P t x,cOpd P u y with
    |some m,some by_,some zs,some x',some y'=>if 0<m/\0<by_ then some (.app d e by_ (madeHere ops y||zs.any ZC.isNl) x' y') else none
    |_,_,_,_,_=>none else none
   |_,_=>none
  |_,_=>none
 | .call {callee:= .builtin .max,args,argTypes},some d=>if args.size=argTypes.size&&argTypes.all (λt=>match und P t with|some (.int _)=>true|_=>false) then
   (cOpds P (argTypes.toList.zip args.toList)).map (.mmx d true) else none
 | .call {callee:= .builtin .min,args,argTypes},some d=>if args.size=argTypes.size&&argTypes.all (λt=>match und P t with|some (.int _)=>true|_=>false) then
   (cOpds P (argTypes.toList.zip args.toList)).map (.mmx d false) else none
 | .call {callee:= .value (.func f),args,argTypes},d=>if args.size≠argTypes.size then none else (cOpds P (argTypes.toList.zip args.toList)).map (if alsT P o.type argTypes.toList then .cala d f else .call d f)
 | .call {callee:= .value (.tmp n),args,argTypes},d=>if args.size≠argTypes.size\/10000<=n then none else (cOpds P (argTypes.toList.zip args.toList)).map (.calv d (.t n))
 | .call {callee:= .invoke (.tmp n) name,args,argTypes},d=>if args.size≠argTypes.size\/10000<=n then none else match ofMeth P name,cOpds P (argTypes.toList.zip args.toList) with
  |some m,some xs=>some (.cali d m.1 m.2 (.t n) xs)
  |_,_=>none
 | .call {callee:= .builtin .clear,args,argTypes},none=>match args.toList,argTypes.toList with
  | [x],[t]=>match und P t with
   |some (.slice e)=>match va8 P e,zeros P e,cOpd P t x with
    |some 1,some [.v z],some x'=>some (.clr e z x')
    |_,_,_=>none
   |_=>none
  |_,_=>none
 |_,_=>none
def cOp (ops:Array Oper) (o:Oper):Option VOp:=some ((cOp1 P ops o).getD (.fl o.dst))
def cOper (ops:Array Oper) (o:Oper):Option VOper:=
 match cOp P ops o with
 |none=>none
 |some v=>match o.guard with
  |none=>some {op:=v}
  |some (j,b)=>match (ops[j]?).bind (·.dst) with
   |some t=>some {op:=v,guard:=some (t,b),dst:=o.dst}
   |none=>none
def cOpers (ops:Array Oper):List Oper->Option (List VOper)
 | []=>some []
 |o::r=>match cOper P ops o,cOpers ops r with
  |some v,some vs=>some (v::vs)
  |_,_=>none
def Opd.used:Opd->List Nat
 | .t n=> [n]
 |_=> []
def VOp.uses:VOp->List Nat
 | .mov _ x| .box _ x| .load _ _ x| .lda _ x| .nilck _ x| .un _ _ x| .cvi _ _ x| .cvs _ x| .s2b _ _ x| .b2s _ _ x| .mki _ _ x| .mks _ _ _ _ x| .fad _ x _| .slc0 _ _ x| .fld _ x _ _| .len _ x| .slen _ x| .ext _ x _=>x.used
 | .pick _ c a b=>c.used++a.used++b.used
 | .alloc .. => []
 | .build _ _ ps=>ps.flatMap (·.2.2.used)
 | .bsl _ _ _ _ _ ps=>ps.flatMap (·.2.used)
 | .store _ x y| .bin _ _ x y| .beq _ _ _ x y| .iad _ _ _ x y| .ix _ x y| .app _ _ _ _ x y=>x.used++y.used
 | .mmx _ _ xs| .call _ _ xs| .cala _ _ xs=>xs.flatMap (·.used)
 | .mkf _ _ xs ys=>xs.flatMap (·.used)++ys.flatMap (·.used)
 | .slc _ _ x lo hi| .sslc _ x lo hi=>x.used++(lo.map Opd.used).getD []++(hi.map Opd.used).getD []
 | .calv _ f xs=>f.used++xs.flatMap (·.used)
 | .cali _ _ _ x xs=>x.used++xs.flatMap (·.used)
 | .clr _ _ x=>x.used
 | .fl _=> []
def VOp.dst:VOp->Option Nat:=dstO
def VOp.rank (writes:Nat->Bool):VOp->Nat
 | .store .. | .app .. | .calv .. | .cala .. | .cali .. | .clr .. | .alloc .. | .box .. | .s2b .. | .mks .. | .bsl .. | .slc0 .. =>2
 | .call _ f _=>if writes f then 2 else 1
 | .load .. | .lda .. | .b2s .. | .slc .. | .iad .. | .len .. | .fad .. | .nilck .. =>1
 |_=>0
def VOp.own (writes:Nat->Bool):VOp->Bool
 | .load .. | .lda .. | .slc .. | .iad .. | .len .. | .fad .. | .nilck .. | .alloc .. | .box .. | .s2b .. | .mks .. | .slc0 .. =>true
 | .bsl _ _ _ zs _ _=>flatZ zs
 | .call _ f _=> !writes (f+1000000)
 |_=>false
def apartOps (writes:Nat->Bool) (x y:VOper):Bool:=
 let ux:=(x.guard.map (·.1)).toList++x.op.uses;let uy:=(y.guard.map (·.1)).toList++y.op.uses;let dx:=x.op.dst.toList;let dy:=y.op.dst.toList
 dx.all (λd=> !uy.contains d&& !dy.contains d)&&dy.all (λd=> !ux.contains d)&&
  ((!(x.op.rank writes==2&&y.op.rank writes !=0)&& !(y.op.rank writes==2&&x.op.rank writes !=0))||(x.op.own writes&&y.op.own writes))
def vfj (writes:Nat->Bool) (before:List Nat) (vs:List VOper):List (Nat×Nat):=
 let l:=vs.zipIdx.zip before
 l.flatMap λ((y,j),bj)=>l.filterMap λ((x,i),_)=>if !(i<j)||bj.testBit i||apartOps writes x y then none else some (i,j)
def slotsApart (x y:VOper):Bool:=
 let ux:=(x.guard.map (·.1)).toList++x.op.uses;let uy:=(y.guard.map (·.1)).toList++y.op.uses
 x.op.dst.toList.all (λd=> !uy.contains d&& !y.op.dst.toList.contains d)&&y.op.dst.toList.all (λd=> !ux.contains d)
def psOk (vs:List VOper) (ps:List (Nat×Nat)):Bool:=ps.all λp=>match vs[p.1]?,vs[p.2]? with
 |some x,some y=>slotsApart x y
 |_,_=>false
def regOf (vs:List VOper) (l:List Nat):List (Nat×Nat)->VC
 | []=> .reg vs l
 |p::ps=> .regD vs l (p::ps)
def mkReg (vs:List VOper) (l:List Nat) (ps:List (Nat×Nat)):VC:=match l with
 |20001::l=> .ro l (regOf vs (roLive l) ps)
 |l=>regOf vs l ps
def backOk (ops:Array Oper):Bool:=ops.toList.zipIdx.all λ(o,i)=>o.after.all λe=> !Region.binds .any e||decide (e.on<i)
def comp (n:Nat) (writes:Nat->Bool):Code->List (List Nat)->Option (VC×List (List Nat))
 | .skip,h=>some (.skip,h)
 | .region _ ops draw,l::h=>match cOpers P ops ops.toList with
  |some vs=>if vs.all (λv=>v.op.dst.all (·<n)&&v.dst.all (·<n))&&(!draw||(backOk ops&&psOk vs (vfj writes (Region.before ops).toList vs))) then some (mkReg vs l (if draw then vfj writes (Region.before ops).toList vs else []),h) else none
  |none=>none
 | .seq a b,h=>match comp n writes a h with
  |some (x,h')=>match comp n writes b (if frzHead h'=true then h'.tail else h') with
   |some (y,h'')=>some (.seq x (if frzHead h'=true then .frz y else y),h'')
   |none=>none
  |none=>none
 | .cond c a b,h=>match cOpd P 0 c with
  |some c=>match comp n writes a h with
   |some (x,h')=>match comp n writes b h' with
    |some (y,h'')=>some (.cond c x y,h'')
    |none=>none
   |none=>none
  |none=>none
 | .block id b,h=>match comp n writes b h with
  |some (x,h')=>some (.block id x,h')
  |none=>none
 | .loop b,l::h=>match comp n writes b h with
  |some (x,h')=>some (.loop l x,h')
  |none=>none
 | .exit id,h=>some (.exit id,h)
 | .ret,h=>some (.ret,h)
 |_,_=>none
def hints:VC->List (List Nat)
 | .reg _ l=> [l]
 | .regD _ l _=> [l]
 | .seq a b=>hints a++hints b
 | .cond _ a b=>hints a++hints b
 | .block _ b=>hints b
 | .loop l b=>l::hints b
 | .frz b=> [20000]::hints b
 | .ro l _=> [20001::l]
 |_=> []
def cRes:List ResultVar->Option (List RV)
 | []=>some []
 | .tmp t::r=>(cRes r).map (.t t::·)
 | .cell a t::r=>match widthT P t,cRes r with
  |some w,some rs=>some (.cell a w::rs)
  |_,_=>none
def resLow:List ResultVar->Bool
 | []=>true
 | .tmp t::r=>decide (t<10000)&&resLow r
 | .cell t _::r=>decide (t<10000)&&resLow r
def isForm (writes:Nat->Bool) (f:Func) (v:Fn):Prop:=
 ∃c,f.body=some c/\comp P f.ntmps writes c (hints v.body)=some (v.body,[])/\cRes P f.results.toList=some v.results/\v.modes.length<=f.ntmps/\f.ntmps<=10000/\resLow f.results.toList=true/\(v.keeps&&hasFrz v.body)=false
end
