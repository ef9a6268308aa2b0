/- The interpreter 'VM'. -/
import GoSem.Dispatch
import GoSem.ClaimData
set_option linter.all false
namespace Go.Proofs.YtpgkmggaifgjkaaGreatDoor.VM
open Go
theorem zo {p:Prop} (h:p:=by omega):p:=h
inductive PV where
 |a (v:Value)
 |sl (e:Nat) (es:List PV)
 |fz (e:Nat) (es:List PV)
 |st (cs:List PV)
 |un
 deriving Inhabited
inductive CV where
 |a (v:Value)
 |sl (z:Bool) (e:Nat) (es:List PV)
 |bx (z:Bool) (cs:List CV)
 |st (cs:List CV)
 |tp (cs:List CV)
 |fn (f:Nat) (fs cs:List CV)
 |ic (t:Nat) (v:CV)
 |un
 deriving Inhabited
inductive TV where
 |a (v:Value)
 |nl (e:Nat)
 |rf (id:Nat)
 |ri (id ver:Nat) (p:List (Nat×Nat×Nat))
 |sb (id lo n:Nat)
 |ad (id o:Nat)
 |ea (id i m o:Nat)
 |ei (id ver:Nat) (p:List (Nat×Nat×Nat)) (i m o:Nat)
 |sz (e:Nat) (es:List PV)
 |ez (cs:List PV) (o:Nat)
 |st (cs:List TV)
 |tp (cs:List TV)
 |fn (f:Nat) (fs cs:List TV)
 |ic (t:Nat) (v:TV)
 |un
 deriving Inhabited
inductive Node where
 |bx (z:Bool) (cs:List TV)
 |sl (q:Bool) (ver e:Nat) (es:List PV)
 deriving Inhabited
structure St where
 slots:List (Nat×TV)
 nodes:List (Nat×Option Node)
 next:Nat
 deriving Inhabited
def look {α:Type}:List (Nat×α)->Nat->Option α
 | [],_=>none
 |(j,v)::r,k=>if j=k then some v else look r k
def St.slot (s:St) (t:Nat):TV:=(look s.slots t).getD .un
def St.node (s:St) (id:Nat):Option Node:=(look s.nodes id).getD none
inductive M (α:Type) where
 |pure (x:α)
 |fail
 |getS (t:Nat) (k:TV->M α)
 |setS (t:Nat) (v:TV) (k:M α)
 |getN (id:Nat) (k:Option Node->M α)
 |setN (id:Nat) (n:Option Node) (k:M α)
def M.bind {α β:Type}:M α->(α->M β)->M β
 | .pure x,f=>f x
 | .fail,_=> .fail
 | .getS t k,f=> .getS t λv=>(k v).bind f
 | .setS t v k,f=> .setS t v (k.bind f)
 | .getN id k,f=> .getN id λn=>(k n).bind f
 | .setN id n k,f=> .setN id n (k.bind f)
def getS (t:Nat):M TV:= .getS t .pure
def setS (t:Nat) (v:TV):M Unit:= .setS t v (.pure ())
def getN (id:Nat):M (Option Node):= .getN id .pure
def setN (id:Nat) (n:Option Node):M Unit:= .setN id n (.pure ())
def liftO {α:Type}:Option α->M α
 |some x=> .pure x
 |none=> .fail
def M.run {α:Type}:M α->St->Option (α×St)
 | .pure x,s=>some (x,s)
 | .fail,_=>none
 | .getS t k,s=>(k (s.slot t)).run s
 | .setS t v k,s=>k.run {s with slots:=(t,v)::s.slots}
 | .getN id k,s=>(k (s.node id)).run s
 | .setN id n k,s=>k.run {s with nodes:=(id,n)::s.nodes}
inductive Opd where
 |t (n:Nat)
 |c (v:Value)
 |nl (e:Nat)
 |f (g:Nat)
 deriving Inhabited
inductive ZC where
 |v (v:Value)
 |nl (e:Nat)
 deriving Inhabited
inductive VOp where
 |mov (d:Nat) (x:Opd)
 |pick (d:Nat) (c a b:Opd)
 |alloc (d:Nat) (zs:List ZC)
 |box (d:Nat) (x:Opd)
 |build (d:Nat) (zs:List ZC) (ps:List (Nat×Nat×Opd))
 |bsl (d e m:Nat) (zs:List ZC) (n:Nat) (ps:List (Nat×Opd))
 |load (d:Nat) (w:Option Nat) (x:Opd)
 |lda (d:Nat) (x:Opd)
 |store (w:Nat) (x y:Opd)
 |nilck (d:Nat) (x:Opd)
 |bin (d:Nat) (op:BinOp) (x y:Opd)
 |beq (d:Nat) (ne:Bool) (n:Nat) (x y:Opd)
 |un (d:Nat) (op:UnOp) (x:Opd)
 |cvi (d:Nat) (k:IntKind) (x:Opd)
 |cvs (d:Nat) (x:Opd)
 |s2b (d e:Nat) (x:Opd)
 |b2s (d e:Nat) (x:Opd)
 |mkf (d f:Nat) (fs cs:List Opd)
 |mki (d t:Nat) (x:Opd)
 |mks (d e bytes:Nat) (zs:List ZC) (x:Opd)
 |slc (d e:Nat) (x:Opd) (lo hi:Option Opd)
 |slc0 (d e:Nat) (x:Opd)
 |sslc (d:Nat) (x:Opd) (lo hi:Option Opd)
 |fad (d:Nat) (x:Opd) (off:Nat)
 |fld (d:Nat) (x:Opd) (off:Nat) (w:Option Nat)
 |iad (d e m:Nat) (x i:Opd)
 |ix (d:Nat) (x i:Opd)
 |len (d:Nat) (x:Opd)
 |slen (d:Nat) (x:Opd)
 |mmx (d:Nat) (isMax:Bool) (xs:List Opd)
 |app (d e bytes:Nat) (mv:Bool) (x y:Opd)
 |ext (d:Nat) (x:Opd) (i:Nat)
 |call (d:Option Nat) (f:Nat) (xs:List Opd)
 |calv (d:Option Nat) (f:Opd) (xs:List Opd)
 |cala (d:Option Nat) (f:Nat) (xs:List Opd)
 |cali (d:Option Nat) (t f:Nat) (x:Opd) (xs:List Opd)
 |clr (e:Nat) (z:Value) (x:Opd)
 |fl (d:Option Nat)
 deriving Inhabited
structure VOper where
 op:VOp
 guard:Option (Nat×Bool):=none
 dst:Option Nat:=none
 deriving Inhabited
inductive VC where
 |skip
 |reg (ops:List VOper) (live:List Nat)
 |regD (ops:List VOper) (live:List Nat) (ps:List (Nat×Nat))
 |seq (a b:VC)
 |cond (c:Opd) (a b:VC)
 |block (id:Nat) (b:VC)
 |loop (live:List Nat) (b:VC)
 |exit (id:Nat)
 |ret
 |frz (b:VC)
 |ro (live:List Nat) (b:VC)
 deriving Inhabited
inductive Md where
 |ro (n:Nat)
 |mut (n:Nat)
 deriving Inhabited,DecidableEq
inductive RV where
 |t (n:Nat)
 |cell (n:Nat) (w:Option Nat)
 deriving Inhabited
structure Fn where
 modes:List Md
 keeps:Bool
 scalar:Bool
 results:List RV
 body:VC
 deriving Inhabited
def PV.cells:PV->List PV
 | .st cs=>cs
 |v=> [v]
def TV.cells:TV->List TV
 | .st cs=>cs
 |v=> [v]
def ZC.tv:ZC->TV
 |ZC.v x=> .a x
 | .nl e=> .nl e
def ZC.isNl:ZC->Bool
 | .nl _=>true
 |_=>false
def ZC.pv:ZC->PV
 |ZC.v x=> .a x
 | .nl e=> .sl e []
def bytesPV (s:ByteArray):List PV:=s.data.toList.map λc=> .a (.int .u8 c.toNat)
def zeroEl (m:Nat) (zs:List ZC):PV:=if m=1 then ((zs.map ZC.pv).head?.getD .un) else .st (zs.map ZC.pv)
def PV.cpy:PV->PV
 | .a v=> .a v
 | .st cs=> .st (cs.map λc=>match c with| .a v=> .a v|_=> .un)
 |_=> .un
def PV.fzc:PV->PV
 | .a v=> .a v
 | .sl e es=> .fz e es
 | .fz e es=> .fz e es
 | .st cs=> .st (cs.map λc=>match c with| .a v=> .a v| .sl e es=> .fz e es| .fz e es=> .fz e es|_=> .un)
 | .un=> .un
def PV.thaw:PV->PV
 | .fz e es=> .sl e es
 | .st cs=> .st (cs.map λc=>match c with| .fz e es=> .sl e es|c=>c)
 |v=>v
def one1:Value->Bool
 | .agg _| .tuple _=>false
 |_=>true
def TV.row:TV->Option (List TV)
 | .st cs=>some cs
 | .a v=>if one1 v then some [.a v] else none
 | .tp _| .un=>none
 |v=>some [v]
def TV.one:TV->Bool
 | .a v=>one1 v
 | .st _| .tp _| .un=>false
 |_=>true
def TV.none:TV:= .a (.tuple #[])
def opd:Opd->M TV
 | .t n=>getS n
 | .c v=> .pure (.a v)
 | .nl e=> .pure (.nl e)
 | .f g=> .pure (.fn g [] [])
def opds:List Opd->M (List TV)
 | []=> .pure []
 |x::xs=>(opd x).bind λv=>(opds xs).bind λvs=> .pure (v::vs)
def vep (op:BinOp) (k:IntKind) (a b:Int):Option Value:=
 match op with
 | .add=>some (.int k (k.wrap (a+b)))
 | .sub=>some (.int k (k.wrap (a-b)))
 | .mul=>some (.int k (k.wrap (a * b)))
 | .quo=>if b=0 then none else some (.int k (k.wrap (a.tdiv b)))
 | .rem=>if b=0 then none else some (.int k (a.tmod b))
 | .and=>some (.int k (k.wrap (BitVec.ofInt k.bits a&&&BitVec.ofInt k.bits b).toNat))
 | .or=>some (.int k (k.wrap (BitVec.ofInt k.bits a|||BitVec.ofInt k.bits b).toNat))
 | .xor=>some (.int k (k.wrap (BitVec.ofInt k.bits a^^^BitVec.ofInt k.bits b).toNat))
 | .andNot=>some (.int k (k.wrap (BitVec.ofInt k.bits a&&& ~~~(BitVec.ofInt k.bits b)).toNat))
 | .shl=>if b<0 then none else some (.int k (k.wrap (a * 2^(min b.toNat k.bits))))
 | .shr=>if b<0 then none else some (.int k (a.fdiv (2^(min b.toNat k.bits))))
 | .eql=>some (.bool (a==b))
 | .neq=>some (.bool (a !=b))
 | .lss=>some (.bool (decide (a<b)))
 | .leq=>some (.bool (decide (a<=b)))
 | .gtr=>some (.bool (decide (a>b)))
 | .geq=>some (.bool (decide (a≥b)))
def strBin (op:BinOp) (x y:ByteArray):Option Value:=
 match op with
 | .add=>if x.size+y.size<=140737488351232 then some (.string (x++y)) else none
 | .eql=>some (.bool (x.toList==y.toList))
 | .neq=>some (.bool (!(x.toList==y.toList)))
 | .lss=>some (.bool (Op.bytesLess x.toList y.toList))
 |_=>none
def vdp:BinOp->Bool
 | .shl| .shr=>true
 |_=>false
def binA (op:BinOp):Value->Value->Option Value
 | .int k a,.int k' b=>if vdp op||k==k' then vep op k a b else none
 | .string x,.string y=>strBin op x y
 |_,_=>none
def unA (op:UnOp):Value->Option Value
 | .bool b=>match op with| .not=>some (.bool (!b))|_=>none
 | .int k n=>match op with
  | .neg=>some (.int k (k.wrap (0-n)))
  | .xor=>some (.int k (k.wrap (BitVec.ofInt k.bits (if k.signed then-1 else k.max)^^^BitVec.ofInt k.bits n).toNat))
  |_=>none
 |_=>none
def dget:List PV->List (Nat×Nat×Nat)->Option (Nat×List PV)
 |_,[]=>none
 |es,(i,m,o)::p=>
  match es[i]? with
  |none=>none
  |some x=>if x.cells.length=m then (match x.cells[o]? with
   |some (.sl e es')=>(match p with
    | []=>some (e,es')
    |q::p'=>dget es' (q::p'))
   |_=>none) else none
def vbu (x:PV) (o:Nat) (ys:List PV):PV:=
 match x with
 | .st cs=> .st (cs.take o++ys++cs.drop (o+ys.length))
 |x=>match o,ys with
  |0,[y]=>y
  |_,_=>x
def dat:List PV->List (Nat×Nat×Nat)->Option PV
 |_,[]=>none
 |es,(i,m,o)::p=>
  match es[i]? with
  |none=>none
  |some x=>if x.cells.length=m then (match x.cells[o]? with
   |none=>none
   |some c=>(match p with
    | []=>some c
    |q::p'=>(match c with
     | .sl _ es'=>dat es' (q::p')
     |_=>none))) else none
def dput:List PV->List (Nat×Nat×Nat)->PV->Option (List PV)
 |_,[],_=>none
 |es,(i,m,o)::p,c=>
  match es[i]? with
  |none=>none
  |some x=>if x.cells.length=m then (match x.cells[o]? with
   |none=>none
   |some c0=>(match p with
    | []=>some (es.set i (vbu x o [c]))
    |q::p'=>(match c0 with
     | .sl e es'=>(match dput es' (q::p') c with
      |some in'=>some (es.set i (vbu x o [.sl e in']))
      |none=>none)
     |_=>none))) else none
def ofFrozen:PV->TV
 | .a v=> .a v
 | .sl e es=> .sz e es
 | .fz e es=> .sz e es
 |_=> .un
def ofOwn (id ver:Nat) (p:List (Nat×Nat×Nat)):PV->TV
 | .a v=> .a v
 | .sl _ _=> .ri id ver p
 | .fz e es=> .sz e es
 |_=> .un
def vbi (cs:List TV) (o:Nat):Option Nat->Option TV
 |none=>cs[o]?
 |some w=>if o+w<=cs.length then some (.st ((cs.drop o).take w)) else none
def vg2 (id ver:Nat) (p:List (Nat×Nat×Nat)) (i m:Nat) (x:PV):List TV:=
 x.cells.zipIdx.map λ(c,o)=>ofOwn id ver (p++ [(i,m,o)]) c
def loadAt (w:Option Nat):TV->M TV
 | .rf id=>(getN id).bind λn=>match n with
  |some (.bx _ cs)=>liftO (vbi cs 0 w)
  |_=> .fail
 | .ad id o=>(getN id).bind λn=>match n with
  |some (.bx _ cs)=>liftO (vbi cs o w)
  |_=> .fail
 | .ea id i m o=>(getN id).bind λn=>match n with
  |some (.sl _ ver _ es)=>match es[i]? with
   |some x=>liftO (vbi (vg2 id ver [] i m x) o w)
   |none=> .fail
  |_=> .fail
 | .ei id ver p i m o=>(getN id).bind λn=>match n with
  |some (.sl _ ver' _ es)=>
   if ver'=ver then match dget es p with
    |some (_,es')=>match es'[i]? with
     |some x=>if x.cells.length=m then liftO (vbi (vg2 id ver p i m x) o w) else .fail
     |none=> .fail
    |none=> .fail
   else .fail
  |_=> .fail
 | .ez cs o=>liftO (vbi (cs.map ofFrozen) o w)
 |_=> .fail
def toPV:TV->M (PV×Bool)
 | .a v=>if one1 v then .pure (.a v,false) else .fail
 | .nl e=> .pure (.sl e [],false)
 | .sz e es=> .pure (.fz e es,true)
 | .rf id=>(getN id).bind λn=>match n with
  |some (.sl q _ e es)=>(setN id none).bind λ_=> .pure (.sl e es,q)
  |_=> .fail
 |_=> .fail
def toPVs:List TV->M (List PV×Bool)
 | []=> .pure ([],false)
 |x::xs=>(toPV x).bind λy=>(toPVs xs).bind λys=> .pure (y.1::ys.1,y.2||ys.2)
def atomPV:TV->Option PV
 | .a v=>if one1 v then some (.a v) else none
 |_=>none
def vej:List TV->Option (List PV)
 | []=>some []
 |x::xs=>match atomPV x,vej xs with
  |some y,some ys=>some (y::ys)
  |_,_=>none
def toEl (flat:Bool) (x:TV):M (PV×Bool):=
 match x with
 | .st cs=>if flat then (liftO (vej cs)).bind λys=> .pure (.st ys,false) else (toPVs cs).bind λys=> .pure (.st ys.1,ys.2)
 |x=>if flat then (liftO (atomPV x)).bind λy=> .pure (y,false) else toPV x
def isSliceV:Value->Bool
 | .slice .. =>true
 |_=>false
def isAtom:PV->Bool
 | .a v=> !isSliceV v
 |_=>false
def storeBox (w id o:Nat) (y:TV):M Unit:=
 (getN id).bind λn=>match n with
  |some (.bx false cs)=>
   if y.cells.length=w/\o+w<=cs.length/\y.cells.all TV.one=true then setN id (some (.bx false (cs.take o++y.cells++cs.drop (o+w)))) else .fail
  |_=> .fail
def vet (ys:List PV) (x:PV) (o w:Nat):Bool:=ys.all isAtom&&((x.cells.drop o).take w).all isAtom
def vm1 (w id:Nat) (q:Bool) (ver e:Nat) (es:List PV) (p:List (Nat×Nat×Nat)) (i m o:Nat) (r:Option (Nat×List PV)) (ys:Option (List PV)):M Unit:=
 match r,ys with
 |some (e',es'),some ys=>match es'[i]? with
  |some x=>if x.cells.length=m/\ys.length=w/\o+w<=x.cells.length/\vet ys x o w=true then
    match dput es p (.sl e' (es'.set i (vbu x o ys))) with
    |some es1=>setN id (some (.sl q ver e es1))
    |none=> .fail
   else .fail
  |none=> .fail
 |_,_=> .fail
def storeAt (b w:Nat) (x y:TV):M Unit:=
 match x with
 | .rf id=>storeBox w id 0 y
 | .ad id o=>storeBox w id o y
 | .ea id i _ o=>(toPVs y.cells).bind λys=>(getN id).bind λn=>match n with
  |some (.sl q ver e es)=>match es[i]? with
   |some x=>
    if ys.1.length=w/\o+w<=x.cells.length then
     setN id (some (.sl (q||ys.2) (if vet ys.1 x o w then ver else b+1) e (es.set i (vbu x o ys.1))))
    else .fail
   |none=> .fail
  |_=> .fail
 | .ei id ver p i m o=>(getN id).bind λn=>match n with
  |some (.sl q ver' e es)=>if ver'=ver then vm1 w id q ver e es p i m o (dget es p) (vej y.cells) else .fail
  |_=> .fail
 |_=> .fail
def elems:TV->M (Nat×List PV)
 | .nl e=> .pure (e,[])
 | .sz e es=> .pure (e,es)
 | .rf id=>(getN id).bind λn=>match n with
  |some (.sl _ _ e es)=> .pure (e,es)
  |_=> .fail
 | .sb id lo k=>(getN id).bind λn=>match n with
  |some (.sl _ _ e es)=> .pure (e,(es.drop lo).take k)
  |_=> .fail
 | .ri id ver p=>(getN id).bind λn=>match n with
  |some (.sl _ ver' _ es)=>if ver'=ver then match dget es p with
   |some r=> .pure r
   |none=> .fail else .fail
  |_=> .fail
 |_=> .fail
def asI:TV->Option Int
 | .a (.int _ n)=>some n
 |_=>none
def cut (l h n:Int):Prop:=0<=l/\l<=h/\h<=n
instance (l h n:Int):Decidable (cut l h n):=inferInstanceAs (Decidable (_/\_/\_))
def strAt (x:TV) (lo hi:Option Int):M TV:=
 match x with
 | .a (.string s)=>if cut (lo.getD 0) (hi.getD s.size) s.size then .pure (.a (.string (s.extract (lo.getD 0).toNat (hi.getD s.size).toNat))) else .fail
 |_=> .fail
def sliceAt (e:Nat) (x:TV) (lo hi:Option Int):M TV:=
 match x with
 | .nl e'=>if e'=e/\lo.getD 0=0/\hi.getD 0=0 then .pure (.nl e) else .fail
 | .sz e' es=>if e'=e/\cut (lo.getD 0) (hi.getD es.length) es.length then .pure (.sz e ((es.take (hi.getD es.length).toNat).drop (lo.getD 0).toNat)) else .fail
 | .rf id=>(getN id).bind λn=>match n with
  |some (.sl _ _ e' es)=>
   if e'=e/\cut (lo.getD 0) (hi.getD es.length) es.length then .pure (.sb id (lo.getD 0).toNat (hi.getD es.length-lo.getD 0).toNat) else .fail
  |_=> .fail
 | .sb id a k=>(getN id).bind λn=>match n with
  |some (.sl _ _ e' _)=>
   if e'=e/\cut (lo.getD 0) (hi.getD k) k then .pure (.sb id (a+(lo.getD 0).toNat) (hi.getD k-lo.getD 0).toNat) else .fail
  |_=> .fail
 |_=> .fail
def fieldAt (off:Nat):TV->M TV
 | .rf id=>(getN id).bind λn=>match n with
  |some (.bx _ _)=> .pure (.ad id off)
  |_=> .fail
 | .ad id o=> .pure (.ad id (o+off))
 | .ea id i m o=>(getN id).bind λn=>match n with
  |some (.sl _ _ _ _)=> .pure (.ea id i m (o+off))
  |_=> .fail
 | .ei id ver p i m o=>(getN id).bind λn=>match n with
  |some (.sl _ ver' _ _)=>if ver'=ver then .pure (.ei id ver p i m (o+off)) else .fail
  |_=> .fail
 | .ez cs o=> .pure (.ez cs (o+off))
 |_=> .fail
theorem qu4 {α:Type} {p q:Prop} [Decidable p] [Decidable q] {x y:α}:(if p then (if q then x else y) else y)=if p/\q then x else y:=by
 by_cases h:p<;>by_cases h2:q<;>simp [h,h2]
def indexAt (e m:Nat) (x:TV) (i:Int):M TV:=
 (elems x).bind λr=>
  if r.1=e then if 0<=i/\i<r.2.length then
   match x with
   | .rf id=> .pure (.ea id i.toNat m 0)
   | .sb id lo _=> .pure (.ea id (lo+i.toNat) m 0)
   | .ri id ver p=> .pure (.ei id ver p i.toNat m 0)
   | .sz _ es=>match es[i.toNat]? with
    |some x=> .pure (.ez x.cells 0)
    |none=> .fail
   |_=> .fail
  else .fail else .fail
def byteAt (s:ByteArray) (i:Int):Option Value:=
 if 0<=i then (s[i.toNat]?).map λb=> .int .u8 b.toNat else none
def takeIn (b e id:Nat) (q:Bool) (e':Nat):Option (Nat×List PV)->Option (List PV)->M (List PV×Bool)
 |some r,some es1=>if r.1=e then (setN id (some (.sl q (b+51) e' es1))).bind λ_=> .pure (r.2,q) else .fail
 |_,_=> .fail
def appTo (b e:Nat) (x:TV):M (List PV×Bool):=
 match x with
 | .nl e'=>if e'=e then .pure ([],false) else .fail
 | .rf id=>(getN id).bind λn=>match n with
  |some (.sl q _ e' es)=>if e'=e then (setN id none).bind λ_=> .pure (es,q) else .fail
  |_=> .fail
 | .sb id lo k=>(getN id).bind λn=>match n with
  |some (.sl q _ e' es)=>if e'=e then if lo+k=es.length then (setN id none).bind λ_=> .pure (es.drop lo,q) else .fail else .fail
  |_=> .fail
 | .ri id ver p=>(getN id).bind λn=>match n with
  |some (.sl q ver' e' es)=>if ver'=ver then takeIn b e id q e' (dget es p) (dput es p .un) else .fail
  |_=> .fail
 |_=> .fail
def isRi:TV->Bool
 | .ri _ _ _=>true
 |_=>false
def pullK (b id:Nat) (q:Bool) (e':Nat) (r:Option (Nat×List PV)) (es1:Option (List PV)):M TV:=
 match r with
 |some r=>(takeIn b r.1 id q e' (some r) es1).bind λz=>(setN (b+60) (some (.sl z.2 0 r.1 z.1))).bind λ_=> .pure (.rf (b+60))
 |none=> .fail
def pull1 (b:Nat) (x:TV):M TV:=
 match x with
 | .ri id ver p=>(getN id).bind λn=>match n with
  |some (.sl q ver' e' es)=>if ver'=ver then pullK b id q e' (dget es p) (dput es p .un) else .fail
  |_=> .fail
 |x=> .pure x
def pullL (b:Nat):List TV->M (List TV)
 | []=> .pure []
 |x::xs=>if isRi x then (pull1 b x).bind λy=> .pure (y::xs) else (pullL b xs).bind λys=> .pure (x::ys)
def pullTo (b:Nat) (u v:TV):M TV:=
 match u,v with
 | .ea ..,.st cs=>(pullL b cs).bind λcs'=> .pure (.st cs')
 |_,v=> .pure v
def cpyOf (mv:Bool) (y:TV) (es:List PV):List PV×Bool:=
 match mv,y with
 |true,.sz _ _=>(es.map PV.fzc,true)
 |_,_=>(es.map PV.cpy,false)
def appOf (e:Nat) (mv:Bool) (y:TV):M (List PV×Bool):=
 match y with
 | .rf id=>(getN id).bind λn=>match n with
  |some (.sl q _ e' es)=>if e'=e then (if mv then (setN id none).bind λ_=> .pure (es,q) else .pure (es.map PV.cpy,false)) else .fail
  |_=> .fail
 |y=>(elems y).bind λr=>if r.1=e then .pure (cpyOf mv y r.2) else .fail
def capOk (n bytes:Nat):Bool:=decide (n<=9223372036854775807/\n * bytes<=140737488355328)
theorem qih {n bytes:Nat}:capOk n bytes=true↔n<=9223372036854775807/\n * bytes<=140737488355328:=by simp only [capOk,decide_eq_true_eq]
def appendM (b e bytes:Nat) (mv:Bool) (x y:TV):M TV:=
 (appTo b e x).bind λxs=>(appOf e mv y).bind λys=>
  if capOk (xs.1.length+ys.1.length) bytes=true then
   (setN b (some (.sl (xs.2||ys.2) 0 e (xs.1++ys.1)))).bind λ_=> .pure (.rf b)
  else .fail
mutual
def vba (z:Bool):Nat->Nat->TV->M CV
 |0,_,_=> .fail
 |k+1,n,x=>
  match x with
  | .a v=> .pure (.a v)
  | .nl e=> .pure (.sl true e [])
  | .sz e es=> .pure (.sl true e es)
  | .st cs=>(vbo z k cs).bind λcs'=> .pure (.st cs')
  | .fn f fs cs=>(vbo z k fs).bind λfs'=>(vbo z k cs).bind λcs'=> .pure (.fn f fs' cs')
  | .ic t v=>(vba z k n v).bind λv'=> .pure (.ic t v')
  | .un=> .pure .un
  | .rf id=>(getN id).bind λm=>match m with
   |some (.sl q _ e es)=>if z&& !es.isEmpty then .fail else .pure (.sl true e (if q then es.map PV.thaw else es))
   |some (.bx z0 cs)=>if z&& !z0 then .fail else (vbo z k cs).bind λcs'=> .pure (.bx true cs')
   |none=> .fail
  | .sb id lo j=>if z then .fail else (getN id).bind λm=>match m with
   |some (.sl q _ e es)=> .pure (.sl true e (if q then ((es.drop lo).take j).map PV.thaw else (es.drop lo).take j))
   |_=> .fail
  | .ri id ver p=>if z then .fail else (getN id).bind λm=>match m with
   |some (.sl q ver' _ es)=>if ver'=ver then match dget es p with
    |some (e,es')=> .pure (.sl true e (if q then es'.map PV.thaw else es'))
    |none=> .fail else .fail
   |_=> .fail
  | .ad id o=>if z then .fail else (getN id).bind λm=>match m with
   |some (.bx _ cs)=>if 0<n/\o+n<=cs.length then (vbo z k ((cs.drop o).take n)).bind λcs'=> .pure (.bx true cs') else .fail
   |_=> .fail
  |_=> .fail
def vbo (z:Bool):Nat->List TV->M (List CV)
 |0,_=> .fail
 |_,[]=> .pure []
 |k+1,x::xs=>(vba z k 0 x).bind λy=>(vbo z k xs).bind λys=> .pure (y::ys)
end
mutual
def nfz:PV->Bool
 | .a _=>true
 | .sl _ es=>nfzL es
 | .fz _ _=>false
 | .st cs=>nfzL cs
 | .un=>true
def nfzL:List PV->Bool
 | []=>true
 |c::cs=>nfz c&&nfzL cs
end
mutual
def atm:PV->Bool
 | .a _=>true
 | .un=>true
 | .st cs=>atmL cs
 |_=>false
def atmL:List PV->Bool
 | []=>true
 |c::cs=>atm c&&atmL cs
end
mutual
def tyN (t:Nat):PV->Bool
 | .a _=>true
 | .sl e es=>e !=t&&tyNL t es
 | .fz e es=>e !=t&&tyNL t es
 | .st cs=>tyNL t cs
 | .un=>true
def tyNL (t:Nat):List PV->Bool
 | []=>true
 |c::cs=>tyN t c&&tyNL t cs
end
def badFz (q fz:Bool) (es:List PV):Bool:=q&& !fz&& !nfzL es
mutual
def okShow (t:Nat):CV->Bool
 | .a _=>true
 | .sl z e es=>z&&(e !=t&&tyNL t es)
 | .st cs=>okShowL t cs
 |_=>false
def okShowL (t:Nat):List CV->Bool
 | []=>true
 |c::cs=>okShow t c&&okShowL t cs
end
mutual
def onlyC (t:Nat):CV->Bool
 | .a _=>true
 | .un=>true
 | .sl z e es=>if z then e==t&&atmL es else nfzL es
 | .bx z cs=> !z&&onlyCL t cs
 | .st cs=>onlyCL t cs
 |_=>false
def onlyCL (t:Nat):List CV->Bool
 | []=>true
 |c::cs=>onlyC t c&&onlyCL t cs
end
def onlyOf:List Md->Option Nat
 | []=>none
 | .ro n::ms=>if 1000<=n then some (n-1000) else onlyOf ms
 | .mut _::ms=>onlyOf ms
def msOk (t:Nat):List Md->Bool
 | []=>true
 | .ro n::ms=>(decide (n<1000)||n==t+1000)&&msOk t ms
 | .mut _::ms=>msOk t ms
def ckO (o:Option Nat) (ms:List Md) (rs fs:List CV):M (List CV×List CV):=
 match o with
 |none=> .pure (rs,fs)
 |some t=>if (msOk t ms&&onlyCL t (rs++fs))=true then .pure (rs,fs) else .fail
mutual
def pack (fz:Bool):Nat->TV->M CV
 |0,_=> .fail
 |k+1,x=>
  match x with
  | .a v=> .pure (.a v)
  | .nl e=> .pure (.sl false e [])
  | .sz e es=>if fz then .pure (.sl true e es) else .fail
  | .st cs=>(vck fz k cs).bind λcs'=> .pure (.st cs')
  | .fn f fs cs=>(vck fz k fs).bind λfs'=>(vck fz k cs).bind λcs'=> .pure (.fn f fs' cs')
  | .ic t v=>(pack fz k v).bind λv'=> .pure (.ic t v')
  | .rf id=>(getN id).bind λm=>match m with
   |some (.sl q _ e es)=>if badFz q fz es then .fail else (setN id none).bind λ_=> .pure (.sl false e es)
   |some (.bx z cs)=>if z then .fail else (setN id none).bind λ_=>(vck fz k cs).bind λcs'=> .pure (.bx false cs')
   |none=> .pure .un
  | .un=> .pure .un
  | .sb id lo n=>(getN id).bind λm=>match m with
   |some (.sl q _ e es)=>if (q&& !fz)=true\/es.length<lo+n then .fail else (setN id none).bind λ_=> .pure (.sl false e ((es.drop lo).take n))
   |_=> .fail
  |_=> .fail
def vck (fz:Bool):Nat->List TV->M (List CV)
 |0,_=> .fail
 |_,[]=> .pure []
 |k+1,x::xs=>(pack fz k x).bind λy=>(vck fz k xs).bind λys=> .pure (y::ys)
end
mutual
def vay (q:Bool):Nat->CV->M (TV×Nat)
 |b,.a v=> .pure (.a v,b)
 |b,.sl z e es=>if z then .pure (.sz e es,b) else (setN b (some (.sl q 0 e es))).bind λ_=> .pure (.rf b,b+1)
 |b,.bx z cs=>(vbg q (b+1) cs).bind λr=>(setN b (some (.bx z r.1))).bind λ_=> .pure (.rf b,r.2)
 |b,.st cs=>(vbg q b cs).bind λr=> .pure (.st r.1,r.2)
 |b,.tp cs=>(vbg q b cs).bind λr=> .pure (.tp r.1,r.2)
 |b,.fn f fs cs=>(vbg q b fs).bind λp=>(vbg q p.2 cs).bind λr=> .pure (.fn f p.1 r.1,r.2)
 |b,.ic t v=>(vay q b v).bind λr=> .pure (.ic t r.1,r.2)
 |b,.un=> .pure (.un,b)
def vbg (q:Bool):Nat->List CV->M (List TV×Nat)
 |b,[]=> .pure ([],b)
 |b,x::xs=>(vay q b x).bind λr=>(vbg q r.2 xs).bind λp=> .pure (r.1::p.1,p.2)
end
mutual
def vaf (q:Bool) (v:Nat):Nat->TV->CV->CV->M Nat
 |b,.rf id,.sl false e0 _,.sl false e es=>(getN id).bind λm=>if m.isNone/\e0=e then (setN id (some (.sl q v e es))).bind λ_=> .pure b else .fail
 |b,.rf id,.bx false _,.bx false cs=>(getN id).bind λm=>if m.isNone then (vbg q b cs).bind λr=>(setN id (some (.bx false r.1))).bind λ_=> .pure r.2 else .fail
 |b,.fn _ fs cs,.fn _ fs0 cs0,.fn _ fs' cs'=>(vbh q v b fs fs0 fs').bind λb'=>vbh q v b' cs cs0 cs'
 |b,.st cs,.st cs0,.st cs'=>vbh q v b cs cs0 cs'
 |b,.ic _ x,.ic _ x0,.ic _ x'=>vaf q v b x x0 x'
 |b,_,_,_=> .pure b
def vbh (q:Bool) (v:Nat):Nat->List TV->List CV->List CV->M Nat
 |b,x::xs,y0::ys0,y::ys=>(vaf q v b x y0 y).bind λb'=>vbh q v b' xs ys0 ys
 |b,_,_,_=> .pure b
end
structure Callee where
 modes:List Md
 keeps:Bool
 scalar:Bool
 go:List CV->Option (List CV×List CV)
def depth:Nat:=40
def lend0 (keeps:Bool) (x:TV):M CV:=if isRi x then .pure .un else pack keeps depth x
def lend (keeps:Bool):List Md->List TV->M (List CV)
 | [],[]=> .pure []
 | .ro _::ms,_::xs=>(lend keeps ms xs).bind λys=> .pure (.un::ys)
 | .mut _::ms,x::xs=>(lend0 keeps x).bind λy=>(lend keeps ms xs).bind λys=> .pure (y::ys)
 |_,_=> .fail
def lend1 (keeps:Bool) (v:Nat) (x:TV) (y:CV):M CV:=
 match x with
 | .ri id ver p=>(getN id).bind λm=>match m with
  |some (.sl q ver' e es)=>if (q&& !keeps)=true\/ver'≠ver then .fail else
   match dget es p,dput es p .un with
   |some r,some es1=>(setN id (some (.sl q v e es1))).bind λ_=> .pure (.sl false r.1 r.2)
   |_,_=> .fail
  |_=> .fail
 |_=> .pure y
def vbs (keeps:Bool) (v:Nat):List Md->List TV->List CV->M (List CV)
 | .ro _::ms,_::xs,y::ys=>(vbs keeps v ms xs ys).bind λys=> .pure (y::ys)
 | .mut _::ms,x::xs,y::ys=>(lend1 keeps v x y).bind λy=>(vbs keeps v ms xs ys).bind λys=> .pure (y::ys)
 | [],[],[]=> .pure []
 |_,_,_=> .fail
def lendA (keeps:Bool) (v:Nat) (ms:List Md) (xs:List TV):M (List CV):=(lend keeps ms xs).bind λps=>vbs keeps v ms xs ps
def frz1 (keeps:Bool) (n:Nat) (x:TV):M CV:=
 if 1000<=n then (vba false depth 0 x).bind λy=>if okShow (n-1000) y=true then .pure y else .fail else vba keeps depth n x
def show_ (keeps:Bool):List Md->List TV->List CV->M (List CV)
 | [],[],[]=> .pure []
 | .ro n::ms,x::xs,_::ys=>(frz1 keeps n x).bind λy=>(show_ keeps ms xs ys).bind λys=> .pure (y::ys)
 | .mut _::ms,_::xs,y::ys=>(show_ keeps ms xs ys).bind λys=> .pure (y::ys)
 |_,_,_=> .fail
def back1 (q:Bool) (v b:Nat) (x:TV) (c f:CV):M Nat:=
 match x with
 | .ri id _ p=>match f with
  | .sl false e' es'=>(getN id).bind λm=>match m with
   |some (.sl q0 ver e es)=>match dat es p,dput es p (.sl e' es') with
    |some .un,some es1=>(setN id (some (.sl (q0||q) ver e es1))).bind λ_=> .pure b
    |_,_=> .fail
   |_=> .fail
  |_=> .fail
 |_=>vaf q v b x c f
def van (q:Bool) (v:Nat):Nat->List Md->List TV->List CV->List CV->M Nat
 |b,.ro _::ms,_::xs,_::cs,fs=>van q v b ms xs cs fs
 |b,.mut _::ms,x::xs,c::cs,f::fs=>(back1 q v b x c f).bind λb'=>van q v b' ms xs cs fs
 |b,[],[],[],[]=> .pure b
 |_,_,_,_,_=> .fail
def oneOf:List TV->TV
 | [v]=>v
 |vs=> .tp vs
def vd5 (q:Bool) (top b:Nat) (rs:List CV):M TV:=
 (vbg q b rs).bind λr=>if r.2<=top then .pure (oneOf r.1) else .fail
mutual
def plain:CV->Option TV
 | .a v=>some (.a v)
 | .sl z e es=>if z then some (.sz e es) else none
 | .st cs=>(plainL cs).map .st
 | .un=>some .un
 |_=>none
def plainL:List CV->Option (List TV)
 | []=>some []
 |x::xs=>match plain x,plainL xs with
  |some y,some ys=>some (y::ys)
  |_,_=>none
end
def callM (c:Option Callee) (b:Nat) (xs:List TV):M TV:=
 match c with
 |none=> .fail
 |some c=>(lendA c.keeps (b+100) c.modes xs).bind λps=>(show_ c.keeps c.modes xs ps).bind λcs=>match c.go cs with
   |none=> .fail
   |some (rs,fs)=>(van c.keeps (b+100) b c.modes xs cs fs).bind λb'=>if c.scalar then (if b'<=b+99 then (liftO (plainL rs)).bind λts=> .pure (oneOf ts) else .fail) else vd5 c.keeps (b+99) b' rs
def isAls:List Md->Bool
 | .mut n::_=>decide (100<=n)
 |_=>false
def alsIn (c:Option Callee) (vs:List TV) (tv:TV):M Unit:=
 match c,vs,tv with
 |some c,.rf k::_,.rf id=>if isAls c.modes=true then (getN id).bind λm=>match m with
  |some (.bx false (.un::cs))=>setN id (some (.bx false (.rf k::cs)))
  |_=> .fail else .fail
 |_,_,_=> .fail
def alsC:Option Callee->Bool
 |some c=>isAls c.modes
 |none=>true
def alsIn2 (c:Option Callee) (vs:List TV) (tv:TV):M Unit:=if alsC c=true then alsIn c vs tv else .pure ()
def rowEq:List TV->List TV->Option Bool
 | [],[]=>some true
 | .a (.int k x)::us,.a (.int k' y)::vs=>if k=k' then (rowEq us vs).map λr=>decide (x=y)&&r else none
 |_,_=>none
def buildM:List (Nat×Nat×Opd)->List TV->M (List TV)
 | [],cs=> .pure cs
 |(o,w,x)::ps,cs=>(opd x).bind λv=>
  if v.cells.length=w/\o+w<=cs.length/\v.row.isSome=true then buildM ps (cs.take o++v.cells++cs.drop (o+w)) else .fail
def bslM (flat:Bool) (m:Nat):List (Nat×Opd)->Bool->List PV->M (List PV×Bool)
 | [],q,es=> .pure (es,q)
 |(i,x)::ps,q,es=>(opd x).bind λv=>(toEl flat v).bind λy=>
  if y.1.cells.length=m/\i<es.length then bslM flat m ps (q||y.2) (es.set i y.1) else .fail
def bslQ (b:Nat) (flat:Bool) (m:Nat) (ps:List (Nat×Opd)) (es:List PV):M (List PV×Bool):=
 match flat,ps with
 |false,[(i,x)]=>(opd x).bind λv=>(pullTo b (.ea 0 0 0 0) v).bind λv=>(toEl false v).bind λy=>if y.1.cells.length=m/\i<es.length then .pure (es.set i y.1,y.2) else .fail
 |flat,ps=>bslM flat m ps false es
def flatZ (zs:List ZC):Bool:=zs.all λz=>match z with| .v _=>true| .nl _=>false
def atomS (d:Nat):TV->M Unit
 | .a c=>setS d (.a c)
 |_=> .fail
def clrOk (es:List PV):Bool:= !es.isEmpty&&es.all isAtom
def clrAt (e:Nat) (z:Value) (v:TV):M Unit:=
 match v with
 | .rf id=>(getN id).bind λn=>match n with
  |some (.sl q ver e' es)=>if e'=e/\clrOk es=true then setN id (some (.sl q ver e (List.replicate es.length (.a z)))) else .fail
  |_=> .fail
 |_=> .fail
def bound:Option Opd->M (Option Int)
 |none=> .pure none
 |some y=>(opd y).bind λu=>match asI u with
  |some n=> .pure (some n)
  |none=> .fail
def extreme (isMax:Bool):List TV->Int->Option Int
 | [],n=>some n
 | .a (.int _ y)::vs,n=>extreme isMax vs (if isMax then (if y>n then y else n) else (if y<n then y else n))
 |_,_=>none
def u8of:List PV->Option (List UInt8)
 | []=>some []
 | .a (.int .u8 n)::es=>match u8of es with
  |some bs=>some (UInt8.ofNat n.toNat::bs)
  |none=>none
 |_=>none
section
variable (Φ:Nat->Option Callee)
def putO (d:Option Nat) (v:TV):M Unit:=
 match d with
 |some d=>setS d v
 |none=> .pure ()
def exec (b:Nat):VOp->M Unit
 | .mov d x=>(opd x).bind (setS d)
 | .pick d c x y=>(opd c).bind λu=>match u with
  | .a (.bool t)=>(if t then opd x else opd y).bind (setS d)
  |_=> .fail
 | .alloc d zs=>if zs.isEmpty then .fail else (setN b (some (.bx false (zs.map ZC.tv)))).bind λ_=>setS d (.rf b)
 | .box d x=>(opd x).bind λv=>(liftO v.row).bind λcs=>if cs.isEmpty then .fail else (setN b (some (.bx false cs))).bind λ_=>setS d (.rf b)
 | .build d zs ps=>(buildM ps (zs.map ZC.tv)).bind λcs=>setS d (.st cs)
 | .bsl d e m zs n ps=>(bslQ b (flatZ zs) m ps (List.replicate n (zeroEl m zs))).bind λes=>(setN b (some (.sl es.2 0 e es.1))).bind λ_=>setS d (.rf b)
 | .load d w x=>(opd x).bind λv=>(loadAt w v).bind (setS d)
 | .lda d x=>(opd x).bind λv=>(loadAt none v).bind (atomS d)
 | .store w x y=>(opd x).bind λu=>(opd y).bind λv=>(pullTo b u v).bind λv=>storeAt b w u v
 | .nilck d x=>(opd x).bind λv=>match v with
  | .rf id=>(getN id).bind λn=>match n with
   |some (.bx _ _)=>setS d v
   |_=> .fail
  | .ad _ _=>setS d v
  | .ea id _ _ _=>(getN id).bind λn=>match n with
   |some (.sl _ _ _ _)=>setS d v
   |_=> .fail
  | .ez _ _=>setS d v
  | .fn _ _ _=>setS d v
  | .ic _ _=>setS d v
  |_=> .fail
 | .bin d op x y=>(opd x).bind λu=>(opd y).bind λv=>match u,v with
  | .a u,.a v=>(liftO (binA op u v)).bind λr=>setS d (.a r)
  |_,_=> .fail
 | .beq d ne n x y=>(opd x).bind λu=>(opd y).bind λv=>match n,u,v with
  |0,.a (.bool u),.a (.bool v)=>setS d (.a (.bool (if ne then u !=v else u==v)))
  |m+1,.st us,.st vs=>(liftO (if us.length=m+1 then rowEq us vs else none)).bind λr=>setS d (.a (.bool (if ne then !r else r)))
  |_,_,_=> .fail
 | .un d op x=>(opd x).bind λu=>match u with
  | .a u=>(liftO (unA op u)).bind λr=>setS d (.a r)
  |_=> .fail
 | .cvi d k x=>(opd x).bind λu=>match u with
  | .a (.int _ n)=>setS d (.a (.int k (k.wrap n)))
  |_=> .fail
 | .cvs d x=>(opd x).bind λu=>match u with
  | .a (.string s)=>setS d (.a (.string s))
  |_=> .fail
 | .s2b d e x=>(opd x).bind λu=>match u with
  | .a (.string s)=>if s.size<=9223372036854775807 then (setN b (some (.sl false 0 e (bytesPV s)))).bind λ_=>setS d (.rf b) else .fail
  |_=> .fail
 | .b2s d e x=>(opd x).bind λv=>(elems v).bind λr=>if r.1=e then (liftO (u8of r.2)).bind λbs=>setS d (.a (.string ⟨bs.toArray⟩)) else .fail
 | .mkf d f fs cs=>(opds fs).bind λus=>(opds cs).bind λvs=>setS d (.fn f us vs)
 | .mki d t x=>(opd x).bind λv=>setS d (.ic t v)
 | .mks d e bytes zs x=>(opd x).bind λu=>match u with
  | .a (.int .i64 n)=>
   if 0<=n/\n * bytes<=140737488355328/\n<=9223372036854775807 then
    (setN b (some (.sl false 0 e (List.replicate n.toNat (zeroEl zs.length zs))))).bind λ_=>setS d (.rf b)
   else .fail
  |_=> .fail
 | .slc d e x lo hi=>(opd x).bind λv=>(bound lo).bind λl=>(bound hi).bind λh=>(sliceAt e v l h).bind (setS d)
 | .slc0 d e x=>(opd x).bind λv=>(elems v).bind λr=>if r.1=e then (setN b (some (.sl false 0 e []))).bind λ_=>setS d (.rf b) else .fail
 | .sslc d x lo hi=>(opd x).bind λv=>(bound lo).bind λl=>(bound hi).bind λh=>(strAt v l h).bind (setS d)
 | .fad d x off=>(opd x).bind λv=>(fieldAt off v).bind (setS d)
 | .fld d x off w=>(opd x).bind λv=>match v with
  | .st cs=>(liftO (vbi cs off w)).bind (setS d)
  |_=> .fail
 | .iad d e m x i=>(opd x).bind λv=>(opd i).bind λu=>match asI u with
  |some n=>(indexAt e m v n).bind (setS d)
  |none=> .fail
 | .ix d x i=>(opd x).bind λv=>(opd i).bind λu=>match v,asI u with
  | .a (.string s),some n=>(liftO (byteAt s n)).bind λr=>setS d (.a r)
  |_,_=> .fail
 | .len d x=>(opd x).bind λv=>(elems v).bind λr=>setS d (.a (.int .i64 r.2.length))
 | .slen d x=>(opd x).bind λv=>match v with
  | .a (.string s)=>setS d (.a (.int .i64 s.size))
  |_=> .fail
 | .mmx d isMax xs=>(opds xs).bind λvs=>match vs with
  | .a (.int k x)::vs=>(liftO (extreme isMax vs x)).bind λr=>setS d (.a (.int k r))
  |_=> .fail
 | .app d e bytes mv x y=>(opd x).bind λu=>(opd y).bind λv=>(appendM b e bytes mv u v).bind (setS d)
 | .ext d x i=>(opd x).bind λv=>match v with
  | .tp cs=>(liftO cs[i]?).bind (setS d)
  |_=> .fail
 | .call d f xs=>(opds xs).bind λvs=>(callM (Φ f) b vs).bind (putO d)
 | .cala d f xs=>(opds xs).bind λvs=>(callM (Φ f) b vs).bind λtv=>(alsIn2 (Φ f) vs tv).bind λ_=>putO d tv
 | .calv d f xs=>(opd f).bind λg=>match g with
  | .fn g fs cs=>(opds xs).bind λvs=>(callM (Φ g) b (fs++vs++cs)).bind (putO d)
  |_=> .fail
 | .cali d t f x xs=>(opd x).bind λg=>match g with
  | .ic t' v=>if t'=t then (opds xs).bind λvs=>(callM (Φ f) b (v::vs)).bind (putO d) else .fail
  |_=> .fail
 | .clr e z x=>(opd x).bind λv=>clrAt e z v
 | .fl _=> .fail
def execG (b:Nat) (o:VOper):M Unit:=
 match o.guard with
 |none=>exec Φ b o.op
 |some (t,want)=>(getS t).bind λu=>match u with
  | .a (.bool g)=>if g=want then exec Φ b o.op else putO o.dst TV.none
  | .a (.tuple _)=>putO o.dst TV.none
  |_=> .fail
def execs:Nat->List VOper->St->Option St
 |_,[],s=>some s
 |b,o::os,s=>match (execG Φ b o).run s with
  |some (_,s')=>execs (b+100) os s'
  |none=>none
mutual
def refs:TV->List Nat
 | .rf id=> [id]
 | .sb id _ _=> [id]
 | .ad id _=> [id]
 | .ea id _ _ _=> [id]
 | .ri id _ _=> [id]
 | .ei id _ _ _ _ _=> [id]
 | .st cs=>refsL cs
 | .tp cs=>refsL cs
 | .fn _ fs cs=>refsL fs++refsL cs
 | .ic _ v=>refs v
 |_=> []
def refsL:List TV->List Nat
 | []=> []
 |x::xs=>refs x++refsL xs
end
def addNew:List Nat->List Nat->List Nat
 |acc,[]=>acc
 |acc,x::xs=>if acc.contains x then addNew acc xs else addNew (acc++ [x]) xs
def reach (s:St):Nat->Nat->List Nat->List Nat
 |0,_,acc=>acc
 |k+1,i,acc=>match acc[i]? with
  |none=>acc
  |some id=>match s.node id with
   |some (.bx _ cs)=>reach s k (i+1) (addNew acc (refsL cs))
   |_=>reach s k (i+1) acc
def place (l:List Nat) (x:Nat):Option Nat:=
 match l with
 | []=>none
 |y::r=>if y=x then some 0 else (place r x).map (·+1)
def curV (s:St) (id ver:Nat):Bool:=match s.node id with
 |some (.sl _ v _ _)=>v==ver
 |_=>false
mutual
def ren (s:St) (l:List Nat):TV->TV
 | .a v=> .a v
 | .nl e=> .nl e
 | .rf id=>match place l id with|some k=> .rf k|none=> .un
 | .sb id lo n=>match place l id with|some k=> .sb k lo n|none=> .un
 | .ad id o=>match place l id with|some k=> .ad k o|none=> .un
 | .ea id i m o=>match place l id with|some k=> .ea k i m o|none=> .un
 | .ri id ver p=>match place l id with|some k=>if curV s id ver then .ri k 0 p else .un|none=> .un
 | .ei id ver p i m o=>match place l id with|some k=>if curV s id ver then .ei k 0 p i m o else .un|none=> .un
 | .sz e es=> .sz e es
 | .ez cs o=> .ez cs o
 | .st cs=> .st (renL s l cs)
 | .tp cs=> .tp (renL s l cs)
 | .fn f fs cs=> .fn f (renL s l fs) (renL s l cs)
 | .ic t v=> .ic t (ren s l v)
 | .un=> .un
def renL (s:St) (l:List Nat):List TV->List TV
 | []=> []
 |x::xs=>ren s l x::renL s l xs
end
def renN (s:St) (l:List Nat):Node->Node
 | .bx z cs=> .bx z (renL s l cs)
 | .sl q _ e es=> .sl q 0 e es
def vdi:Nat->List TV->List TV×List (Nat×Option Node)×Nat
 |b,[]=>([],[],b)
 |b,.nl e::xs=>let r:=vdi (b+1) xs;(.rf b::r.1,(b,some (.sl false 0 e []))::r.2.1,r.2.2)
 |b,x::xs=>let r:=vdi b xs;(x::r.1,r.2.1,r.2.2)
def veq:Nat->List (Nat×Option Node)->List (Nat×Option Node)×Nat
 |b,[]=>([],b)
 |b,(id,some (.bx false cs))::r=>
  let x:=vdi b cs;let y:=veq x.2.2 r
  ((id,some (.bx false x.1))::x.2.1++y.1,y.2)
 |b,x::r=>let y:=veq b r;(x::y.1,y.2)
def norm1 (live:List Nat) (s:St):St:=
 let l:=reach s 200 0 (addNew [] (refsL (live.map s.slot)));let slots:=live.map λt=>ren s l (s.slot t);let nodes:=l.zipIdx.map λ(id,k)=>(k,(s.node id).map (renN s l))
 let x:=vdi l.length slots;let y:=veq x.2.2 nodes
 {slots:=live.zip x.1,nodes:=y.1++x.2.1,next:=y.2}
def norm (live:List Nat) (s:St):St:=
 let l:=reach s 200 0 (addNew [] (refsL (live.map s.slot)));let slots:=live.map λt=>ren s l (s.slot t);let nodes:=l.zipIdx.map λ(id,k)=>(k,(s.node id).map (renN s l))
 let x:=vdi l.length slots;let y:=veq x.2.2 nodes;let r:St:={slots:=live.zip x.1,nodes:=y.1++x.2.1,next:=y.2}
 if y.2=l.length then r else norm1 live r
theorem qes (live:List Nat) (s:St):norm live s=if (norm1 live s).next=(reach s 200 0 (addNew [] (refsL (live.map s.slot)))).length then norm1 live s else norm1 live (norm1 live s):=rfl
def hasFrz:VC->Bool
 | .frz _=>true
 | .seq a b=>hasFrz a||hasFrz b
 | .cond _ a b=>hasFrz a||hasFrz b
 | .block _ b=>hasFrz b
 | .loop _ b=>hasFrz b
 |_=>false
def frzHead:List (List Nat)->Bool
 | [20000]::_=>true
 |_=>false
mutual
def frzT (f:Nat->Option Node):TV->TV
 | .a v=> .a v
 | .nl e=> .nl e
 | .rf id=>match f id with
  |some (.sl _ _ e es)=> .sz e es
  |_=> .rf id
 | .ad id o=> .ad id o
 | .sz e es=> .sz e es
 | .ez cs o=> .ez cs o
 | .st cs=> .st (frzTs f cs)
 | .tp cs=> .tp (frzTs f cs)
 | .fn g fs cs=> .fn g (frzTs f fs) (frzTs f cs)
 | .ic t v=> .ic t (frzT f v)
 |_=> .un
def frzTs (f:Nat->Option Node):List TV->List TV
 | []=> []
 |x::xs=>frzT f x::frzTs f xs
end
def frzN (f:Nat->Option Node):Option Node->Option Node
 |some (.bx z cs)=>some (.bx z (frzTs f cs))
 |_=>none
def frzSl (f:Nat->Option Node):List (Nat×TV)->List (Nat×TV)
 | []=> []
 |(t,v)::r=>(t,frzT f v)::frzSl f r
def frzNd (f:Nat->Option Node):List (Nat×Option Node)->List (Nat×Option Node)
 | []=> []
 |(id,_)::r=>(id,frzN f (f id))::frzNd f r
def frzS (s:St):St:={slots:=frzSl s.node s.slots,nodes:=frzNd s.node s.nodes,next:=s.next}
def roN (f:Nat->Option Node):Option Node->Option Node
 |some (.bx _ cs)=>some (.bx true (frzTs f cs))
 |_=>none
def roNd (f:Nat->Option Node):List (Nat×Option Node)->List (Nat×Option Node)
 | []=> []
 |(id,_)::r=>(id,roN f (f id))::roNd f r
def roSl (f:Nat->Option Node):List (Nat×TV)->List (Nat×TV)
 | []=> []
 |(t,v)::r=>if t<20000 then (t,frzT f v)::roSl f r else roSl f r
def roSv (s:St):List Nat->List (Nat×TV)
 | []=> []
 |t::r=>if t<10000 then (20000+t,frzT s.node (s.slot t))::roSv s r else roSv s r
def roS (l:List Nat) (s:St):St:={slots:=roSv s l++roSl s.node s.slots,nodes:=roNd s.node s.nodes,next:=s.next}
def roLive (l:List Nat):List Nat:=l++(l.filter (·<10000)).map (20000+·)
def roK (o x y:TV):TV:=match x with
 | .a v=> .a v
 | .rf id=>match y with
  | .rf j=>if j=id then o else .un
  |_=> .un
 |_=> .un
def roB (s s':St) (t:Nat):TV:=if t<10000 then roK (s.slot t) (s'.slot t) (s'.slot (20000+t)) else s.slot t
def roBs (s s':St):List Nat->List (Nat×TV)
 | []=> []
 |t::r=>if t<20000 then (t,roB s s' t)::roBs s s' r else roBs s s' r
def roBack (l:List Nat) (s s':St):St:={slots:=roBs s s' l,nodes:=s.nodes,next:=s'.next}
mutual
def ids:TV->List Nat
 | .rf id=> [id]
 | .ri id ver _=>if ver=0 then [id] else [id,ver-1]
 | .sb id _ _=> [id]
 | .ad id _=> [id]
 | .ea id _ _ _=> [id]
 | .ei id ver _ _ _ _=>if ver=0 then [id] else [id,ver-1]
 | .st cs=>idsL cs
 | .tp cs=>idsL cs
 | .fn _ fs cs=>idsL fs++idsL cs
 | .ic _ v=>ids v
 |_=> []
def idsL:List TV->List Nat
 | []=> []
 |x::xs=>ids x++idsL xs
end
def idsN:Option Node->List Nat
 |some (.bx _ cs)=>idsL cs
 |some (.sl _ ver _ _)=>if ver=0 then [] else [ver-1]
 |none=> []
def rep (nx i:Nat):Nat:=if i<nx then i else nx+(i-nx)/100 * 100
structure Tab where
 sl:List (Nat×List Nat)
 nd:List (Nat×List Nat)
 p:List Nat
def tget (l:List (Nat×List Nat)) (k:Nat):List Nat:=(look l k).getD []
def tput (l:List (Nat×List Nat)) (k:Nat) (xs:List Nat):List (Nat×List Nat):=(k,addNew (tget l k) xs)::l
structure Fp where
 r:List Nat
 w:List Nat
 d:List Nat
 c:List Nat
 ok:Bool
def opA (a:Tab):Opd->List Nat
 | .t n=>tget a.sl n
 |_=> []
def isP:TV->Bool
 | .rf _| .ad _ _| .a (.tuple _)| .un=>true
 |_=>false
def pS (a:Tab):Opd->Bool
 | .t n=>a.p.contains n
 |_=>false
def pOp (a:Tab):VOp->Bool
 | .mov _ x| .nilck _ x| .fad _ x _=>pS a x
 | .alloc _ _| .box _ _=>true
 |_=>false
def opsA (a:Tab) (xs:List Opd):List Nat:=xs.flatMap (opA a)
def tclose (nd:List (Nat×List Nat)):Nat->List Nat->List Nat
 |0,l=>l
 |k+1,l=>tclose nd k (addNew l (l.flatMap (tget nd)))
def subB (xs ys:List Nat):Bool:=xs.all ys.contains
def closedB (nd:List (Nat×List Nat)) (l:List Nat):Bool:=l.all λi=>subB (tget nd i) l
def mutA (a:Tab):List Md->List Opd->List Nat
 | .mut _::ms,x::xs=>opA a x++mutA a ms xs
 |_::ms,_::xs=>mutA a ms xs
 |_,_=> []
def fp (Φ:Nat->Option Callee) (a:Tab) (b:Nat):VOp->Fp
 | .mov _ x| .fld _ x _ _| .mki _ _ x| .ext _ x _=>⟨[],[],opA a x,[],true⟩
 | .pick _ _ x y=>⟨[],[],opA a x++opA a y,[],true⟩
 | .alloc _ _=>⟨[],[b],[b],[],true⟩
 | .box _ x=>⟨[],[b],[b],opA a x,true⟩
 | .build _ _ ps=>⟨[],[],ps.flatMap (λp=>opA a p.2.2),[],true⟩
 | .bsl _ _ _ zs _ ps=>if flatZ zs then ⟨[],[b],[b],[],true⟩ else
  let s:=ps.flatMap (λp=>opA a p.2)
  ⟨b::s,b::s,[b],[b],true⟩
 | .load _ _ x=>⟨opA a x,[],(if pS a x then [] else opA a x)++(opA a x).flatMap (tget a.nd),[],true⟩
 | .lda _ x=>⟨opA a x,[],[],[],true⟩
 | .store _ x y=>let s:=b::(opA a x++opA a y);⟨s,s,[],b::opA a y,true⟩
 | .nilck _ x| .slc _ _ x _ _| .fad _ x _| .iad _ _ _ x _=>⟨opA a x,[],opA a x,[],true⟩
 | .len _ x| .b2s _ _ x=>⟨opA a x,[],[],[],true⟩
 | .slc0 _ _ x=>⟨opA a x,[b],[b],[],true⟩
 | .mks _ _ _ _ _| .s2b _ _ _=>⟨[],[b],[b],[],true⟩
 | .mkf _ _ fs cs=>⟨[],[],opsA a fs++opsA a cs,[],true⟩
 | .app _ _ _ mv x y=>⟨opA a x++opA a y,b::(opA a x++if mv then opA a y else []),[b],[b],true⟩
 | .call _ f xs=>
  let s:=tclose a.nd 8 (opsA a xs);let w:=tclose a.nd 8 (mutA a (match Φ f with|some c=>c.modes|none=> []) xs)
  ⟨s,b::w,[b],[b],closedB a.nd s&&closedB a.nd w&&subB w s⟩
 | .calv _ f xs=>
  let s:=tclose a.nd 8 (opA a f++opsA a xs)
  ⟨s,b::s,[b],[b],closedB a.nd s⟩
 | .cala _ _ _=>⟨[],[],[],[],false⟩
 | .clr .. =>⟨[],[],[],[],false⟩
 | .cali _ _ f x xs=>
  let s:=tclose a.nd 8 (opA a x++opsA a xs);let w:=tclose a.nd 8 (mutA a (match Φ f with|some c=>c.modes|none=> []) (x::xs))
  ⟨s,b::w,[b],[b],closedB a.nd s&&closedB a.nd w&&subB w s⟩
 |_=>⟨[],[],[],[],true⟩
def dstO:VOp->Option Nat
 | .mov d _| .box d _| .load d _ _| .lda d _| .nilck d _| .un d _ _| .cvi d _ _| .cvs d _| .s2b d _ _| .b2s d _ _| .mki d _ _| .mks d _ _ _ _| .fad d _ _| .slc0 d _ _| .fld d _ _ _| .len d _| .slen d _| .ext d _ _
 | .pick d _ _ _| .alloc d _| .build d _ _| .bsl d _ _ _ _ _| .bin d _ _ _| .beq d _ _ _ _| .iad d _ _ _ _| .ix d _ _| .app d _ _ _ _ _| .mkf d _ _ _| .mmx d _ _| .slc d _ _ _ _| .sslc d _ _ _=>some d
 | .store .. =>none
 | .clr .. =>none
 | .call d _ _| .calv d _ _| .cala d _ _| .cali d _ _ _ _| .fl d=>d
def flow (Φ:Nat->Option Callee):Nat->List VOper->Tab->Tab
 |_,[],a=>a
 |b,o::os,a=>
  let f:=fp Φ a b o.op
  flow Φ (b+100) os ⟨match dstO o.op with|some d=>tput a.sl d f.d|none=>a.sl,f.w.foldl (λnd i=>tput nd i f.c) a.nd,
   match dstO o.op with|some d=>if pOp a o.op then addNew a.p [d] else a.p.filter (· !=d)|none=>a.p⟩
def pOk (a:Tab) (op:VOp):Bool:=match dstO op with|some d=> !a.p.contains d||pOp a op|none=>true
def fpOk (a:Tab) (d:Option Nat) (f:Fp):Bool:=f.ok&&(match d with|some d=>subB f.d (tget a.sl d)|none=>true)&&f.w.all λi=>subB f.c (tget a.nd i)
def fps (Φ:Nat->Option Callee) (a:Tab):Nat->List VOper->List Fp
 |_,[]=> []
 |b,o::os=>fp Φ a b o.op::fps Φ a (b+100) os
def flowOk (Φ:Nat->Option Callee) (a:Tab):Nat->List VOper->Bool
 |_,[]=>true
 |b,o::os=>(fpOk a (dstO o.op) (fp Φ a b o.op)&&pOk a o.op)&&flowOk Φ a (b+100) os
def meet (xs ys:List Nat):Bool:=xs.any ys.contains
def fpApart (f g:Fp):Bool:= !meet f.w g.r&& !meet f.w g.w&& !meet g.w f.r
def subR (nx:Nat) (xs ys:List Nat):Bool:=xs.all λi=>ys.contains (rep nx i)
def startOk (a:Tab) (s:St):Bool:=(s.slots.all λx=>subR s.next (ids (s.slot x.1)) (tget a.sl x.1))&&(s.nodes.all λx=>subR s.next (idsN (s.node x.1)) (tget a.nd (rep s.next x.1)))&&a.p.all λt=>isP (s.slot t)
def pairsOk (ps:List (Nat×Nat)) (l:List Fp):Bool:=ps.all λp=>match l[p.1]?,l[p.2]? with
 |some f,some g=>fpApart f g
 |_,_=>false
def tab0 (s:St):Tab:=⟨s.slots.map λx=>(x.1,(ids (s.slot x.1)).map (rep s.next)),s.nodes.map λx=>(x.1,(idsN (s.node x.1)).map (rep s.next)),(s.slots.filter λx=>isP (s.slot x.1)).map (·.1)⟩
def okT (Φ:Nat->Option Callee) (ps:List (Nat×Nat)) (os:List VOper) (s:St) (a:Tab):Bool:=startOk a s&&flowOk Φ a s.next os&&pairsOk ps (fps Φ a s.next os)
def okD (Φ:Nat->Option Callee) (ps:List (Nat×Nat)) (os:List VOper) (s:St):Bool:=okT Φ ps os s (flow Φ s.next os (flow Φ s.next os (tab0 s)))
inductive Out where
 |nrm
 |ext (id:Nat)
 |ret
 deriving Inhabited
def keep (live:List Nat) (s:St):List (Nat×TV):=live.map λt=>(t,s.slot t)
def rounds (f:St->Option (Out×St)) (live:List Nat):Nat->St->Option (Out×St)
 |0,_=>none
 |n+1,s=>match f (norm live s) with
  |some (.nrm,s')=>rounds f live n s'
  |r=>r
def run (N:Nat):VC->St->Option (Out×St)
 | .skip,s=>some (.nrm,s)
 | .reg ops live,s=>match execs Φ s.next ops s with
  |some s'=>some (.nrm,{slots:=keep live s',nodes:=s'.nodes,next:=s.next+100 * ops.length})
  |none=>none
 | .regD ops live ps,s=>if okD Φ ps ops s then (match execs Φ s.next ops s with
  |some s'=>some (.nrm,{slots:=keep live s',nodes:=s'.nodes,next:=s.next+100 * ops.length})
  |none=>none) else none
 | .seq a b,s=>match run N a s with
  |some (.nrm,s')=>run N b s'
  |r=>r
 | .cond c a b,s=>match c with
  | .t n=>match s.slot n with
   | .a (.bool t)=>if t then run N a s else run N b s
   |_=>none
  | .c (.bool t)=>if t then run N a s else run N b s
  |_=>none
 | .block id b,s=>match run N b s with
  |some (.ext j,s')=>if j=id then some (.nrm,s') else some (.ext j,s')
  |r=>r
 | .loop live b,s=>rounds (run N b) live N s
 | .exit id,s=>some (.ext id,s)
 | .ret,s=>some (.ret,s)
 | .frz b,s=>run N b (frzS s)
 | .ro l b,s=>match run N b (roS l s) with
  |some (.nrm,s')=>some (.nrm,roBack l s s')
  |_=>none
def resTVs:List RV->M (List TV)
 | []=> .pure []
 | .t n::rs=>(getS n).bind λv=>(resTVs rs).bind λvs=> .pure (v::vs)
 | .cell n w::rs=>(getS n).bind λu=>(loadAt w u).bind λv=>(resTVs rs).bind λvs=> .pure (v::vs)
def packAll (fz:Bool):List TV->M (List CV)
 | []=> .pure []
 |x::xs=>(pack fz depth x).bind λy=>(packAll fz xs).bind λys=> .pure (y::ys)
def vf9:Nat->List Md->List TV->List (Nat×TV)
 |j,.ro _::ms,_::xs=>vf9 (j+1) ms xs
 |j,.mut _::ms,x::xs=>(10000+j,x)::vf9 (j+1) ms xs
 |_,_,_=> []
def lent:Nat->List Md->M (List TV)
 |_,[]=> .pure []
 |j,.ro _::ms=>lent (j+1) ms
 |j,.mut _::ms=>(getS (10000+j)).bind λv=>(lent (j+1) ms).bind λvs=> .pure (v::vs)
def alsOut (q:Bool) (ts:List TV):M Unit:=
 if q then (match ts with
  | [.rf id]=>(getN id).bind λm=>match m with
   |some (.bx false (.rf k::cs))=>(getS 10000).bind λx=>match x with
    | .rf j=>if j=k then setN id (some (.bx false (.un::cs))) else .fail
    |_=> .fail
   |_=> .fail
  |_=> .fail) else .pure ()
def takeOut (f:Fn):M (List CV×List CV):=
 (resTVs f.results).bind λts=>(alsOut (isAls f.modes) ts).bind λ_=>(packAll f.keeps ts).bind λrs=>(lent 0 f.modes).bind λus=>(packAll f.keeps us).bind λfs=>ckO (onlyOf f.modes) f.modes rs fs
def vag (N:Nat) (f:Fn) (args:List CV):Option (List CV×List CV):=
 if args.length=f.modes.length then
  match (vbg f.keeps 0 args).run {slots:= [],nodes:= [],next:=0} with
  |some ((vs,b),s)=>
   match run Φ N f.body {slots:=(List.range vs.length).zip vs++vf9 0 f.modes vs,nodes:=s.nodes,next:=b+1} with
   |some (.ext _,_)=>none
   |some (_,s')=>((takeOut f).run s').map (·.1)
   |none=>none
  |none=>none
 else none
end
