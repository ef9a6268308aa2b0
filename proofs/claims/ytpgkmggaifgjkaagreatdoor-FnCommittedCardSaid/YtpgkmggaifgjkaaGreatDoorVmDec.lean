/- Code out of numbers. -/
import Derived.Test.YtpgkmggaifgjkaaGreatDoorVmSt
set_option linter.all false
namespace Go.Proofs.YtpgkmggaifgjkaaGreatDoor.VM
open Go
def nthD {α:Type} (x:α):List α->Nat->α
 | [],_=>x
 |a::_,0=>a
 |_::l,n+1=>nthD x l n
section
variable (is:List Int) (ks:List Opd) (bs:List VC) (os:List VOp) (zs:List ZC)
def opD (k n:Nat):Opd:=match k with
 |0=> .t n
 |1=> .c (.int .i64 (nthD 0 is n))
 |2=>nthD (.t 0) ks n
 |3=> .nl n
 |4=> .c (.bool false)
 |_=> .c (.bool true)
def dXs:Nat->List Nat->List Opd×List Nat
 |c+1,k::n::r=>match dXs c r with|(a,r)=>(opD is ks k n::a,r)
 |_,r=>([],r)
def dTs:Nat->List Nat->List Opd×List Nat
 |c+1,n::r=>match dTs c r with|(a,r)=>(.t n::a,r)
 |_,r=>([],r)
def dNs:Nat->List Nat->List Nat×List Nat
 |c+1,n::r=>match dNs c r with|(a,r)=>(n::a,r)
 |_,r=>([],r)
def dZs:Nat->List Nat->List ZC×List Nat
 |c+1,0::r=>match dZs c r with|(a,r)=>(.v (.int .i64 0)::a,r)
 |c+1,1::e::r=>match dZs c r with|(a,r)=>(.nl e::a,r)
 |c+1,2::r=>match dZs c r with|(a,r)=>(.v (.bool false)::a,r)
 |c+1,3::j::r=>match dZs c r with|(a,r)=>(nthD (.nl 0) zs j::a,r)
 |_,r=>([],r)
def dPs:Nat->List Nat->List (Nat×Nat×Opd)×List Nat
 |c+1,a::b::k::n::r=>match dPs c r with|(l,r)=>((a,b,opD is ks k n)::l,r)
 |_,r=>([],r)
def dQs:Nat->List Nat->List (Nat×Opd)×List Nat
 |c+1,a::k::n::r=>match dQs c r with|(l,r)=>((a,opD is ks k n)::l,r)
 |_,r=>([],r)
def d2s:Nat->List Nat->List (Nat×Nat)×List Nat
 |c+1,a::b::r=>match d2s c r with|(l,r)=>((a,b)::l,r)
 |_,r=>([],r)
def bOp:Nat->BinOp
 |0=> .add|1=> .sub|2=> .mul|3=> .quo|4=> .rem|5=> .and|6=> .or|7=> .xor|8=> .shl|9=> .shr|10=> .andNot|11=> .eql|12=> .neq|13=> .lss|14=> .leq|15=> .gtr|_=> .geq
def dOp:Nat->List Nat->VOp×List Nat
 |1,d::n::r=>(.mov d (.t n),r)
 |2,d::n::r=>(.load d none (.t n),r)
 |3,d::n::o::r=>(.fad d (.t n) o,r)
 |4,d::k::n::r=>(.mov d (opD is ks k n),r)
 |5,w::x::y::r=>(.store w (.t x) (.t y),r)
 |6,d::e::m::x::y::r=>(.iad d e m (.t x) (.t y),r)
 |7,d::f::c::r=>match dTs c r with|(a,r)=>(.call (some d) f a,r)
 |8,d::f::c::r=>match dXs is ks c r with|(a,r)=>(.call (some d) f a,r)
 |9,d::n::r=>(.len d (.t n),r)
 |10,d::n::i::r=>(.ext d (.t n) i,r)
 |11,d::o::k::n::k'::n'::r=>(.bin d (bOp o) (opD is ks k n) (opD is ks k' n'),r)
 |12,d::n::r=>(.nilck d (.t n),r)
 |13,d::n::k::a::k'::b::r=>(.pick d (.t n) (opD is ks k a) (opD is ks k' b),r)
 |14,d::n::r=>(.un d .not (.t n),r)
 |15,d::w::n::r=>(.load d (some w) (.t n),r)
 |16,d::e::b::x::y::r=>(.app d e b true (.t x) (.t y),r)
 |17,d::n::r=>(.box d (.t n),r)
 |18,d::n::r=>(.slen d (.t n),r)
 |19,d::n::i::r=>(.ix d (.t n) (.t i),r)
 |20,j::r=>(nthD (.fl none) os j,r)
 |21,d::c::r=>match dZs zs c r with|(z,r)=>(.alloc d z,r)
 |22,d::c::p::r=>match dZs zs c r with|(z,r)=>match dPs is ks p r with|(l,r)=>(.build d z l,r)
 |23,d::e::m::n::c::p::r=>match dZs zs c r with|(z,r)=>match dQs is ks p r with|(l,r)=>(.bsl d e m z n l,r)
 |25,d::o::x::y::r=>(.bin d (bOp o) (.t x) (.t y),r)
 |26,d::o::x::j::r=>(.bin d (bOp o) (.t x) (.c (.int .i64 (nthD 0 is j))),r)
 |_,r=>(.fl none,r)
def dOs:Nat->List Nat->List VOper×List Nat
 |c+1,30::n::b::d::o::r=>match dOp is ks os zs o r with|(x,r)=>match dOs c r with|(l,r)=>(⟨x,some (n,b==1),some d⟩::l,r)
 |c+1,o::r=>match dOp is ks os zs o r with|(x,r)=>match dOs c r with|(l,r)=>(⟨x,none,none⟩::l,r)
 |_,r=>([],r)
def dV:Nat->List Nat->VC×List Nat
 |f+1,1::c::r=>match dOs is ks os zs c r with|(l,r)=>match r with
  |m::r=>match dNs m r with|(a,r)=>(.reg l a,r)
  | []=>(.skip,[])
 |f+1,2::r=>match dV f r with|(a,r)=>match dV f r with|(b,r)=>(.seq a b,r)
 |f+1,3::k::n::r=>match dV f r with|(a,r)=>match dV f r with|(b,r)=>(.cond (opD is ks k n) a b,r)
 |f+1,4::i::r=>match dV f r with|(a,r)=>(.block i a,r)
 |_+1,5::j::m::r=>match dNs m r with|(a,r)=>(.loop a (nthD .skip bs j),r)
 |_+1,6::i::r=>(.exit i,r)
 |_+1,7::r=>(.ret,r)
 |f+1,8::c::r=>match dOs is ks os zs c r with|(l,r)=>match r with
  |m::r=>match dNs m r with
   |(a,p::r)=>match d2s p r with|(q,r)=>(.regD l a q,r)
   |(_,[])=>(.skip,[])
  | []=>(.skip,[])
 |f+1,9::r=>match dV f r with|(a,r)=>(.frz a,r)
 |f+1,10::m::r=>match dNs m r with|(l,r)=>match dV f r with|(a,r)=>(.ro l a,r)
 |_,_::r=>(.skip,r)
 |_,[]=>(.skip,[])
def digs:Nat->Nat->List Nat
 |0,_=> []
 |f+1,n=>match Nat.ble n 1 with
  |true=> []
  |false=>n%128::digs f (n/128)
def unE:List Nat->List Nat
 |127::a::b::r=>(a * 128+b)::unE r
 |126::a::b::c::r=>((a * 128+b) * 128+c)::unE r
 |x::r=>(match Nat.ble 120 x with
  |true=>x+9880
  |false=>x)::unE r
 | []=> []
def dn (l:Nat) (v:VC) (_:v=(dV is ks bs os zs 99 (unE (digs 9999 l))).1:=by conv=>rhs;cbv):VC:=v
theorem zl6 {l:Nat} {v:VC} {h:v=(dV is ks bs os zs 99 (unE (digs 9999 l))).1}:dn is ks bs os zs l v h=v:=rfl
attribute [go_sem ↓] zl6
def d0 (l:Nat) (v:VC) (_:v=(dV is [] [] [] [] 99 (unE (digs 9999 l))).1:=by conv=>rhs;cbv):VC:=v
theorem zma {l:Nat} {v:VC} {h:v=(dV is [] [] [] [] 99 (unE (digs 9999 l))).1}:d0 is l v h=v:=rfl
attribute [go_sem ↓] zma
end
