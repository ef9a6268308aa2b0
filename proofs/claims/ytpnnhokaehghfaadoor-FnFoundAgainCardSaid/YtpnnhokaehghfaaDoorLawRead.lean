/- The reader of drawn bytes: what it yields lies in its range, and it stays in its bytes. -/
import Derived.Test.YtpnnhokaehghfaaDoorLawT
import Derived.Test.YtpnnhokaehghfaaDoorCode
open Nat renaming reduceAdd->Aa,reduceBEq->Ab,mod_lt->Ae
open Go.IntKind renaming i64->Ac,u64->Ad
namespace Go.Proofs.YtpnnhokaehghfaaDoor.VM
open Go Sy
variable {Φ:Nat→Option Callee} {N:Nat}
set_option maxRecDepth 100000
set_option maxHeartbeats 8000000
def eU8 (x:Nat):PV:= .a (.int .u8 x)
theorem qe8 (x:Nat):eU8 x= .a (.int .u8 x):=rfl
attribute [go_sem] qe8
structure Bs (bs:List Nat):Prop where
 len:bs.length≤1048576
 lt:∀x∈bs,x<256
theorem vln {bs:List Nat} (hb:Bs bs) {p:Nat} (hp:p≤bs.length):∃(v q:Nat),v<256∧q≤bs.length∧
  vak Φ N vcw [.bx false [.sl true vdh (bs.map eU8),.a (.int .i64 p)]]=some ([.a (.int .i64 v)],[.bx false [.sl true vdh (bs.map eU8),.a (.int .i64 q)]]):=by
 have hl:=hb.len;by_cases h:p<bs.length
 ·obtain ⟨a,ha⟩:∃a,bs[p]? =some a:=⟨_,List.getElem?_eq_getElem h⟩
  have h256:=hb.lt a (List.mem_of_getElem? ha);have hw:=vjz p zo;have hw2:Ac.wrap (((p+1:Nat):Int)-1)=p:=by rw [vif]<;>omega
  have hw3:Ac.wrap (a:Int)=a:=by rw [vif]<;>omega
  have hc:¬(p:Int)≥bs.length:=by omega
  refine ⟨a,p+1,h256,h,?_⟩;rw [vb8 rfl];simp -implicitDefEqProofs (disch:=first|exact zd|fail) only [go_sem,Aa,Ab,vcw,vgy,ha,hw,hw2,hw3,hc]
 ·have hc:(p:Int)≥bs.length:=by omega
  refine ⟨0,p,by omega,hp,?_⟩;rw [vb8 rfl];simp -implicitDefEqProofs (disch:=first|exact zd|fail) only [go_sem,Aa,Ab,vcw,vgy,hc]
  (show some _=some _;kernel_rfl)
theorem vwc {d:Nat} {bs:List Nat} (hb:Bs bs) {p:Nat} (hp:p≤bs.length) (n:Nat) (hn:n<9223372036854775808):∃(v q:Nat),(v<n∨v=0)∧q≤bs.length∧
  vak (T (d+1)) var vb0 [.bx false [.sl true vdh (bs.map eU8),.a (.int .i64 p)],.a (.int .i64 n)]=some ([.a (.int .i64 v)],[.bx false [.sl true vdh (bs.map eU8),.a (.int .i64 q)]]):=by
 by_cases h1:(n:Int)≤1
 ·refine ⟨0,p,.inr rfl,hp,?_⟩;rw [vb8 rfl];simp -implicitDefEqProofs (disch:=first|exact zd|fail) only [go_sem,Aa,Ab,vb0,ves,h1]
  (show some _=some _;kernel_rfl)
 ·by_cases h2:(n:Int)≤256
  ·obtain ⟨v,q,hv,hq,he⟩:=vln (Φ:=T d) (N:=var) hb hp;have h0:(n:Int)≠0:=by omega
   have hm:Int.tmod (v:Int) (n:Int)=((v%n:Nat):Int):=(Int.ofNat_tmod v n).symm;refine ⟨v%n,q,.inl (Ae _ zo),hq,?_⟩;rw [vb8 rfl];simp -implicitDefEqProofs (disch:=first|exact zd|fail) only [go_sem,Aa,Ab,vb0,ves,h1,h2,he,h0,hm]
  ·obtain ⟨v,q,hv,hq,he⟩:=vln (Φ:=T d) (N:=var) hb hp;obtain ⟨v',q',hv',hq',he'⟩:=vln (Φ:=T d) (N:=var) hb hq;have h0:(n:Int)≠0:=by omega
   have hw:Ac.wrap ((v:Int) * 256)=((v * 256:Nat):Int):=by rw [vif]<;>omega
   have hw':Ac.wrap (((v * 256:Nat):Int)+(v':Int))=((v * 256+v':Nat):Int):=by rw [vif]<;>omega
   have hm:Int.tmod ((v * 256+v':Nat):Int) (n:Int)=(((v * 256+v')%n:Nat):Int):=(Int.ofNat_tmod _ n).symm;refine ⟨(v * 256+v')%n,q',.inl (Ae _ zo),hq',?_⟩;rw [vb8 rfl];simp -implicitDefEqProofs (disch:=first|exact zd|fail) only [go_sem,Aa,Ab,vb0,ves,h1,h2,he,he',h0,hm,hw,hw']
theorem vm7 {d:Nat} {bs:List Nat} (hb:Bs bs) {p:Nat} (hp:p≤bs.length) (n:Int) (h0:0≤n) (hn:n<9223372036854775808):∃(v q:Nat),((v:Int)<n∨v=0)∧q≤bs.length∧
  vak (T (d+1)) var vb0 [.bx false [.sl true vdh (bs.map eU8),.a (.int .i64 p)],.a (.int .i64 n)]=some ([.a (.int .i64 v)],[.bx false [.sl true vdh (bs.map eU8),.a (.int .i64 q)]]):=by
 obtain ⟨k,rfl⟩:=Int.eq_ofNat_of_zero_le h0;obtain ⟨v,q,h1,h2,h3⟩:=vwc (d:=d) hb hp k zo;exact ⟨v,q,by omega,h2,h3⟩
theorem qaj (x:Int):∃n:Nat,n<18446744073709551616∧Ad.wrap x=(n:Int):=by
 refine ⟨(Ad.wrap x).toNat,?_⟩;unfold IntKind.wrap;simp [IntKind.bits,IntKind.signed];omega
theorem vyw {d:Nat} {bs:List Nat} (hb:Bs bs) {p:Nat} (hp:p≤bs.length) (r:List It):∃(v q:Nat),v<18446744073709551616∧q≤bs.length∧
  goP (T (d+1)) var [0,3,4,10000] vc6 r ⟨[(0,.rf 0),(3,.a (.int .u64 0)),(4,.a (.int .i64 0)),(10000,.rf 0)],[(0,some (.bx false [.sz vdh (bs.map eU8),.a (.int .i64 p)]))],1⟩=
  goE (T (d+1)) var r 0 [(0,.rf 0),(3,.a (.int .u64 v)),(4,.a (.int .i64 8)),(6,.a (.bool false)),(10000,.rf 0)] [(0,some (.bx false [.sz vdh (bs.map eU8),.a (.int .i64 q)]))] 201:=by
 refine (qbk (Φ:=T (d+1)) (N:=var) (live:= [0,3,4,10000]) (b:=vc6) (r:=r) (m:=8)
  (fun k s=>∃(v q i:Nat),v<18446744073709551616∧q≤bs.length∧i+k=8∧s=⟨[(0,.rf 0),(3,.a (.int .u64 v)),(4,.a (.int .i64 i)),(10000,.rf 0)],[(0,some (.bx false [.sz vdh (bs.map eU8),.a (.int .i64 q)]))],1⟩)
  (fun o e=>∃(v q:Nat),v<18446744073709551616∧q≤bs.length∧o= .ext 0∧e=⟨[(0,.rf 0),(3,.a (.int .u64 v)),(4,.a (.int .i64 8)),(6,.a (.bool false)),(10000,.rf 0)],[(0,some (.bx false [.sz vdh (bs.map eU8),.a (.int .i64 q)]))],201⟩)
  (vnm zo) ⟨0,p,0,by omega,hp,rfl,rfl⟩ ?_).elim fun o ⟨e,he,ho,hr⟩=> ?_
 ·rintro k s-⟨v,q,i,hv,hq,hi,rfl⟩
  by_cases h:i<8
  ·left;obtain ⟨u,q',hu,hq',he⟩:=vln (Φ:=T d) (N:=var) hb hq;have hw:=vjz i zo;have h8:(i:Int)<8:=by omega
   obtain ⟨v',hv',ev⟩:∃n:Nat,n<18446744073709551616∧iOr .u64 (Ad.wrap (v * 2^(min (Int.toNat 8) 64))) (Ad.wrap (u:Int))=n:=qaj _;refine ⟨7-i,⟨[(0,.rf 0),(3,.a (.int .u64 v')),(4,.a (.int .i64 ((i+1:Nat):Int))),(10000,.rf 0)],[(0,some (.bx false [.sz vdh (bs.map eU8),.a (.int .i64 q')]))],1⟩,by omega,?_,v',q',i+1,hv',hq',by omega,rfl⟩;unfold round vc6;simp -implicitDefEqProofs (disch:=first|exact zd|fail) only [go_sem,Aa,Ab,he,hw,h8,ev]
   (show some _=some _;kernel_rfl)
  ·right;have h8:i=8:=by omega
   subst h8;refine ⟨.ext 0,_,by simp,?_,v,q,hv,hq,rfl,rfl⟩;unfold round vc6;simp -implicitDefEqProofs (disch:=first|exact zd|fail) only [go_sem,Aa,Ab]
   (show some _=some _;kernel_rfl)
 ·obtain ⟨v,q,h1,h2,rfl,rfl⟩:=he;exact ⟨v,q,h1,h2,hr⟩
theorem qba {d:Nat} {bs:List Nat} (hb:Bs bs) {p:Nat} (hp:p≤bs.length):∃(v q:Nat),v<18446744073709551616∧q≤bs.length∧
  vak (T (d+1)) var vdb [.bx false [.sl true vdh (bs.map eU8),.a (.int .i64 p)]]=some ([.a (.int .u64 v)],[.bx false [.sl true vdh (bs.map eU8),.a (.int .i64 q)]]):=by
 have key:=fun r=>vyw (d:=d) hb hp r;rw [vb8 rfl];simp -implicitDefEqProofs (disch:=first|exact zd|fail) only [go_sem,Aa,Ab,vdb,vjk];rw [show norm _ _=(⟨[(0,.rf 0),(3,.a (.int .u64 0)),(4,.a (.int .i64 0)),(10000,.rf 0)],[(0,some (.bx false [.sz vdh (bs.map eU8),.a (.int .i64 p)]))],1⟩:St) from rfl];obtain ⟨v,q,hv,hq,he⟩:=key _;refine ⟨v,q,hv,hq,?_⟩;rw [he];simp -implicitDefEqProofs (disch:=first|exact zd|fail) only [go_sem,Aa,Ab]
theorem qcf (l:List PV) (h:l.length≤9223372036854775807):vak Φ N vga [.sl true vdh l]=some ([.a (.bool (decide (1048576<(l.length:Int))))],[]):=by
 rw [vb8 rfl];simp -implicitDefEqProofs (disch:=first|exact zd|fail) only [go_sem,Aa,Ab,vga,vpq]
theorem vwk (l:List PV):vak Φ N vdm [.sl true vdh l]=some ([.bx false [.sl true vdh l,.a (.int .i64 0)]],[]):=by
 rw [vb8 rfl];simp -implicitDefEqProofs (disch:=first|exact zd|fail) only [go_sem,Aa,Ab,vdm,vl5]
