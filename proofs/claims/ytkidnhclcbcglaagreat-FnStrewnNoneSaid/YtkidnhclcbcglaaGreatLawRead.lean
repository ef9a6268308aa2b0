/- The reader of drawn bytes: what it yields lies in its range, and it stays in its bytes. -/
import Derived.Test.YtkidnhclcbcglaaGreatLawT
import Derived.Test.YtkidnhclcbcglaaGreatCode
open Nat renaming reduceAdd->Aa,reduceBEq->Ab,mod_lt->Ah
open Go.IntKind renaming i64->Ac,u64->Ad,signed->Ae,wrap->Af,bits->Ag
namespace Go.Proofs.YtkidnhclcbcglaaGreat.VM
open Go Sy
variable {Φ:Nat→Option Callee} {N:Nat}
set_option maxRecDepth 100000
set_option maxHeartbeats 8000000
def eU8 (x:Nat):PV:= .a (.int .u8 x)
theorem qu0 (x:Nat):eU8 x= .a (.int .u8 x):=rfl
attribute [go_sem] qu0
structure Bs (bs:List Nat):Prop where
 len:bs.length≤1048576
 lt:∀x∈bs,x<256
theorem vtj {bs:List Nat} (hb:Bs bs) {p:Nat} (hp:p≤bs.length):∃(v q:Nat),v<256∧q≤bs.length∧
  vaf Φ N ve7 [.bx false [.sl true vcd (bs.map eU8),.a (.int .i64 p)]]=some ([.a (.int .i64 v)],[.bx false [.sl true vcd (bs.map eU8),.a (.int .i64 q)]]):=by
 have hl:=hb.len;by_cases h:p<bs.length
 ·obtain ⟨a,ha⟩:∃a,bs[p]? =some a:=⟨_,List.getElem?_eq_getElem h⟩
  have h256:=hb.lt a (List.mem_of_getElem? ha);have hw:=vat p zo;have hw2:Ac.wrap (((p+1:Nat):Int)-1)=p:=by rw [vai]<;>omega
  have hw3:Ac.wrap (a:Int)=a:=by rw [vai]<;>omega
  have hc:¬(p:Int)≥bs.length:=by omega
  refine ⟨a,p+1,h256,h,?_⟩;rw [vag rfl];simp -implicitDefEqProofs (disch:=first|exact zd|fail) only [go_sem,Aa,Ab,ve7,vm5,ha,hw,hw2,hw3,hc]
 ·have hc:(p:Int)≥bs.length:=by omega
  refine ⟨0,p,by omega,hp,?_⟩;rw [vag rfl];simp -implicitDefEqProofs (disch:=first|exact zd|fail) only [go_sem,Aa,Ab,ve7,vm5,hc]
  (show some _=some _;kernel_rfl)
theorem vh4 {d:Nat} {bs:List Nat} (hb:Bs bs) {p:Nat} (hp:p≤bs.length) (n:Nat) (hn:n<9223372036854775808):∃(v q:Nat),(v<n∨v=0)∧q≤bs.length∧
  vaf (T (d+1)) vad vcy [.bx false [.sl true vcd (bs.map eU8),.a (.int .i64 p)],.a (.int .i64 n)]=some ([.a (.int .i64 v)],[.bx false [.sl true vcd (bs.map eU8),.a (.int .i64 q)]]):=by
 by_cases h1:(n:Int)≤1
 ·refine ⟨0,p,.inr rfl,hp,?_⟩;rw [vag rfl];simp -implicitDefEqProofs (disch:=first|exact zd|fail) only [go_sem,Aa,Ab,vcy,vjr,h1]
  (show some _=some _;kernel_rfl)
 ·by_cases h2:(n:Int)≤256
  ·obtain ⟨v,q,hv,hq,he⟩:=vtj (Φ:=T d) (N:=vad) hb hp;have h0:(n:Int)≠0:=by omega
   have hm:Int.tmod (v:Int) (n:Int)=((v%n:Nat):Int):=(Int.ofNat_tmod v n).symm;refine ⟨v%n,q,.inl (Ah _ zo),hq,?_⟩;rw [vag rfl];simp -implicitDefEqProofs (disch:=first|exact zd|fail) only [go_sem,Aa,Ab,vcy,vjr,h1,h2,he,h0,hm]
  ·obtain ⟨v,q,hv,hq,he⟩:=vtj (Φ:=T d) (N:=vad) hb hp;obtain ⟨v',q',hv',hq',he'⟩:=vtj (Φ:=T d) (N:=vad) hb hq;have h0:(n:Int)≠0:=by omega
   have hw:Ac.wrap ((v:Int) * 256)=((v * 256:Nat):Int):=by rw [vai]<;>omega
   have hw':Ac.wrap (((v * 256:Nat):Int)+(v':Int))=((v * 256+v':Nat):Int):=by rw [vai]<;>omega
   have hm:Int.tmod ((v * 256+v':Nat):Int) (n:Int)=(((v * 256+v')%n:Nat):Int):=(Int.ofNat_tmod _ n).symm;refine ⟨(v * 256+v')%n,q',.inl (Ah _ zo),hq',?_⟩;rw [vag rfl];simp -implicitDefEqProofs (disch:=first|exact zd|fail) only [go_sem,Aa,Ab,vcy,vjr,h1,h2,he,he',h0,hm,hw,hw']
theorem ql1 {d:Nat} {bs:List Nat} (hb:Bs bs) {p:Nat} (hp:p≤bs.length) (n:Nat) (hn:n<9223372036854775808):∃(v:Bool) (q:Nat),q≤bs.length∧
  vaf (T (d+2)) vad vb7 [.bx false [.sl true vcd (bs.map eU8),.a (.int .i64 p)],.a (.int .i64 n)]=some ([.a (.bool v)],[.bx false [.sl true vcd (bs.map eU8),.a (.int .i64 q)]]):=by
 obtain ⟨v,q,hv,hq,he⟩:=vh4 (d:=d) hb hp n hn;refine ⟨decide ((v:Int)=Ac.wrap ((n:Int)-1)),q,hq,?_⟩;rw [vag rfl];simp -implicitDefEqProofs (disch:=first|exact zd|fail) only [go_sem,Aa,Ab,vb7,vrn,he]
theorem va5 {d:Nat} {bs:List Nat} (hb:Bs bs) {p:Nat} (hp:p≤bs.length) (n:Int) (h0:0≤n) (hn:n<9223372036854775808):∃(v q:Nat),((v:Int)<n∨v=0)∧q≤bs.length∧
  vaf (T (d+1)) vad vcy [.bx false [.sl true vcd (bs.map eU8),.a (.int .i64 p)],.a (.int .i64 n)]=some ([.a (.int .i64 v)],[.bx false [.sl true vcd (bs.map eU8),.a (.int .i64 q)]]):=by
 obtain ⟨k,rfl⟩:=Int.eq_ofNat_of_zero_le h0;obtain ⟨v,q,h1,h2,h3⟩:=vh4 (d:=d) hb hp k zo;exact ⟨v,q,by omega,h2,h3⟩
theorem vce {d:Nat} {bs:List Nat} (hb:Bs bs) {p:Nat} (hp:p≤bs.length) (n:Int) (h0:0≤n) (hn:n<9223372036854775808):∃(v:Bool) (q:Nat),q≤bs.length∧
  vaf (T (d+2)) vad vb7 [.bx false [.sl true vcd (bs.map eU8),.a (.int .i64 p)],.a (.int .i64 n)]=some ([.a (.bool v)],[.bx false [.sl true vcd (bs.map eU8),.a (.int .i64 q)]]):=by
 obtain ⟨k,rfl⟩:=Int.eq_ofNat_of_zero_le h0;exact ql1 (d:=d) hb hp k zo
theorem qdl (x:Int):∃n:Nat,n<18446744073709551616∧Ad.wrap x=(n:Int):=by
 refine ⟨(Ad.wrap x).toNat,?_⟩;unfold Af;simp [Ag,Ae];omega
theorem qkm {d:Nat} {bs:List Nat} (hb:Bs bs) {p:Nat} (hp:p≤bs.length) (r:List It):∃(v q:Nat),v<18446744073709551616∧q≤bs.length∧
  goP (T (d+1)) vad [0,3,4,10000] vgc r ⟨[(0,.rf 0),(3,.a (.int .u64 0)),(4,.a (.int .i64 0)),(10000,.rf 0)],[(0,some (.bx false [.sz vcd (bs.map eU8),.a (.int .i64 p)]))],1⟩=
  goE (T (d+1)) vad r 0 [(0,.rf 0),(3,.a (.int .u64 v)),(4,.a (.int .i64 8)),(6,.a (.bool false)),(10000,.rf 0)] [(0,some (.bx false [.sz vcd (bs.map eU8),.a (.int .i64 q)]))] 201:=by
 refine (vq9 (Φ:=T (d+1)) (N:=vad) (live:= [0,3,4,10000]) (b:=vgc) (r:=r) (m:=8)
  (fun k s=>∃(v q i:Nat),v<18446744073709551616∧q≤bs.length∧i+k=8∧s=⟨[(0,.rf 0),(3,.a (.int .u64 v)),(4,.a (.int .i64 i)),(10000,.rf 0)],[(0,some (.bx false [.sz vcd (bs.map eU8),.a (.int .i64 q)]))],1⟩)
  (fun o e=>∃(v q:Nat),v<18446744073709551616∧q≤bs.length∧o= .ext 0∧e=⟨[(0,.rf 0),(3,.a (.int .u64 v)),(4,.a (.int .i64 8)),(6,.a (.bool false)),(10000,.rf 0)],[(0,some (.bx false [.sz vcd (bs.map eU8),.a (.int .i64 q)]))],201⟩)
  (vay zo) ⟨0,p,0,by omega,hp,rfl,rfl⟩ ?_).elim fun o ⟨e,he,ho,hr⟩=> ?_
 ·rintro k s-⟨v,q,i,hv,hq,hi,rfl⟩
  by_cases h:i<8
  ·left;obtain ⟨u,q',hu,hq',he⟩:=vtj (Φ:=T d) (N:=vad) hb hq;have hw:=vat i zo;have h8:(i:Int)<8:=by omega
   obtain ⟨v',hv',ev⟩:∃n:Nat,n<18446744073709551616∧iOr .u64 (Ad.wrap (v * 2^(min (Int.toNat 8) 64))) (Ad.wrap (u:Int))=n:=qdl _;refine ⟨7-i,⟨[(0,.rf 0),(3,.a (.int .u64 v')),(4,.a (.int .i64 ((i+1:Nat):Int))),(10000,.rf 0)],[(0,some (.bx false [.sz vcd (bs.map eU8),.a (.int .i64 q')]))],1⟩,by omega,?_,v',q',i+1,hv',hq',by omega,rfl⟩;unfold round vgc;simp -implicitDefEqProofs (disch:=first|exact zd|fail) only [go_sem,Aa,Ab,he,hw,h8,ev]
   (show some _=some _;kernel_rfl)
  ·right;have h8:i=8:=by omega
   subst h8;refine ⟨.ext 0,_,by simp,?_,v,q,hv,hq,rfl,rfl⟩;unfold round vgc;simp -implicitDefEqProofs (disch:=first|exact zd|fail) only [go_sem,Aa,Ab]
   (show some _=some _;kernel_rfl)
 ·obtain ⟨v,q,h1,h2,rfl,rfl⟩:=he;exact ⟨v,q,h1,h2,hr⟩
theorem qp0 {d:Nat} {bs:List Nat} (hb:Bs bs) {p:Nat} (hp:p≤bs.length):∃(v q:Nat),v<18446744073709551616∧q≤bs.length∧
  vaf (T (d+1)) vad vgw [.bx false [.sl true vcd (bs.map eU8),.a (.int .i64 p)]]=some ([.a (.int .u64 v)],[.bx false [.sl true vcd (bs.map eU8),.a (.int .i64 q)]]):=by
 have key:=fun r=>qkm (d:=d) hb hp r;rw [vag rfl];simp -implicitDefEqProofs (disch:=first|exact zd|fail) only [go_sem,Aa,Ab,vgw,vrd];rw [show norm _ _=(⟨[(0,.rf 0),(3,.a (.int .u64 0)),(4,.a (.int .i64 0)),(10000,.rf 0)],[(0,some (.bx false [.sz vcd (bs.map eU8),.a (.int .i64 p)]))],1⟩:St) from rfl];obtain ⟨v,q,hv,hq,he⟩:=key _;refine ⟨v,q,hv,hq,?_⟩;rw [he];simp -implicitDefEqProofs (disch:=first|exact zd|fail) only [go_sem,Aa,Ab]
theorem vh5 (x:Int) (h0:0≤x) (h1:x<18446744073709551616):Ad.wrap x=x:=by
 unfold Af;simp [Ag,Ae];omega
theorem qoa {d:Nat} {bs:List Nat} (hb:Bs bs) {p:Nat} (hp:p≤bs.length) (lo hi:Int) (h0: -2305843009213693952≤lo) (h1:lo≤hi) (h2:hi≤2305843009213693952):∃(v:Int) (q:Nat),lo≤v∧v≤hi∧q≤bs.length∧
  vaf (T (d+2)) vad vea [.bx false [.sl true vcd (bs.map eU8),.a (.int .i64 p)],.a (.int .i64 lo),.a (.int .i64 hi)]=some ([.a (.int .i64 v)],[.bx false [.sl true vcd (bs.map eU8),.a (.int .i64 q)]]):=by
 obtain ⟨v,q,hv,hq,he⟩:=va5 (d:=d) hb hp 8 zo zo;obtain ⟨u,q',hu,hq',he'⟩:=qp0 (d:=d) hb hq;have hlt:¬hi<lo:=by omega
 have w1:Ac.wrap (hi-lo)=hi-lo:=by rw [vai]<;>omega
 have w2:Ac.wrap (hi-lo+1)=hi-lo+1:=by rw [vai]<;>omega
 have w3:Ad.wrap (hi-lo+1)=hi-lo+1:=by rw [vh5]<;>omega
 have hne:hi-lo+1≠0:=by omega
 obtain ⟨m,hm0,hm1,hm⟩:∃m:Int,0≤m∧m<hi-lo+1∧Int.tmod (Int.fdiv (u:Int) (2^min (Int.toNat 1) 64)) (hi-lo+1)=m:=by
  have hf:0≤Int.fdiv (u:Int) (2^min (Int.toNat 1) 64):=Int.fdiv_nonneg zo (by decide);exact ⟨_,Int.tmod_nonneg _ hf,Int.tmod_lt_of_pos _ zo,rfl⟩
 have w4:Ac.wrap m=m:=by rw [vai]<;>omega
 have w5:Ac.wrap (lo+m)=lo+m:=by rw [vai]<;>omega
 by_cases c0:(v:Int)=0
 ·refine ⟨lo,q,by omega,by omega,hq,?_⟩;rw [vag rfl];simp -implicitDefEqProofs (disch:=first|exact zd|fail) only [go_sem,Aa,Ab,vea,vke,he,c0]
 ·by_cases c1:(v:Int)=1
  ·refine ⟨hi,q,by omega,by omega,hq,?_⟩;rw [vag rfl];simp -implicitDefEqProofs (disch:=first|exact zd|fail) only [go_sem,Aa,Ab,vea,vke,he,c0,c1]
  ·refine ⟨lo+m,q',by omega,by omega,hq',?_⟩;rw [vag rfl];simp -implicitDefEqProofs (disch:=first|exact zd|fail) only [go_sem,Aa,Ab,vea,vke,he,c0,c1,he',hlt,w1,w2,w3,w4,w5,hm]
theorem vi2 {d:Nat} {bs:List Nat} (hb:Bs bs) {p:Nat} (hp:p≤bs.length) (lo hi:Int) (h0: -2305843009213693952≤lo) (h1:lo≤hi) (h2:hi≤2305843009213693952):∃(v:Int) (q:Nat),-9223372036854775808≤v∧v<9223372036854775808∧q≤bs.length∧
  vaf (T (d+3)) vad vck [.bx false [.sl true vcd (bs.map eU8),.a (.int .i64 p)],.a (.int .i64 lo),.a (.int .i64 hi)]=some ([.a (.int .i64 v)],[.bx false [.sl true vcd (bs.map eU8),.a (.int .i64 q)]]):=by
 obtain ⟨v,q,hq,he⟩:=vce (d:=d) hb hp 24 zo zo;obtain ⟨u,q1,hu,hq1,he1⟩:=va5 (d:=d+1) hb hq 4 zo zo;obtain ⟨w,q2,hw1,hw2,hq2,he2⟩:=qoa (d:=d) hb hq lo hi h0 h1 h2;cases v with
 |false=>
  refine ⟨w,q2,by omega,by omega,hq2,?_⟩;rw [vag rfl];simp -implicitDefEqProofs (disch:=first|exact zd|fail) only [go_sem,Aa,Ab,vck,vg9,he,he2]
 |true=>
  have w1:Ac.wrap (lo-1)=lo-1:=by rw [vai]<;>omega
  have w2:Ac.wrap (hi+1)=hi+1:=by rw [vai]<;>omega
  have hu4:u<4:=by omega
  match u,hu4 with
  |0,_=>
   refine ⟨lo-1,q1,by omega,by omega,hq1,?_⟩;rw [vag rfl];simp -implicitDefEqProofs (disch:=first|exact zd|fail) only [go_sem,Aa,Ab,vck,vg9,he,he1,w1,w2]
  |1,_=>
   refine ⟨hi+1,q1,by omega,by omega,hq1,?_⟩;rw [vag rfl];simp -implicitDefEqProofs (disch:=first|exact zd|fail) only [go_sem,Aa,Ab,vck,vg9,he,he1,w1,w2]
  |2,_=>
   refine ⟨-9223372036854775808,q1,by omega,by omega,hq1,?_⟩;rw [vag rfl];simp -implicitDefEqProofs (disch:=first|exact zd|fail) only [go_sem,Aa,Ab,vck,vg9,he,he1,w1,w2]
  |3,_=>
   refine ⟨9223372036854775807,q1,by omega,by omega,hq1,?_⟩;rw [vag rfl];simp -implicitDefEqProofs (disch:=first|exact zd|fail) only [go_sem,Aa,Ab,vck,vg9,he,he1,w1,w2]
theorem qra (l:List PV) (h:l.length≤9223372036854775807):vaf Φ N vlf [.sl true vcd l]=some ([.a (.bool (decide (1048576<(l.length:Int))))],[]):=by
 rw [vag rfl];simp -implicitDefEqProofs (disch:=first|exact zd|fail) only [go_sem,Aa,Ab,vlf,vzp]
theorem qh0 (l:List PV):vaf Φ N vhq [.sl true vcd l]=some ([.bx false [.sl true vcd l,.a (.int .i64 0)]],[]):=by
 rw [vag rfl];simp -implicitDefEqProofs (disch:=first|exact zd|fail) only [go_sem,Aa,Ab,vhq,vue]
