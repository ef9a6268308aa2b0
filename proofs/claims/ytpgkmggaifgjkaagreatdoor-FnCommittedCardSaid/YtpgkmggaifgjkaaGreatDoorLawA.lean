/- The reader of drawn bytes. -/
import Derived.Test.YtpgkmggaifgjkaaGreatDoorLawT
import Derived.Test.YtpgkmggaifgjkaaGreatDoorCode
open Nat renaming reduceAdd->Aa,reduceBEq->Ab,mod_lt->Ap
open Go.IntKind renaming i64->Ac,u64->Ai,signed->Am,wrap->An,bits->Ao
open List renaming getElem?_eq_getElem->Ad,mem_append->Ae,length_append->Af,map_set->Ag,mem_of_getElem?->Ah,getElem?_eq_some_iff->Aj,map->Ak,length_set->Al
set_option linter.all false
namespace Go.Proofs.YtpgkmggaifgjkaaGreatDoor.VM
open Go Sy
variable {Φ:Nat->Option Callee} {N:Nat}
set_option maxRecDepth 100000
set_option maxHeartbeats 8000000
def eU8 (x:Nat):PV:= .a (.int .u8 x)
theorem qso (x:Nat):eU8 x= .a (.int .u8 x):=rfl
attribute [go_sem] qso
structure Bs (bs:List Nat):Prop where
 len:bs.length<=1048576
 lt:∀x∈bs,x<256
theorem vsa {bs:List Nat} (hb:Bs bs) {p:Nat} (hp:p<=bs.length):∃(v q:Nat),v<256/\q<=bs.length/\
  vag Φ N vgh [.bx false [.sl true vdg (bs.map eU8),.a (.int .i64 p)]]=some ([.a (.int .i64 v)],[.bx false [.sl true vdg (bs.map eU8),.a (.int .i64 q)]]):=by
 have hl:=hb.len;by_cases h:p<bs.length
 ·obtain ⟨a,ha⟩:∃a,bs[p]? =some a:=⟨_,Ad h⟩
  have h256:=hb.lt a (Ah ha);have hw:=va0 p zo;have hw2:Ac.wrap (((p+1:Nat):Int)-1)=p:=by rw [vau]<;>omega
  have hw3:Ac.wrap (a:Int)=a:=by rw [vau]<;>omega
  have hc:¬(p:Int)≥bs.length:=zo
  refine ⟨a,p+1,h256,h,?_⟩;rw [vab rfl];simp -implicitDefEqProofs (disch:=try exact zd) only [go_sem,Aa,Ab,vgh,vlp,ha,hw,hw2,hw3,hc]
 ·have hc:(p:Int)≥bs.length:=zo
  refine ⟨0,p,zo,hp,?_⟩;rw [vab rfl];simp -implicitDefEqProofs (disch:=try exact zd) only [go_sem,Aa,Ab,vgh,vlp,hc]
  (show some _=some _;kernel_rfl)
theorem vky {d:Nat} {bs:List Nat} (hb:Bs bs) {p:Nat} (hp:p<=bs.length) (n:Nat) (hn:n<9223372036854775808):∃(v q:Nat),(v<n\/v=0)/\q<=bs.length/\
  vag (T (d+1)) vad vdo [.bx false [.sl true vdg (bs.map eU8),.a (.int .i64 p)],.a (.int .i64 n)]=some ([.a (.int .i64 v)],[.bx false [.sl true vdg (bs.map eU8),.a (.int .i64 q)]]):=by
 by_cases h1:(n:Int)<=1
 ·refine ⟨0,p,.inr rfl,hp,?_⟩;rw [vab rfl];simp -implicitDefEqProofs (disch:=try exact zd) only [go_sem,Aa,Ab,vdo,vi5,h1]
  (show some _=some _;kernel_rfl)
 ·by_cases h2:(n:Int)<=256
  ·obtain ⟨v,q,hv,hq,he⟩:=vsa (Φ:=T d) (N:=vad) hb hp;have h0:(n:Int)≠0:=zo
   have hm:Int.tmod (v:Int) (n:Int)=((v%n:Nat):Int):=(Int.ofNat_tmod v n).symm;refine ⟨v%n,q,.inl (Ap _ zo),hq,?_⟩;rw [vab rfl];simp -implicitDefEqProofs (disch:=try exact zd) only [go_sem,Aa,Ab,vdo,vi5,h1,h2,he,h0,hm]
  ·obtain ⟨v,q,hv,hq,he⟩:=vsa (Φ:=T d) (N:=vad) hb hp;obtain ⟨v',q',hv',hq',he'⟩:=vsa (Φ:=T d) (N:=vad) hb hq;have h0:(n:Int)≠0:=zo
   have hw:Ac.wrap ((v:Int) * 256)=((v * 256:Nat):Int):=by rw [vau]<;>omega
   have hw':Ac.wrap (((v * 256:Nat):Int)+(v':Int))=((v * 256+v':Nat):Int):=by rw [vau]<;>omega
   have hm:Int.tmod ((v * 256+v':Nat):Int) (n:Int)=(((v * 256+v')%n:Nat):Int):=(Int.ofNat_tmod _ n).symm;refine ⟨(v * 256+v')%n,q',.inl (Ap _ zo),hq',?_⟩;rw [vab rfl];simp -implicitDefEqProofs (disch:=try exact zd) only [go_sem,Aa,Ab,vdo,vi5,h1,h2,he,he',h0,hm,hw,hw']
theorem qi0 {d:Nat} {bs:List Nat} (hb:Bs bs) {p:Nat} (hp:p<=bs.length) (n:Nat) (hn:n<9223372036854775808):∃(v:Bool) (q:Nat),q<=bs.length/\
  vag (T (d+2)) vad vcl [.bx false [.sl true vdg (bs.map eU8),.a (.int .i64 p)],.a (.int .i64 n)]=some ([.a (.bool v)],[.bx false [.sl true vdg (bs.map eU8),.a (.int .i64 q)]]):=by
 obtain ⟨v,q,hv,hq,he⟩:=vky (d:=d) hb hp n hn;refine ⟨decide ((v:Int)=Ac.wrap ((n:Int)-1)),q,hq,?_⟩;rw [vab rfl];simp -implicitDefEqProofs (disch:=try exact zd) only [go_sem,Aa,Ab,vcl,vos,he]
theorem vb0 {d:Nat} {bs:List Nat} (hb:Bs bs) {p:Nat} (hp:p<=bs.length) (n:Int) (h0:0<=n) (hn:n<9223372036854775808):∃(v q:Nat),((v:Int)<n\/v=0)/\q<=bs.length/\
  vag (T (d+1)) vad vdo [.bx false [.sl true vdg (bs.map eU8),.a (.int .i64 p)],.a (.int .i64 n)]=some ([.a (.int .i64 v)],[.bx false [.sl true vdg (bs.map eU8),.a (.int .i64 q)]]):=by
 obtain ⟨k,rfl⟩:=Int.eq_ofNat_of_zero_le h0;obtain ⟨v,q,h1,h2,h3⟩:=vky (d:=d) hb hp k zo;exact ⟨v,q,zo,h2,h3⟩
theorem ved {d:Nat} {bs:List Nat} (hb:Bs bs) {p:Nat} (hp:p<=bs.length) (n:Int) (h0:0<=n) (hn:n<9223372036854775808):∃(v:Bool) (q:Nat),q<=bs.length/\
  vag (T (d+2)) vad vcl [.bx false [.sl true vdg (bs.map eU8),.a (.int .i64 p)],.a (.int .i64 n)]=some ([.a (.bool v)],[.bx false [.sl true vdg (bs.map eU8),.a (.int .i64 q)]]):=by
 obtain ⟨k,rfl⟩:=Int.eq_ofNat_of_zero_le h0;exact qi0 (d:=d) hb hp k zo
theorem qnx (x:Int):∃n:Nat,n<18446744073709551616/\Ai.wrap x=(n:Int):=by
 refine ⟨(Ai.wrap x).toNat,?_⟩;unfold An;simp [Ao,Am];omega
theorem qkk {d:Nat} {bs:List Nat} (hb:Bs bs) {p:Nat} (hp:p<=bs.length) (r:List It):∃(v q:Nat),v<18446744073709551616/\q<=bs.length/\
  goP (T (d+1)) vad [0,3,4,10000] vf5 r ⟨[(0,.rf 0),(3,.a (.int .u64 0)),(4,.a (.int .i64 0)),(10000,.rf 0)],[(0,some (.bx false [.sz vdg (bs.map eU8),.a (.int .i64 p)]))],1⟩=
  goE (T (d+1)) vad r 0 [(0,.rf 0),(3,.a (.int .u64 v)),(4,.a (.int .i64 8)),(6,.a (.bool false)),(10000,.rf 0)] [(0,some (.bx false [.sz vdg (bs.map eU8),.a (.int .i64 q)]))] 201:=by
 refine (vsk (Φ:=T (d+1)) (N:=vad) (live:= [0,3,4,10000]) (b:=vf5) (r:=r) (m:=8)
  (λk s=>∃(v q i:Nat),v<18446744073709551616/\q<=bs.length/\i+k=8/\s=⟨[(0,.rf 0),(3,.a (.int .u64 v)),(4,.a (.int .i64 i)),(10000,.rf 0)],[(0,some (.bx false [.sz vdg (bs.map eU8),.a (.int .i64 q)]))],1⟩)
  (λo e=>∃(v q:Nat),v<18446744073709551616/\q<=bs.length/\o= .ext 0/\e=⟨[(0,.rf 0),(3,.a (.int .u64 v)),(4,.a (.int .i64 8)),(6,.a (.bool false)),(10000,.rf 0)],[(0,some (.bx false [.sz vdg (bs.map eU8),.a (.int .i64 q)]))],201⟩)
  (vbc zo) ⟨0,p,0,zo,hp,rfl,rfl⟩ ?_).elim λo ⟨e,he,ho,hr⟩=> ?_
 ·rintro k s-⟨v,q,i,hv,hq,hi,rfl⟩
  by_cases h:i<8
  ·left;obtain ⟨u,q',hu,hq',he⟩:=vsa (Φ:=T d) (N:=vad) hb hq;have hw:=va0 i zo;have h8:(i:Int)<8:=zo
   obtain ⟨v',hv',ev⟩:∃n:Nat,n<18446744073709551616/\iOr .u64 (Ai.wrap (v * 2^(min (Int.toNat 8) 64))) (Ai.wrap (u:Int))=n:=qnx _;refine ⟨7-i,⟨[(0,.rf 0),(3,.a (.int .u64 v')),(4,.a (.int .i64 ((i+1:Nat):Int))),(10000,.rf 0)],[(0,some (.bx false [.sz vdg (bs.map eU8),.a (.int .i64 q')]))],1⟩,zo,?_,v',q',i+1,hv',hq',zo,rfl⟩;unfold round vf5;simp -implicitDefEqProofs (disch:=try exact zd) only [go_sem,Aa,Ab,he,hw,h8,ev]
   (show some _=some _;kernel_rfl)
  ·right;have h8:i=8:=zo
   subst h8;refine ⟨.ext 0,_,by simp,?_,v,q,hv,hq,rfl,rfl⟩;unfold round vf5;simp -implicitDefEqProofs (disch:=try exact zd) only [go_sem,Aa,Ab]
   (show some _=some _;kernel_rfl)
 ·obtain ⟨v,q,h1,h2,rfl,rfl⟩:=he;exact ⟨v,q,h1,h2,hr⟩
theorem qn1 {d:Nat} {bs:List Nat} (hb:Bs bs) {p:Nat} (hp:p<=bs.length):∃(v q:Nat),v<18446744073709551616/\q<=bs.length/\
  vag (T (d+1)) vad vhv [.bx false [.sl true vdg (bs.map eU8),.a (.int .i64 p)]]=some ([.a (.int .u64 v)],[.bx false [.sl true vdg (bs.map eU8),.a (.int .i64 q)]]):=by
 have key:=λr=>qkk (d:=d) hb hp r;rw [vab rfl];simp -implicitDefEqProofs (disch:=try exact zd) only [go_sem,Aa,Ab,vhv,vov];rw [show norm _ _=(⟨[(0,.rf 0),(3,.a (.int .u64 0)),(4,.a (.int .i64 0)),(10000,.rf 0)],[(0,some (.bx false [.sz vdg (bs.map eU8),.a (.int .i64 p)]))],1⟩:St) from rfl];obtain ⟨v,q,hv,hq,he⟩:=key _;refine ⟨v,q,hv,hq,?_⟩;rw [he];simp -implicitDefEqProofs (disch:=try exact zd) only [go_sem,Aa,Ab]
theorem qdi (x:Int) (h0:0<=x) (h1:x<18446744073709551616):Ai.wrap x=x:=by
 unfold An;simp [Ao,Am];omega
theorem qm2 {d:Nat} {bs:List Nat} (hb:Bs bs) {p:Nat} (hp:p<=bs.length) (lo hi:Int) (h0: -2305843009213693952<=lo) (h1:lo<=hi) (h2:hi<=2305843009213693952):∃(v:Int) (q:Nat),lo<=v/\v<=hi/\q<=bs.length/\
  vag (T (d+2)) vad vfa [.bx false [.sl true vdg (bs.map eU8),.a (.int .i64 p)],.a (.int .i64 lo),.a (.int .i64 hi)]=some ([.a (.int .i64 v)],[.bx false [.sl true vdg (bs.map eU8),.a (.int .i64 q)]]):=by
 obtain ⟨v,q,hv,hq,he⟩:=vb0 (d:=d) hb hp 8 zo zo;obtain ⟨u,q',hu,hq',he'⟩:=qn1 (d:=d) hb hq;have hlt:¬hi<lo:=zo
 have w1:Ac.wrap (hi-lo)=hi-lo:=by rw [vau]<;>omega
 have w2:Ac.wrap (hi-lo+1)=hi-lo+1:=by rw [vau]<;>omega
 have w3:Ai.wrap (hi-lo+1)=hi-lo+1:=by rw [qdi]<;>omega
 have hne:hi-lo+1≠0:=zo
 obtain ⟨m,hm0,hm1,hm⟩:∃m:Int,0<=m/\m<hi-lo+1/\Int.tmod (Int.fdiv (u:Int) (2^min (Int.toNat 1) 64)) (hi-lo+1)=m:=by
  have hf:0<=Int.fdiv (u:Int) (2^min (Int.toNat 1) 64):=Int.fdiv_nonneg zo (by decide);exact ⟨_,Int.tmod_nonneg _ hf,Int.tmod_lt_of_pos _ zo,rfl⟩
 have w4:Ac.wrap m=m:=by rw [vau]<;>omega
 have w5:Ac.wrap (lo+m)=lo+m:=by rw [vau]<;>omega
 by_cases c0:(v:Int)=0
 ·refine ⟨lo,q,zo,zo,hq,?_⟩;rw [vab rfl];simp -implicitDefEqProofs (disch:=try exact zd) only [go_sem,Aa,Ab,vfa,vj1,he,c0]
 ·by_cases c1:(v:Int)=1
  ·refine ⟨hi,q,zo,zo,hq,?_⟩;rw [vab rfl];simp -implicitDefEqProofs (disch:=try exact zd) only [go_sem,Aa,Ab,vfa,vj1,he,c0,c1]
  ·refine ⟨lo+m,q',zo,zo,hq',?_⟩;rw [vab rfl];simp -implicitDefEqProofs (disch:=try exact zd) only [go_sem,Aa,Ab,vfa,vj1,he,c0,c1,he',hlt,w1,w2,w3,w4,w5,hm]
theorem vhs {d:Nat} {bs:List Nat} (hb:Bs bs) {p:Nat} (hp:p<=bs.length) (lo hi:Int) (h0: -2305843009213693952<=lo) (h1:lo<=hi) (h2:hi<=2305843009213693952):∃(v:Int) (q:Nat),-9223372036854775808<=v/\v<9223372036854775808/\q<=bs.length/\
  vag (T (d+3)) vad vc9 [.bx false [.sl true vdg (bs.map eU8),.a (.int .i64 p)],.a (.int .i64 lo),.a (.int .i64 hi)]=some ([.a (.int .i64 v)],[.bx false [.sl true vdg (bs.map eU8),.a (.int .i64 q)]]):=by
 obtain ⟨v,q,hq,he⟩:=ved (d:=d) hb hp 24 zo zo;obtain ⟨u,q1,hu,hq1,he1⟩:=vb0 (d:=d+1) hb hq 4 zo zo;obtain ⟨w,q2,hw1,hw2,hq2,he2⟩:=qm2 (d:=d) hb hq lo hi h0 h1 h2;cases v with
 |false=>
  refine ⟨w,q2,zo,zo,hq2,?_⟩;rw [vab rfl];simp -implicitDefEqProofs (disch:=try exact zd) only [go_sem,Aa,Ab,vc9,vgt,he,he2]
 |true=>
  have w1:Ac.wrap (lo-1)=lo-1:=by rw [vau]<;>omega
  have w2:Ac.wrap (hi+1)=hi+1:=by rw [vau]<;>omega
  have hu4:u<4:=zo
  match u,hu4 with
  |0,_=>
   refine ⟨lo-1,q1,zo,zo,hq1,?_⟩;rw [vab rfl];simp -implicitDefEqProofs (disch:=try exact zd) only [go_sem,Aa,Ab,vc9,vgt,he,he1,w1,w2]
  |1,_=>
   refine ⟨hi+1,q1,zo,zo,hq1,?_⟩;rw [vab rfl];simp -implicitDefEqProofs (disch:=try exact zd) only [go_sem,Aa,Ab,vc9,vgt,he,he1,w1,w2]
  |2,_=>
   refine ⟨-9223372036854775808,q1,zo,zo,hq1,?_⟩;rw [vab rfl];simp -implicitDefEqProofs (disch:=try exact zd) only [go_sem,Aa,Ab,vc9,vgt,he,he1,w1,w2]
  |3,_=>
   refine ⟨9223372036854775807,q1,zo,zo,hq1,?_⟩;rw [vab rfl];simp -implicitDefEqProofs (disch:=try exact zd) only [go_sem,Aa,Ab,vc9,vgt,he,he1,w1,w2]
theorem qpq (l:List PV) (h:l.length<=9223372036854775807):vag Φ N vl1 [.sl true vdg l]=some ([.a (.bool (decide (1048576<(l.length:Int))))],[]):=by
 rw [vab rfl];simp -implicitDefEqProofs (disch:=try exact zd) only [go_sem,Aa,Ab,vl1,vw9]
theorem qf5 (l:List PV):vag Φ N vj9 [.sl true vdg l]=some ([.bx false [.sl true vdg l,.a (.int .i64 0)]],[]):=by
 rw [vab rfl];simp -implicitDefEqProofs (disch:=try exact zd) only [go_sem,Aa,Ab,vj9,vtc]
abbrev cRd (bs:List Nat) (p:Nat):CV:= .bx false [.sl true vdg (bs.map eU8),.a (.int .i64 p)]
abbrev nRd (bs:List Nat) (p:Nat):Option Node:=some (.bx false [.sz vdg (bs.map eU8),.a (.int .i64 p)])
theorem qme {d:Nat} {bs:List Nat} (hb:Bs bs) {p:Nat} (hp:p<=bs.length) (most:Int) (h0:1<=most) (h1:most<=1000):∃(v q:Nat),1<=v/\(v:Int)<=most/\q<=bs.length/\
  vag (T (d+2)) vad vgc [cRd bs p,.a (.int .i64 4),.a (.int .i64 most)]=some ([.a (.int .i64 v)],[cRd bs q]):=by
 have hl:=hb.len;have e1:Int.tdiv (bs.length:Int) 4=((bs.length/4:Nat):Int):=(Int.ofNat_tdiv bs.length 4).symm;have e2:Ac.wrap ((bs.length/4:Nat):Int)=((bs.length/4:Nat):Int):=by rw [vau]<;>omega
 have e3:Ac.wrap (1+((bs.length/4:Nat):Int))=((bs.length/4+1:Nat):Int):=by rw [vau]<;>omega
 by_cases c:((bs.length/4+1:Nat):Int)>most
 ·obtain ⟨v,q,hv,hq,he⟩:=vb0 (d:=d) hb hp most zo zo;have e4:Ac.wrap (1+(v:Int))=((v+1:Nat):Int):=by rw [vau]<;>omega
  refine ⟨v+1,q,zo,zo,hq,?_⟩;rw [vab rfl];simp -implicitDefEqProofs (disch:=try exact zd) only [go_sem,Aa,Ab,vgc,vll,he,e1,e2,e3,e4,c]
 ·obtain ⟨v,q,hv,hq,he⟩:=vb0 (d:=d) hb hp ((bs.length/4+1:Nat):Int) zo zo;have e4:Ac.wrap (1+(v:Int))=((v+1:Nat):Int):=by rw [vau]<;>omega
  refine ⟨v+1,q,zo,zo,hq,?_⟩;rw [vab rfl];simp -implicitDefEqProofs (disch:=try exact zd) only [go_sem,Aa,Ab,vgc,vll,he,e1,e2,e3,e4,c]
theorem qbr {s:ByteArray} (h:(ch s).all okC=true) (b:UInt8) (hb:okC b=true):(ch (s++⟨#[b]⟩)).all okC=true:=by
 have:ch (s++⟨#[b]⟩)=ch s++ [b]:=by unfold ch;simp
 rw [this,List.all_append,h];simp [hb]
theorem qe9 {d:Nat} {bs:List Nat} (hb:Bs bs) {p:Nat} (hp:p<=bs.length) (v:Nat) (h0:1<=v) (h1:v<=1000):∃e,(∃(s:ByteArray) (q:Nat),s.size=v/\(ch s).all okC=true/\q<=bs.length/\e=⟨[(0,.rf 0),(5,.a (.string s)),(6,.a (.int .i64 (0:Nat))),(12,.a (.bool false)),(10000,.rf 0)],[(0,nRd bs q)],201⟩)/\
  vbt (T (d+2)) vad [0,5,6,10000] vfs ⟨[(0,.rf 0),(5,.a (.string ⟨#[]⟩)),(6,.a (.int .i64 (v:Nat))),(10000,.rf 0)],[(0,nRd bs p)],1⟩=some (.ext 0,e):=by
 refine ve5 (λr t=>∃(s:ByteArray) (q:Nat),s.size+r=v/\(ch s).all okC=true/\q<=bs.length/\t=⟨[(0,.rf 0),(5,.a (.string s)),(6,.a (.int .i64 (r:Nat))),(10000,.rf 0)],[(0,nRd bs q)],1⟩) 0 _ (m:=v) (vbc zo) ⟨⟨#[]⟩,p,by show 0+v=v;omega,rfl,hp,rfl⟩ ?_
 rintro r t hr ⟨s,q,hs,hk,hq,rfl⟩
 cases r with
 |zero=>
  right;refine ⟨_,?_,s,q,zo,hk,hq,rfl⟩;unfold round vfs;simp -implicitDefEqProofs (disch:=try exact zd) only [go_sem,Aa,Ab,Int.ofNat_zero]
 |succ k=>
  left;obtain ⟨u,q1,hu,hq1,he⟩:=vb0 (d:=d) hb hq 2 zo zo;have hw:Ac.wrap (((k+1:Nat):Int)-1)=k:=by rw [vau]<;>omega
  have hpos:(0:Int)<((k+1:Nat):Int):=zo
  have hz1:(ByteArray.mk #[105]).size=1:=rfl;have hz2:(ByteArray.mk #[114]).size=1:=rfl
  match u,(show u<2 by omega) with
  |0,_=>
   refine ⟨zo,_,?_,s++⟨#[105]⟩,q1,by rw [ByteArray.size_append];show s.size+1+k=v;omega,qbr hk _ (by decide),hq1,rfl⟩;unfold round vfs;simp -implicitDefEqProofs (disch:=try exact zd) only [go_sem,Aa,Ab,he,hw,hpos]
   (show some _=some _;kernel_rfl)
  |1,_=>
   refine ⟨zo,_,?_,s++⟨#[114]⟩,q1,by rw [ByteArray.size_append];show s.size+1+k=v;omega,qbr hk _ (by decide),hq1,rfl⟩;unfold round vfs;simp -implicitDefEqProofs (disch:=try exact zd) only [go_sem,Aa,Ab,he,hw,hpos]
   (show some _=some _;kernel_rfl)
theorem vzg {d:Nat} {bs:List Nat} (hb:Bs bs) {p:Nat} (hp:p<=bs.length) (most:Int) (h0:1<=most) (h1:most<=999):∃(s:ByteArray) (q:Nat),1<=s.size/\(s.size:Int)<=most/\(ch s).all okC=true/\q<=bs.length/\
  vag (T (d+2)) vad vg8 [cRd bs p,.a (.int .i64 most)]=some ([.a (.string s)],[cRd bs q]):=by
 obtain ⟨v,q,hv,hq,he⟩:=vb0 (d:=d) hb hp most zo zo;obtain ⟨_,⟨s,q1,hs,hk,hq1,rfl⟩,key⟩:=qe9 (d:=d) hb hq (v+1) zo zo;have e4:Ac.wrap (1+(v:Int))=((v+1:Nat):Int):=by rw [vau]<;>omega
 refine ⟨s,q1,zo,zo,hk,hq1,?_⟩;rw [vab rfl];simp -implicitDefEqProofs (disch:=try exact zd) only [go_sem,Aa,Ab,vg8,voa,he,e4,vaw key]
structure DT (ts:List ByteArray):Prop where
 ne:1<=ts.length
 le:ts.length<=3
 lo:∀s∈ts,1<=s.size
 hi:∀s∈ts,s.size<=23
 oc:∀s∈ts,(ch s).all okC=true
theorem DT.ok {ts:List ByteArray} (h:DT ts):∀s∈ts,okType s=true:=λs hs=>by
 unfold okType;rw [h.oc s hs,decide_eq_true ⟨h.lo s hs,h.hi s hs⟩];rfl
theorem qfx {d:Nat} {bs:List Nat} (hb:Bs bs) {p:Nat} (hp:p<=bs.length) {t0:ByteArray} (l0:1<=t0.size) (l1:t0.size<=23) (l2:(ch t0).all okC=true) (v:Nat) (h1:v<=2):∃e,(∃(ts:List ByteArray) (q:Nat),DT ts/\q<=bs.length/\e=⟨[(0,.rf 0),(3,.rf 1),(4,.a (.int .i64 (0:Nat))),(15,.a (.bool false)),(10000,.rf 0)],[(0,nRd bs q),(1,some (.sl false 0 vam (ts.map eStr)))],202⟩)/\
  vbt (T (d+3)) vad [0,3,4,10000] vft ⟨[(0,.rf 0),(3,.rf 1),(4,.a (.int .i64 (v:Nat))),(10000,.rf 0)],[(0,nRd bs p),(1,some (.sl false 0 vam [eStr t0]))],2⟩=some (.ext 0,e):=by
 refine ve5 (λr t=>∃(ts:List ByteArray) (q:Nat),(1<=ts.length/\ts.length+r<=3/\(∀s∈ts,1<=s.size)/\(∀s∈ts,s.size<=23)/\∀s∈ts,(ch s).all okC=true)/\q<=bs.length/\t=⟨[(0,.rf 0),(3,.rf 1),(4,.a (.int .i64 (r:Nat))),(10000,.rf 0)],[(0,nRd bs q),(1,some (.sl false 0 vam (ts.map eStr)))],2⟩) 0 _ (m:=v) (vbc zo) ⟨[t0],p,⟨by simp,by simp;omega,by simpa using l0,by simpa using l1,λs hs=>by simp at hs;subst hs;exact l2⟩,hp,rfl⟩ ?_
 rintro r t hr ⟨ts,q,⟨a1,a2,a3,a4,a5⟩,hq,rfl⟩
 cases r with
 |zero=>
  right;refine ⟨_,?_,ts,q,⟨a1,zo,a3,a4,a5⟩,hq,rfl⟩;unfold round vft;simp -implicitDefEqProofs (disch:=try exact zd) only [go_sem,Aa,Ab,Int.ofNat_zero]
 |succ k=>
  left;obtain ⟨u,q1,hq1,he⟩:=ved (d:=d) hb hq 4 zo zo;have hw:Ac.wrap (((k+1:Nat):Int)-1)=k:=by rw [vau]<;>omega
  have hpos:(0:Int)<((k+1:Nat):Int):=zo
  cases u with
  |false=>
   obtain ⟨s,q2,b1,b2,b3,hq2,he2⟩:=vzg (d:=d) hb hq1 5 zo zo;refine ⟨zo,_,?_,ts++ [s],q2,⟨by simp,by simp;omega,λx hx=> ?_,λx hx=> ?_,λx hx=> ?_⟩,hq2,rfl⟩
   ·rw [vb5];unfold round vft;simp -implicitDefEqProofs (disch:=try exact zd) only [go_sem,Aa,Ab,he,hw,hpos,he2]
    (show some _=some _;kernel_rfl)
   ·rcases Ae.1 hx with h|h
    ·exact a3 x h
    ·simp at h;subst h;exact b1
   ·rcases Ae.1 hx with h|h
    ·exact a4 x h
    ·simp at h;subst h;omega
   ·rcases Ae.1 hx with h|h
    ·exact a5 x h
    ·simp at h;subst h;exact b3
  |true=>
   obtain ⟨s,q2,b1,b2,b3,hq2,he2⟩:=vzg (d:=d) hb hq1 23 zo zo;refine ⟨zo,_,?_,ts++ [s],q2,⟨by simp,by simp;omega,λx hx=> ?_,λx hx=> ?_,λx hx=> ?_⟩,hq2,rfl⟩
   ·rw [vb5];unfold round vft;simp -implicitDefEqProofs (disch:=try exact zd) only [go_sem,Aa,Ab,he,hw,hpos,he2]
    (show some _=some _;kernel_rfl)
   ·rcases Ae.1 hx with h|h
    ·exact a3 x h
    ·simp at h;subst h;exact b1
   ·rcases Ae.1 hx with h|h
    ·exact a4 x h
    ·simp at h;subst h;omega
   ·rcases Ae.1 hx with h|h
    ·exact a5 x h
    ·simp at h;subst h;exact b3
theorem qj6 {d:Nat} {bs:List Nat} (hb:Bs bs) {p:Nat} (hp:p<=bs.length):∃(ts:List ByteArray) (q:Nat),DT ts/\q<=bs.length/\
  vag (T (d+3)) vad vdm [cRd bs p]=some ([.sl false vam (ts.map eStr)],[cRd bs q]):=by
 obtain ⟨u,q1,hu,hq1,he1⟩:=vb0 (d:=d+1) hb hp 4 zo zo;obtain ⟨v,q,hv,hq,he⟩:=vb0 (d:=d+1) hb hq1 3 zo zo;have fin (t0:ByteArray) (l0:1<=t0.size) (l1:t0.size<=23) (l2:(ch t0).all okC=true) (hx:([.string ⟨#[105,114]⟩,.string ⟨#[114,114,105]⟩,.string ⟨#[114,105]⟩,.string ⟨#[105,114,114]⟩]:List Value)[u]? =some (.string t0)):∃(ts:List ByteArray) (q:Nat),DT ts/\q<=bs.length/\
  vag (T (d+3)) vad vdm [cRd bs p]=some ([.sl false vam (ts.map eStr)],[cRd bs q]):=by
  obtain ⟨_,⟨ts,q1,hs,hq1,rfl⟩,key⟩:=qfx (d:=d) hb hq l0 l1 l2 v zo;refine ⟨ts,q1,hs,hq1,?_⟩;rw [vab rfl]
  match u,(show u<4 by omega) with
  |0,_=>cases hx;simp -implicitDefEqProofs (disch:=try exact zd) only [go_sem,Aa,Ab,vdm,vg5,he,he1,vaw key]
  |1,_=>cases hx;simp -implicitDefEqProofs (disch:=try exact zd) only [go_sem,Aa,Ab,vdm,vg5,he,he1,vaw key]
  |2,_=>cases hx;simp -implicitDefEqProofs (disch:=try exact zd) only [go_sem,Aa,Ab,vdm,vg5,he,he1,vaw key]
  |3,_=>cases hx;simp -implicitDefEqProofs (disch:=try exact zd) only [go_sem,Aa,Ab,vdm,vg5,he,he1,vaw key]
 match u,(show u<4 by omega) with
 |0,_=>exact fin ⟨#[105,114]⟩ (by decide) (by decide) (by decide) rfl
 |1,_=>exact fin ⟨#[114,114,105]⟩ (by decide) (by decide) (by decide) rfl
 |2,_=>exact fin ⟨#[114,105]⟩ (by decide) (by decide) (by decide) rfl
 |3,_=>exact fin ⟨#[105,114,114]⟩ (by decide) (by decide) (by decide) rfl
def GSh (ts:List ByteArray) (n:Nat) (l:List Obj'):Prop:=∀o∈l,∃(t:Nat) (s:ByteArray),o.ty=(t:Int)/\ts[t]? =some s/\o.vals.length=s.size/\∀(j:Nat) y,o.vals[j]? =some y->refAt s j=true->0<=y/\y<=(n:Int)
theorem GSh.snoc {ts:List ByteArray} {n:Nat} {l:List Obj'} (h:GSh ts n l) {o:Obj'} {t:Nat} {s:ByteArray} (h1:o.ty=(t:Int)) (h2:ts[t]? =some s) (h3:o.vals.length=s.size/\∀(j:Nat) y,o.vals[j]? =some y->refAt s j=true->0<=y/\y<=(n:Int)):GSh ts n (l++ [o]):=λx hx=>by
 rcases Ae.1 hx with hx|hx
 ·exact h x hx
 ·simp at hx;subst hx;exact ⟨t,s,h1,h2,h3⟩
abbrev nG (bs:List Nat) (ts:List ByteArray) (q:Nat) (X:List Int) (L:List Obj'):vcb:= [(0,nRd bs q),(1,some (.sl true 0 vam (ts.map eStr))),(2,some (.bx false [.rf 4,.rf 5])),(3,some (.bx false [.rf 6,.rf 7])),(4,some (.sl false 0 vae [])),(5,some (.sl false 0 vai [])),(6,some (.sl false 0 vae (X.map vak))),(7,some (.sl false 0 vai (L.map eObj)))]
def SG0 (bs:List Nat) (ts:List ByteArray) (q k v:Nat) (X:List Int) (i:Nat):St:=⟨[(0,.rf 0),(1,.rf 1),(2,.a (.int .i64 k)),(8,.rf 2),(9,.rf 3),(10,.a (.int .i64 v)),(11,.a (.int .i64 i)),(10000,.rf 0),(10001,.rf 1)],nG bs ts q X [],8⟩
theorem qmc {d:Nat} {bs:List Nat} (hb:Bs bs) (ts:List ByteArray) {p:Nat} (hp:p<=bs.length) (k v:Nat) (h0:k<=1000) (h1:1<=v/\v<=1000):∃e,(∃(X:List Int) (q:Nat),(X.length=k/\∀x∈X,0<=x/\x<=(v:Int))/\q<=bs.length/\e=⟨[(0,.rf 0),(1,.rf 1),(2,.a (.int .i64 k)),(8,.rf 2),(9,.rf 3),(10,.a (.int .i64 v)),(11,.a (.int .i64 X.length)),(23,.a (.bool false)),(10000,.rf 0),(10001,.rf 1)],nG bs ts q X [],308⟩)/\
  vbt (T (d+3)) vad [0,1,2,8,9,10,11,10000,10001] vfw (SG0 bs ts p k v [] 0)=some (.ext 0,e):=by
 refine ve5 (λr t=>∃(X:List Int) (q:Nat),(X.length+r=k/\∀x∈X,0<=x/\x<=(v:Int))/\q<=bs.length/\t=SG0 bs ts q k v X X.length) 0 _ (m:=k) (vbc zo) ⟨[],p,⟨by simp,by simp⟩,hp,rfl⟩ ?_
 rintro r t hr ⟨X,q,⟨hX,hX0⟩,hq,rfl⟩
 by_cases hpos:0<r
 ·left;obtain ⟨u,q1,hq1,he⟩:=ved (d:=d) hb hq 2 zo zo;have hw:=va0 X.length zo;have hlt:(X.length:Int)<k:=zo
  cases u with
  |false=>
   refine ⟨hpos,_,?_,X++ [0],q1,⟨by simp;omega,λx hx=>by rcases Ae.1 hx with h|h;exact hX0 x h;simp at h;omega⟩,hq1,rfl⟩;rw [SG0,SG0,Af];unfold nG;rw [vb5];unfold round vfw;simp -implicitDefEqProofs (disch:=try exact zd) only [go_sem,Aa,Ab,he,hw,hlt]
   (show some _=some _;kernel_rfl)
  |true=>
   obtain ⟨w,q2,b1,hq2,he2⟩:=vb0 (d:=d+1) hb hq1 v zo zo;have e4:Ac.wrap (1+(w:Int))=((w+1:Nat):Int):=by rw [vau]<;>omega
   refine ⟨hpos,_,?_,X++ [((w+1:Nat):Int)],q2,⟨by simp;omega,λx hx=>by rcases Ae.1 hx with h|h;exact hX0 x h;simp at h;omega⟩,hq2,rfl⟩;rw [SG0,SG0,Af];unfold nG;rw [vb5];unfold round vfw;simp -implicitDefEqProofs (disch:=try exact zd) only [go_sem,Aa,Ab,he,hw,he2,hlt,e4]
   (show some _=some _;kernel_rfl)
 ·right;have hlt:¬(X.length:Int)<k:=zo
  have hk:X.length=k:=zo
  refine ⟨_,?_,X,q,⟨hk,hX0⟩,hq,rfl⟩;unfold round SG0 nG vfw;simp -implicitDefEqProofs (disch:=try exact zd) only [go_sem,Aa,Ab,hlt]
abbrev nG2 (bs:List Nat) (ts:List ByteArray) (q:Nat) (X:List Int) (L:List Obj') (t:Nat) (V:List Int):vcb:= [(0,nRd bs q),(1,some (.sl true 0 vam (ts.map eStr))),(2,some (.bx false [.rf 5,.rf 6])),(3,some (.bx false [.rf 7,.rf 8])),(4,some (.bx false [.a (.int .i64 t),.rf 9])),(5,some (.sl false 0 vae [])),(6,some (.sl false 0 vai [])),(7,some (.sl false 0 vae (X.map vak))),(8,some (.sl false 0 vai (L.map eObj))),(9,some (.sl false 0 vae (V.map vak)))]
def SG2 (bs:List Nat) (ts:List ByteArray) (q v:Nat) (X:List Int) (L:List Obj') (t:Nat) (V:List Int) (i j:Nat):St:=⟨[(0,.rf 0),(1,.rf 1),(8,.rf 2),(9,.rf 3),(10,.a (.int .i64 v)),(13,.a (.int .i64 i)),(14,.rf 4),(15,.a (.int .i64 j)),(10000,.rf 0),(10001,.rf 1)],nG2 bs ts q X L t V,10⟩
theorem qeq {s:ByteArray} {n:Nat} {V:List Int} (h:∀(j:Nat) y,V[j]? =some y->refAt s j=true->0<=y/\y<=(n:Int)) {x:Int} (hx:refAt s V.length=true->0<=x/\x<=(n:Int)):∀(j:Nat) y,(V++ [x])[j]? =some y->refAt s j=true->0<=y/\y<=(n:Int):=by
 intro j v hj hr;by_cases hjl:j<V.length
 ·rw [List.getElem?_append_left hjl] at hj;exact h j v hj hr
 ·have h1:=(Aj.1 hj).1;rw [Af,List.length_singleton] at h1;obtain rfl:j=V.length:=zo
  rw [List.getElem?_append_right (Nat.le_refl _),Nat.sub_self] at hj;cases hj;exact hx hr
theorem qk5 {d:Nat} {bs:List Nat} (hb:Bs bs) (ts:List ByteArray) {p:Nat} (hp:p<=bs.length) (v:Nat) (h1:1<=v/\v<=1000) (X:List Int) (L:List Obj') (i t:Nat) {s:ByteArray} (hs:ts[t]? =some s) (hz:s.size<=1000):∃e,(∃(V:List Int) (q:Nat),(V.length=s.size/\∀(j:Nat) y,V[j]? =some y->refAt s j=true->0<=y/\y<=(v:Int))/\q<=bs.length/\e=⟨[(0,.rf 0),(1,.rf 1),(8,.rf 2),(9,.rf 3),(10,.a (.int .i64 v)),(13,.a (.int .i64 i)),(14,.rf 4),(15,.a (.int .i64 V.length)),(55,.a (.bool false)),(10000,.rf 0),(10001,.rf 1)],nG2 bs ts q X L t V,810⟩)/\
  vbt (T (d+3)) vad [0,1,8,9,10,13,14,15,10000,10001] vfn (SG2 bs ts p v X L t [] i 0)=some (.ext 4,e):=by
 have htl:t<ts.length:=(Aj.1 hs).1;refine ve5 (λr w=>∃(V:List Int) (q:Nat),(V.length+r=s.size/\∀(j:Nat) y,V[j]? =some y->refAt s j=true->0<=y/\y<=(v:Int))/\q<=bs.length/\w=SG2 bs ts q v X L t V i V.length) 4 _ (m:=s.size) (vbc zo) ⟨[],p,⟨by simp,by simp⟩,hp,rfl⟩ ?_
 rintro r w hr ⟨V,q,⟨hV,hV0⟩,hq,rfl⟩
 by_cases hpos:0<r
 ·left;obtain ⟨u,q1,hu,hq1,he⟩:=vb0 (d:=d+1) hb hq 100 zo zo;have e0:Ac.wrap ((u:Int)-20)=(u:Int)-20:=by rw [vau]<;>omega
  obtain ⟨w,q2,b1,hq2,he2⟩:=vb0 (d:=d+1) hb hq1 ((v:Int)+3) zo zo;have e1:Ac.wrap ((v:Int)+3)=(v:Int)+3:=by rw [vau]<;>omega
  have e2:Ac.wrap ((w:Int)-2)=(w:Int)-2:=by rw [vau]<;>omega
  have hw:=va0 V.length zo;have hlt:(V.length:Int)<s.size:=zo
  obtain ⟨b,hb⟩:∃b,(ch s)[V.length]? =some b:=⟨_,Ad (by rw [<-vho];omega)⟩
  have hx:=vmc hb;by_cases c:(b.toNat:Int)=114
  ·obtain ⟨m,hm⟩:∃m,ext2 true ((w:Int)-2) 0=m:=⟨_,rfl⟩
   refine ⟨hpos,_,?_,V++ [m],q2,⟨by simp;omega,qeq hV0 λ_=>by subst hm;unfold ext2;simp;omega⟩,hq2,rfl⟩;rw [SG2,SG2,Af];unfold nG2;rw [vb5];unfold round vfn;simp -implicitDefEqProofs (disch:=try exact zd) only [go_sem,Aa,Ab,he,hw,hlt,hs,hx,c,e0,e1,e2,he2,hm]
   (show some _=some _;kernel_rfl)
  ·refine ⟨hpos,_,?_,V++ [(u:Int)-20],q1,⟨by simp;omega,qeq hV0 λh=>by unfold refAt at h;rw [hb] at h;exact absurd (of_decide_eq_true h) c⟩,hq1,rfl⟩;rw [SG2,SG2,Af];unfold nG2;rw [vb5];unfold round vfn;simp -implicitDefEqProofs (disch:=try exact zd) only [go_sem,Aa,Ab,he,hw,hlt,hs,hx,c,e0]
   (show some _=some _;kernel_rfl)
 ·right;have hlt:¬(V.length:Int)<s.size:=zo
  refine ⟨_,?_,V,q,⟨zo,hV0⟩,hq,rfl⟩;unfold round SG2 nG2 vfn;simp -implicitDefEqProofs (disch:=try exact zd) only [go_sem,Aa,Ab,hlt,hs]
def SG1 (bs:List Nat) (ts:List ByteArray) (q v:Nat) (X:List Int) (L:List Obj') (i:Nat):St:=⟨[(0,.rf 0),(1,.rf 1),(8,.rf 2),(9,.rf 3),(10,.a (.int .i64 v)),(13,.a (.int .i64 i)),(10000,.rf 0),(10001,.rf 1)],nG bs ts q X L,8⟩
theorem qlc {d:Nat} {bs:List Nat} (hb:Bs bs) {ts:List ByteArray} (ht:DT ts) {p:Nat} (hp:p<=bs.length) (v:Nat) (h1:1<=v/\v<=1000) (X:List Int):∃e,(∃(L:List Obj') (q:Nat),L.length=v/\GSh ts v L/\q<=bs.length/\e=⟨[(0,.rf 0),(1,.rf 1),(8,.rf 2),(9,.rf 3),(10,.a (.int .i64 v)),(13,.a (.int .i64 L.length)),(40,.a (.bool false)),(10000,.rf 0),(10001,.rf 1)],nG bs ts q X L,308⟩)/\
  vbt (T (d+3)) vad [0,1,8,9,10,13,10000,10001] vhe (SG1 bs ts p v X [] 0)=some (.ext 2,e):=by
 refine ve5 (λr w=>∃(L:List Obj') (q:Nat),L.length+r=v/\GSh ts v L/\q<=bs.length/\w=SG1 bs ts q v X L L.length) 2 _ (m:=v) (vbc zo) ⟨[],p,by simp,λo ho=>by simp at ho,hp,rfl⟩ ?_
 rintro r w hr ⟨L,q,hL,hG,hq,rfl⟩
 have hne:=ht.ne;have hle:=ht.le;by_cases hpos:0<r
 ·left;obtain ⟨t,q1,hu,hq1,he⟩:=vb0 (d:=d+1) hb hq ts.length zo zo;obtain ⟨s,hs⟩:∃s,ts[t]? =some s:=⟨_,Ad zo⟩
  have hsz:=ht.hi s (Ah hs);obtain ⟨_,⟨V,q2,hV,hq2,rfl⟩,key⟩:=qk5 (d:=d) hb ts hq1 v h1 X L L.length t hs zo;unfold SG2 nG2 at key;have hw:=va0 L.length zo;have hlt:(L.length:Int)<v:=zo
  refine ⟨hpos,_,?_,L++ [⟨t,V⟩],q2,by simp;omega,hG.snoc rfl hs hV,hq2,rfl⟩;rw [SG1,SG1,Af];unfold nG;rw [vb5];unfold round vhe;simp -implicitDefEqProofs (disch:=try exact zd) only [go_sem,Aa,Ab,he,hw,hlt,vaw key]
  (show some _=some _;kernel_rfl)
 ·right;have hlt:¬(L.length:Int)<v:=zo
  refine ⟨_,?_,L,q,zo,hG,hq,rfl⟩;unfold round SG1 nG vhe;simp -implicitDefEqProofs (disch:=try exact zd) only [go_sem,Aa,Ab,hlt]
theorem qja {d:Nat} {bs:List Nat} (hb:Bs bs) {ts:List ByteArray} (ht:DT ts) {p:Nat} (hp:p<=bs.length) (k:Nat) (h0:k<=1000) (most:Int) (hm0:1<=most) (hm1:most<=1000):∃(g:Gr) (q:Nat),(g.roots.length=k/\∀x∈g.roots,0<=x/\x<=(g.nodes.length:Int))/\1<=g.nodes.length/\(g.nodes.length:Int)<=most/\GSh ts g.nodes.length g.nodes/\q<=bs.length/\
  vag (T (d+3)) vad vg6 [cRd bs p,.sl false vam (ts.map eStr),.a (.int .i64 k),.a (.int .i64 most)]=some ([cGr false g],[cRd bs q,.sl false vam (ts.map eStr)]):=by
 obtain ⟨v,q,hv0,hv1,hq,he⟩:=qme (d:=d) hb hp most hm0 hm1;obtain ⟨_,⟨X,q1,hX,hq1,rfl⟩,k1⟩:=qmc (d:=d) hb ts hq k v h0 ⟨hv0,zo⟩;obtain ⟨_,⟨L,q2,hL,hG,hq2,rfl⟩,k2⟩:=qlc (d:=d) hb ht hq1 v ⟨hv0,zo⟩ X;unfold SG0 nG at k1;unfold SG1 nG at k2;subst hL;refine ⟨⟨X,L⟩,q2,hX,by show 1<=L.length;omega,by show (L.length:Int)<=most;omega,hG,hq2,?_⟩;rw [vab rfl];simp -implicitDefEqProofs (disch:=try exact zd) only [go_sem,Aa,Ab,vg6,vnx,he,vaw k1,vaw k2]
abbrev sK (bs:List Nat) (q n:Nat) (X:List Int) (w:vcv):St:=⟨[(0,.rf 0),(1,.a (.int .i64 (n:Nat))),(5,.rf 1),(6,.a (.int .i64 (X.length:Nat)))]++w,[(0,nRd bs q),(1,some (.sl false 0 vae (X.map vak)))],2⟩
theorem qu8 {d:Nat} {bs:List Nat} (hb:Bs bs) {p:Nat} (hp:p<=bs.length) (n:Nat) (hn:n<=1000):∃e,(∃(X:List Int) (q:Nat),X.length=n/\q<=bs.length/\e=⟨[(0,.rf 0),(1,.a (.int .i64 (n:Nat))),(5,.rf 1),(6,.a (.int .i64 (X.length:Nat))),(10,.a (.bool false)),(10000,.rf 0)],[(0,nRd bs q),(1,some (.sl false 0 vae (X.map vak)))],302⟩)/\
  vbt (T (d+3)) vad [0,1,5,6,10000] vh6 (sK bs p n [] [(10000,.rf 0)])=some (.ext 0,e):=by
 refine ve5 (λr t=>∃(X:List Int) (q:Nat),X.length+r=n/\q<=bs.length/\t=sK bs q n X [(10000,.rf 0)]) 0 _ (m:=n) (vbc zo) ⟨[],p,by simp,hp,rfl⟩ ?_
 rintro r t hr ⟨X,q,hX,hq,rfl⟩
 by_cases hpos:0<r
 ·left;obtain ⟨u,q1,_,hq1,he⟩:=vb0 (d:=d+1) hb hq 3 zo zo;have hw:=va0 X.length zo;have hlt:(X.length:Int)<n:=zo
  refine ⟨hpos,_,?_,X++ [(u:Int)],q1,by simp;omega,hq1,rfl⟩;unfold round sK vh6;rw [vb5,Af];simp -implicitDefEqProofs (disch:=try exact zd) only [go_sem,Aa,Ab,he,hw,hlt]
  (show some _=some _;kernel_rfl)
 ·right;have hlt:¬(X.length:Int)<n:=zo
  refine ⟨_,?_,X,q,zo,hq,rfl⟩;unfold round sK vh6;simp -implicitDefEqProofs (disch:=try exact zd) only [go_sem,Aa,Ab,hlt]
theorem qne {d:Nat} {bs:List Nat} (hb:Bs bs) {p:Nat} (hp:p<=bs.length) (n:Nat) (hn:n<=1000):∃(X:List Int) (q:Nat),X.length<=n+1/\q<=bs.length/\
  vag (T (d+4)) vad vdv [cRd bs p,.a (.int .i64 (n:Nat))]=some ([.sl false vae (X.map vak)],[cRd bs q]):=by
 obtain ⟨_,⟨X,q1,hX,hq1,rfl⟩,key⟩:=qu8 (d:=d+1) hb hp n hn;unfold sK at key;obtain ⟨a,q2,_,hq2,h2⟩:=vb0 (d:=d+2) hb hq1 12 zo zo;by_cases c0:(a:Int)=0
 ·obtain ⟨u,q3,_,hq3,h3⟩:=vb0 (d:=d+2) hb hq2 3 zo zo;refine ⟨X++ [(u:Int)],q3,by simp;omega,hq3,?_⟩;rw [vab rfl,vb5];simp -implicitDefEqProofs (disch:=try exact zd) only [go_sem,Aa,Ab,vdv,vgi,vaw key,h2,c0,h3];done
 ·by_cases c1:(a:Int)=1
  ·refine ⟨X.take (n/2),q2,by rw [List.length_take];omega,hq2,?_⟩;have e1:Ac.wrap (Int.tdiv (X.length:Int) 2)=((n/2:Nat):Int):=by
    rw [show Int.tdiv (X.length:Int) 2=((X.length/2:Nat):Int) from (Int.ofNat_tdiv _ 2).symm,vau]<;>omega
   rw [vab rfl,List.map_take];simp -implicitDefEqProofs (disch:=try exact zd) only [go_sem,Aa,Ab,vdv,vgi,vaw key,h2,c0,c1,e1];done
  ·by_cases c2:(a:Int)=2
   ·by_cases c3:(X.length:Int)>0
    ·obtain ⟨u,q3,hu,hq3,h3⟩:=vb0 (d:=d+2) hb hq2 X.length zo zo;obtain ⟨v,q4,_,_,hq4,h4⟩:=vhs (d:=d) hb hq3 0 2 zo zo zo;refine ⟨X.set u v,q4,by rw [Al];omega,hq4,?_⟩;have hul:u<X.length:=zo
     obtain ⟨y,hy⟩:∃y,X[u]? =some y:=⟨_,Ad hul⟩
     rw [vab rfl,Ag];simp -implicitDefEqProofs (disch:=try exact zd) only [go_sem,Aa,Ab,vdv,vgi,vaw key,h2,c2,c3,h3,h4,hy];done
    ·refine ⟨X,q2,zo,hq2,?_⟩;rw [vab rfl];simp -implicitDefEqProofs (disch:=try exact zd) only [go_sem,Aa,Ab,vdv,vgi,vaw key,h2,c2,c3];done
   ·refine ⟨X,q2,zo,hq2,?_⟩;rw [vab rfl];simp -implicitDefEqProofs (disch:=try exact zd) only [go_sem,Aa,Ab,vdv,vgi,vaw key,h2,c0,c1,c2];done
abbrev nHA (bs:List Nat) (q:Nat) (X:List Int) (L:List Obj'):vcb:= [(0,some (.bx false [.rf 3,.rf 4])),(1,some (.bx false [.rf 5,.rf 6])),(2,nRd bs q),(3,some (.sl true 0 vae (Ak vak X))),(4,some (.sl true 0 vai (Ak eObj L))),(5,some (.sl false 0 vae [])),(6,some (.sl false 0 vai []))]
abbrev nHB (bs:List Nat) (q:Nat) (X:List Int) (L:List Obj'):vcb:= [(0,some (.bx false [.rf 5,.rf 4])),(1,some (.bx false [.rf 6,.rf 7])),(2,nRd bs q),(3,none),(4,some (.sl true 0 vai (Ak eObj L))),(5,some (.sl true 0 vae (Ak vak X))),(6,some (.sl false 0 vae [])),(7,some (.sl false 0 vai []))]
abbrev sH (t i:Nat):vcv:= [(3,.rf 0),(4,.rf 1),(5,.a (.int .i64 t)),(6,.a (.int .i64 i)),(10000,.rf 2),(10001,.st [.rf 3,.rf 4])]
abbrev eH (t i:Nat):vcv:= [(3,.rf 0),(4,.rf 1),(5,.a (.int .i64 t)),(6,.a (.int .i64 i)),(87,.a (.bool false)),(10000,.rf 2),(10001,.st [.rf 3,.rf 4])]
theorem qrt {d:Nat} (bs:List Nat) (q t:Nat) (X0:List Int) (L:List Obj') (ht:t<=1000) (hX0:X0.length<=900):∃e,(∃(i:Nat) (X:List Int),X.length<=X0.length+42/\(e=⟨eH t i,nHA bs q X L,1107⟩\/e=⟨eH t i,nHB bs q X L,1108⟩))/\
  vbt (T (d+3)) vad [3,4,5,6,10000,10001] vcr ⟨sH t 0,nHA bs q X0 L,7⟩=some (.ext 1,e):=by
 refine ve5 (λr w=>∃(i:Nat) (X:List Int),i+r=42/\X.length<=X0.length+i/\(w=⟨sH t i,nHA bs q X L,7⟩\/w=⟨sH t i,nHB bs q X L,8⟩)) 1 _ (m:=42) (vbc zo) ⟨0,X0,zo,zo,.inl rfl⟩ ?_
 rintro r w hr ⟨i,X,hi,hX,hw'⟩
 have e1:Int.tmod (t:Int) 3=((t%3:Nat):Int):=(Int.ofNat_tmod t 3).symm;have e2:Ac.wrap (39+((t%3:Nat):Int))=39+((t%3:Nat):Int):=by rw [vau]<;>omega
 have e3:Ac.wrap ((t%3:Nat):Int)=((t%3:Nat):Int):=by rw [vau]<;>omega
 have hw:=va0 i zo;by_cases c1:(i:Int)<42
 ·by_cases c2:(X.length:Int)<39+((t%3:Nat):Int)
  ·left;refine ⟨zo,⟨sH t (i+1),nHB bs q (X++ [1]) L,8⟩,?_,i+1,X++ [1],zo,by simp;omega,.inr rfl⟩;rcases hw' with rfl|rfl
   ·unfold round nHA nHB sH vcr;rw [vb5];simp -implicitDefEqProofs (disch:=try exact zd) only [go_sem,Aa,Ab,e1,e2,e3,c1,c2,hw]
    (show some _=some _;kernel_rfl)
   ·unfold round nHB sH vcr;rw [vb5];simp -implicitDefEqProofs (disch:=try exact zd) only [go_sem,Aa,Ab,e1,e2,e3,c1,c2,hw]
    (show some _=some _;kernel_rfl)
  ·right;rcases hw' with rfl|rfl
   ·refine ⟨_,?_,i,X,zo,.inl rfl⟩;unfold round nHA sH eH vcr;simp -implicitDefEqProofs (disch:=try exact zd) only [go_sem,Aa,Ab,e1,e2,e3,c1,c2]
   ·refine ⟨_,?_,i,X,zo,.inr rfl⟩;unfold round nHB sH eH vcr;simp -implicitDefEqProofs (disch:=try exact zd) only [go_sem,Aa,Ab,e1,e2,e3,c1,c2]
 ·right;rcases hw' with rfl|rfl
  ·refine ⟨_,?_,i,X,zo,.inl rfl⟩;unfold round nHA sH eH vcr;simp -implicitDefEqProofs (disch:=try exact zd) only [go_sem,Aa,Ab,e1,e2,e3,c1]
  ·refine ⟨_,?_,i,X,zo,.inr rfl⟩;unfold round nHB sH eH vcr;simp -implicitDefEqProofs (disch:=try exact zd) only [go_sem,Aa,Ab,e1,e2,e3,c1]
structure Near (g h:Gr):Prop where
 roots:h.roots.length<=g.roots.length+42
 nodes:h.nodes.length=g.nodes.length
 vals:∀M,(∀o∈g.nodes,o.vals.length<=M)->∀o∈h.nodes,o.vals.length<=M+1
theorem Near.set {g:Gr} {t:Nat} {o:Obj'} (o':Obj') (ho:g.nodes[t]? =some o) (h:o'.vals.length<=o.vals.length+1):Near g ⟨g.roots,g.nodes.set t o'⟩:=by
 refine ⟨by show g.roots.length<=_;omega,Al,λM hM x hx=> ?_⟩;rcases List.mem_or_eq_of_mem_set hx with hx|rfl
 ·have:=hM x hx;omega
 ·have:=hM o (Ah ho);omega
theorem vz1 {d:Nat} {bs:List Nat} (hb:Bs bs) {g:Gr} (hn:1<=g.nodes.length/\g.nodes.length<=1000) (hr:g.roots.length<=900) (hv:∀o∈g.nodes,1<=o.vals.length/\o.vals.length<=1000) {p:Nat} (hp:p<=bs.length):∃(h:Gr) (q:Nat),Near g h/\q<=bs.length/\
  vag (T (d+4)) vad vbx [cRd bs p,cGr false g]=some ([cGr false h],[cRd bs q,.st [.un,.un]]):=by
 obtain ⟨t,q,ht,hq,he⟩:=vb0 (d:=d+2) hb hp g.nodes.length zo zo;obtain ⟨u,q1,hu,hq1,he1⟩:=vb0 (d:=d+2) hb hq 24 zo zo;obtain ⟨o,ho⟩:∃o,g.nodes[t]? =some o:=⟨_,Ad zo⟩
 have htl:t<g.nodes.length:=zo
 have near:Near g g:=⟨zo,rfl,λM hM x hx=>by have:=hM x hx;omega⟩
 obtain ⟨hov,hov2⟩:=hv o (Ah ho);obtain ⟨x0,hx0⟩:∃x,o.vals[Int.toNat 0]? =some x:=⟨_,Ad (show 0<_ by omega)⟩
 have hgt:(Ak eObj g.nodes).length=g.nodes.length:=List.length_map ..;have hgs:∀x:PV,((Ak eObj g.nodes).set t x)[t]? =some x:=λx=>List.getElem?_set_self zo;obtain rfl|rfl|rfl|rfl|rfl|rfl|h6:u=0\/u=1\/u=2\/u=3\/u=4\/u=5\/6<=u:=zo
 ·
  obtain ⟨v,q2,hv0,hv1,hq2,he2⟩:=vhs (d:=d) hb hq1 0 g.nodes.length zo zo zo;refine ⟨⟨g.roots++ [v],g.nodes⟩,q2,⟨by simp,rfl,near.vals⟩,hq2,?_⟩;unfold cGr;rw [vb5,vab rfl];simp -implicitDefEqProofs (disch:=try exact zd) only [go_sem,Aa,Ab,vbx,vcu,he,he1,he2]
 ·
  obtain ⟨v,q2,hv0,hv1,hq2,he2⟩:=vhs (d:=d) hb hq1 0 2 zo zo zo;refine ⟨⟨g.roots,g.nodes.set t ⟨v,o.vals⟩⟩,q2,Near.set _ ho (by show o.vals.length<=_;omega),hq2,?_⟩;unfold cGr;rw [Ag,vab rfl];simp -implicitDefEqProofs (disch:=try exact zd) only [go_sem,Aa,Ab,vbx,vcu,he,he1,he2,ho]
 ·
  refine ⟨⟨g.roots,g.nodes.set t ⟨o.ty,o.vals++ [1]⟩⟩,q1,Near.set _ ho (by simp),hq1,?_⟩;unfold cGr;rw [Ag,vab rfl,vkc,vb5];simp -implicitDefEqProofs (disch:=try exact zd) only [go_sem,Aa,Ab,vbx,vcu,he,he1,ho,hgs,List.set_set]
 ·
  obtain ⟨v,q2,hv0,hv1,hq2,he2⟩:=vhs (d:=d) hb hq1 0 g.nodes.length zo zo zo;refine ⟨⟨g.roots,g.nodes.set t ⟨o.ty,o.vals.set 0 v⟩⟩,q2,Near.set _ ho (by simp),hq2,?_⟩;unfold cGr;rw [Ag,vab rfl,vkc,Ag];simp -implicitDefEqProofs (disch:=try exact zd) only [go_sem,Aa,Ab,vbx,vcu,he,he1,he2,ho,hx0];rfl
 ·
  obtain ⟨v,q2,hv0,hv1,hq2,he2⟩:=vhs (d:=d) hb hq1 (-999999999999999) 999999999999999 zo zo zo;refine ⟨⟨g.roots,g.nodes.set t ⟨o.ty,o.vals.set 0 v⟩⟩,q2,Near.set _ ho (by simp),hq2,?_⟩;unfold cGr;rw [Ag,vab rfl,vkc,Ag];simp -implicitDefEqProofs (disch:=try exact zd) only [go_sem,Aa,Ab,vbx,vcu,he,he1,he2,ho,hx0];rfl
 ·
  obtain ⟨_,⟨i,X,hX,hor⟩,key⟩:=qrt (d:=d+1) bs q1 t g.roots g.nodes zo hr;unfold nHA sH at key;refine ⟨⟨X,g.nodes⟩,q1,⟨hX,rfl,near.vals⟩,hq1,?_⟩;rw [vab rfl];rcases hor with rfl|rfl
  ·simp -implicitDefEqProofs (disch:=try exact zd) only [go_sem,Aa,Ab,vbx,vcu,he,he1,vaw key]
  ·simp -implicitDefEqProofs (disch:=try exact zd) only [go_sem,Aa,Ab,vbx,vcu,he,he1,vaw key]
 ·
  have h0:(u:Int)≠0:=zo
  have h1:(u:Int)≠1:=zo
  have h2:(u:Int)≠2:=zo
  have h3:(u:Int)≠3:=zo
  have h4:(u:Int)≠4:=zo
  have h5:(u:Int)≠5:=zo
  refine ⟨g,q1,near,hq1,?_⟩;rw [vab rfl];simp -implicitDefEqProofs (disch:=try exact zd) only [go_sem,Aa,Ab,vbx,vcu,he,he1,h0,h1,h2,h3,h4,h5]
