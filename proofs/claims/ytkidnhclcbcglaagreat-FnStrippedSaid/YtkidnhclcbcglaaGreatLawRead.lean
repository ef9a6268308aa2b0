/- The reader of drawn bytes: what it yields lies in its range, and it stays in its bytes. -/
import Derived.Test.YtkidnhclcbcglaaGreatLawT
import Derived.Test.YtkidnhclcbcglaaGreatCode
namespace Go.Proofs.YtkidnhclcbcglaaGreat.VM
open Go Sy
variable {Φ:Nat→Option Callee} {N:Nat}
set_option maxRecDepth 100000
set_option maxHeartbeats 8000000
def eU8 (x:Nat):PV:= .a (.int .u8 x)
theorem qwd (x:Nat):eU8 x= .a (.int .u8 x):=rfl
attribute [go_sem] qwd
structure Bs (bs:List Nat):Prop where
 len:bs.length≤1048576
 lt:∀x∈bs,x<256
theorem vt9 {bs:List Nat} (hb:Bs bs) {p:Nat} (hp:p≤bs.length):∃(v q:Nat),v<256∧q≤bs.length∧
  vaf Φ N ve7 [.bx false [.sl true vcg (bs.map eU8),.a (.int .i64 p)]]=some ([.a (.int .i64 v)],[.bx false [.sl true vcg (bs.map eU8),.a (.int .i64 q)]]):=by
 have hl:=hb.len
 by_cases h:p<bs.length
 ·obtain ⟨a,ha⟩:∃a,bs[p]? =some a:=⟨_,List.getElem?_eq_getElem h⟩
  have h256:=hb.lt a (List.mem_of_getElem? ha)
  have hw:=var p zo
  have hw2:IntKind.i64.wrap (((p+1:Nat):Int)-1)=p:=by rw [vai]<;>omega
  have hw3:IntKind.i64.wrap (a:Int)=a:=by rw [vai]<;>omega
  have hc:¬(p:Int)≥bs.length:=by omega
  refine ⟨a,p+1,h256,h,?_⟩
  rw [vag rfl]
  simp (implicitDefEqProofs:=false) (disch:=first|exact zd|fail) only [go_sem,Nat.reduceAdd,Nat.reduceBEq,ve7,vm7,ha,hw,hw2,hw3,hc]
 ·have hc:(p:Int)≥bs.length:=by omega
  refine ⟨0,p,by omega,hp,?_⟩
  rw [vag rfl]
  simp (implicitDefEqProofs:=false) (disch:=first|exact zd|fail) only [go_sem,Nat.reduceAdd,Nat.reduceBEq,ve7,vm7,hc]
  (show some _=some _;kernel_rfl)
theorem vhb {d:Nat} {bs:List Nat} (hb:Bs bs) {p:Nat} (hp:p≤bs.length) (n:Nat) (hn:n<9223372036854775808):∃(v q:Nat),(v<n∨v=0)∧q≤bs.length∧
  vaf (T (d+1)) vab vc4 [.bx false [.sl true vcg (bs.map eU8),.a (.int .i64 p)],.a (.int .i64 n)]=some ([.a (.int .i64 v)],[.bx false [.sl true vcg (bs.map eU8),.a (.int .i64 q)]]):=by
 by_cases h1:(n:Int)≤1
 ·refine ⟨0,p,.inr rfl,hp,?_⟩
  rw [vag rfl]
  simp (implicitDefEqProofs:=false) (disch:=first|exact zd|fail) only [go_sem,Nat.reduceAdd,Nat.reduceBEq,vc4,vju,h1]
  (show some _=some _;kernel_rfl)
 ·by_cases h2:(n:Int)≤256
  ·obtain ⟨v,q,hv,hq,he⟩:=vt9 (Φ:=T d) (N:=vab) hb hp
   have h0:(n:Int)≠0:=by omega
   have hm:Int.tmod (v:Int) (n:Int)=((v%n:Nat):Int):=(Int.ofNat_tmod v n).symm
   refine ⟨v%n,q,.inl (Nat.mod_lt _ zo),hq,?_⟩
   rw [vag rfl]
   simp (implicitDefEqProofs:=false) (disch:=first|exact zd|fail) only [go_sem,Nat.reduceAdd,Nat.reduceBEq,vc4,vju,h1,h2,he,h0,hm]
  ·obtain ⟨v,q,hv,hq,he⟩:=vt9 (Φ:=T d) (N:=vab) hb hp
   obtain ⟨v',q',hv',hq',he'⟩:=vt9 (Φ:=T d) (N:=vab) hb hq
   have h0:(n:Int)≠0:=by omega
   have hw:IntKind.i64.wrap ((v:Int) * 256)=((v * 256:Nat):Int):=by rw [vai]<;>omega
   have hw':IntKind.i64.wrap (((v * 256:Nat):Int)+(v':Int))=((v * 256+v':Nat):Int):=by rw [vai]<;>omega
   have hm:Int.tmod ((v * 256+v':Nat):Int) (n:Int)=(((v * 256+v')%n:Nat):Int):=(Int.ofNat_tmod _ n).symm
   refine ⟨(v * 256+v')%n,q',.inl (Nat.mod_lt _ zo),hq',?_⟩
   rw [vag rfl]
   simp (implicitDefEqProofs:=false) (disch:=first|exact zd|fail) only [go_sem,Nat.reduceAdd,Nat.reduceBEq,vc4,vju,h1,h2,he,he',h0,hm,hw,hw']
theorem qm7 {d:Nat} {bs:List Nat} (hb:Bs bs) {p:Nat} (hp:p≤bs.length) (n:Nat) (hn:n<9223372036854775808):∃(v:Bool) (q:Nat),q≤bs.length∧
  vaf (T (d+2)) vab vb8 [.bx false [.sl true vcg (bs.map eU8),.a (.int .i64 p)],.a (.int .i64 n)]=some ([.a (.bool v)],[.bx false [.sl true vcg (bs.map eU8),.a (.int .i64 q)]]):=by
 obtain ⟨v,q,hv,hq,he⟩:=vhb (d:=d) hb hp n hn
 refine ⟨decide ((v:Int)=IntKind.i64.wrap ((n:Int)-1)),q,hq,?_⟩
 rw [vag rfl]
 simp (implicitDefEqProofs:=false) (disch:=first|exact zd|fail) only [go_sem,Nat.reduceAdd,Nat.reduceBEq,vb8,vru,he]
theorem va6 {d:Nat} {bs:List Nat} (hb:Bs bs) {p:Nat} (hp:p≤bs.length) (n:Int) (h0:0≤n) (hn:n<9223372036854775808):∃(v q:Nat),((v:Int)<n∨v=0)∧q≤bs.length∧
  vaf (T (d+1)) vab vc4 [.bx false [.sl true vcg (bs.map eU8),.a (.int .i64 p)],.a (.int .i64 n)]=some ([.a (.int .i64 v)],[.bx false [.sl true vcg (bs.map eU8),.a (.int .i64 q)]]):=by
 obtain ⟨k,rfl⟩:=Int.eq_ofNat_of_zero_le h0
 obtain ⟨v,q,h1,h2,h3⟩:=vhb (d:=d) hb hp k zo
 exact ⟨v,q,by omega,h2,h3⟩
theorem vcy {d:Nat} {bs:List Nat} (hb:Bs bs) {p:Nat} (hp:p≤bs.length) (n:Int) (h0:0≤n) (hn:n<9223372036854775808):∃(v:Bool) (q:Nat),q≤bs.length∧
  vaf (T (d+2)) vab vb8 [.bx false [.sl true vcg (bs.map eU8),.a (.int .i64 p)],.a (.int .i64 n)]=some ([.a (.bool v)],[.bx false [.sl true vcg (bs.map eU8),.a (.int .i64 q)]]):=by
 obtain ⟨k,rfl⟩:=Int.eq_ofNat_of_zero_le h0
 exact qm7 (d:=d) hb hp k zo
theorem qem (x:Int):∃n:Nat,n<18446744073709551616∧IntKind.u64.wrap x=(n:Int):=by
 refine ⟨(IntKind.u64.wrap x).toNat,?_⟩
 unfold IntKind.wrap
 simp [IntKind.bits,IntKind.signed]
 omega
theorem qmm {d:Nat} {bs:List Nat} (hb:Bs bs) {p:Nat} (hp:p≤bs.length) (r:List It):∃(v q:Nat),v<18446744073709551616∧q≤bs.length∧
  goP (T (d+1)) vab [0,3,4,10000] vgl r ⟨[(0,.rf 0),(3,.a (.int .u64 0)),(4,.a (.int .i64 0)),(10000,.rf 0)],[(0,some (.bx false [.sz vcg (bs.map eU8),.a (.int .i64 p)]))],1⟩=
  goE (T (d+1)) vab r 0 [(0,.rf 0),(3,.a (.int .u64 v)),(4,.a (.int .i64 8)),(6,.a (.bool false)),(10000,.rf 0)] [(0,some (.bx false [.sz vcg (bs.map eU8),.a (.int .i64 q)]))] 201:=by
 refine (vrz (Φ:=T (d+1)) (N:=vab) (live:= [0,3,4,10000]) (b:=vgl) (r:=r) (m:=8)
  (fun k s=>∃(v q i:Nat),v<18446744073709551616∧q≤bs.length∧i+k=8∧s=⟨[(0,.rf 0),(3,.a (.int .u64 v)),(4,.a (.int .i64 i)),(10000,.rf 0)],[(0,some (.bx false [.sz vcg (bs.map eU8),.a (.int .i64 q)]))],1⟩)
  (fun o e=>∃(v q:Nat),v<18446744073709551616∧q≤bs.length∧o= .ext 0∧e=⟨[(0,.rf 0),(3,.a (.int .u64 v)),(4,.a (.int .i64 8)),(6,.a (.bool false)),(10000,.rf 0)],[(0,some (.bx false [.sz vcg (bs.map eU8),.a (.int .i64 q)]))],201⟩)
  (vaw zo) ⟨0,p,0,by omega,hp,rfl,rfl⟩ ?_).elim fun o ⟨e,he,ho,hr⟩=> ?_
 ·rintro k s-⟨v,q,i,hv,hq,hi,rfl⟩
  by_cases h:i<8
  ·left
   obtain ⟨u,q',hu,hq',he⟩:=vt9 (Φ:=T d) (N:=vab) hb hq
   have hw:=var i zo
   have h8:(i:Int)<8:=by omega
   obtain ⟨v',hv',ev⟩:∃n:Nat,n<18446744073709551616∧iOr .u64 (IntKind.u64.wrap (v * 2^(min (Int.toNat 8) 64))) (IntKind.u64.wrap (u:Int))=n:=qem _
   refine ⟨7-i,⟨[(0,.rf 0),(3,.a (.int .u64 v')),(4,.a (.int .i64 ((i+1:Nat):Int))),(10000,.rf 0)],[(0,some (.bx false [.sz vcg (bs.map eU8),.a (.int .i64 q')]))],1⟩,by omega,?_,v',q',i+1,hv',hq',by omega,rfl⟩
   unfold round vgl
   simp (implicitDefEqProofs:=false) (disch:=first|exact zd|fail) only [go_sem,Nat.reduceAdd,Nat.reduceBEq,he,hw,h8,ev]
   (show some _=some _;kernel_rfl)
  ·right
   have h8:i=8:=by omega
   subst h8
   refine ⟨.ext 0,_,by simp,?_,v,q,hv,hq,rfl,rfl⟩
   unfold round vgl
   simp (implicitDefEqProofs:=false) (disch:=first|exact zd|fail) only [go_sem,Nat.reduceAdd,Nat.reduceBEq]
   (show some _=some _;kernel_rfl)
 ·obtain ⟨v,q,h1,h2,rfl,rfl⟩:=he
  exact ⟨v,q,h1,h2,hr⟩
theorem qrj {d:Nat} {bs:List Nat} (hb:Bs bs) {p:Nat} (hp:p≤bs.length):∃(v q:Nat),v<18446744073709551616∧q≤bs.length∧
  vaf (T (d+1)) vab vg1 [.bx false [.sl true vcg (bs.map eU8),.a (.int .i64 p)]]=some ([.a (.int .u64 v)],[.bx false [.sl true vcg (bs.map eU8),.a (.int .i64 q)]]):=by
 have key:=fun r=>qmm (d:=d) hb hp r
 rw [vag rfl]
 simp (implicitDefEqProofs:=false) (disch:=first|exact zd|fail) only [go_sem,Nat.reduceAdd,Nat.reduceBEq,vg1,vr9]
 rw [show norm _ _=(⟨[(0,.rf 0),(3,.a (.int .u64 0)),(4,.a (.int .i64 0)),(10000,.rf 0)],[(0,some (.bx false [.sz vcg (bs.map eU8),.a (.int .i64 p)]))],1⟩:St) from rfl]
 obtain ⟨v,q,hv,hq,he⟩:=key _
 refine ⟨v,q,hv,hq,?_⟩
 rw [he]
 simp (implicitDefEqProofs:=false) (disch:=first|exact zd|fail) only [go_sem,Nat.reduceAdd,Nat.reduceBEq]
theorem vie (x:Int) (h0:0≤x) (h1:x<18446744073709551616):IntKind.u64.wrap x=x:=by
 unfold IntKind.wrap
 simp [IntKind.bits,IntKind.signed]
 omega
theorem qrl {d:Nat} {bs:List Nat} (hb:Bs bs) {p:Nat} (hp:p≤bs.length) (lo hi:Int) (h0: -2305843009213693952≤lo) (h1:lo≤hi) (h2:hi≤2305843009213693952):∃(v:Int) (q:Nat),lo≤v∧v≤hi∧q≤bs.length∧
  vaf (T (d+2)) vab vd4 [.bx false [.sl true vcg (bs.map eU8),.a (.int .i64 p)],.a (.int .i64 lo),.a (.int .i64 hi)]=some ([.a (.int .i64 v)],[.bx false [.sl true vcg (bs.map eU8),.a (.int .i64 q)]]):=by
 obtain ⟨v,q,hv,hq,he⟩:=va6 (d:=d) hb hp 8 zo zo
 obtain ⟨u,q',hu,hq',he'⟩:=qrj (d:=d) hb hq
 have hlt:¬hi<lo:=by omega
 have w1:IntKind.i64.wrap (hi-lo)=hi-lo:=by rw [vai]<;>omega
 have w2:IntKind.i64.wrap (hi-lo+1)=hi-lo+1:=by rw [vai]<;>omega
 have w3:IntKind.u64.wrap (hi-lo+1)=hi-lo+1:=by rw [vie]<;>omega
 have hne:hi-lo+1≠0:=by omega
 obtain ⟨m,hm0,hm1,hm⟩:∃m:Int,0≤m∧m<hi-lo+1∧Int.tmod (Int.fdiv (u:Int) (2^min (Int.toNat 1) 64)) (hi-lo+1)=m:=by
  have hf:0≤Int.fdiv (u:Int) (2^min (Int.toNat 1) 64):=Int.fdiv_nonneg zo (by decide)
  exact ⟨_,Int.tmod_nonneg _ hf,Int.tmod_lt_of_pos _ zo,rfl⟩
 have w4:IntKind.i64.wrap m=m:=by rw [vai]<;>omega
 have w5:IntKind.i64.wrap (lo+m)=lo+m:=by rw [vai]<;>omega
 by_cases c0:(v:Int)=0
 ·refine ⟨lo,q,by omega,by omega,hq,?_⟩
  rw [vag rfl]
  simp (implicitDefEqProofs:=false) (disch:=first|exact zd|fail) only [go_sem,Nat.reduceAdd,Nat.reduceBEq,vd4,vkp,he,c0]
 ·by_cases c1:(v:Int)=1
  ·refine ⟨hi,q,by omega,by omega,hq,?_⟩
   rw [vag rfl]
   simp (implicitDefEqProofs:=false) (disch:=first|exact zd|fail) only [go_sem,Nat.reduceAdd,Nat.reduceBEq,vd4,vkp,he,c0,c1]
  ·refine ⟨lo+m,q',by omega,by omega,hq',?_⟩
   rw [vag rfl]
   simp (implicitDefEqProofs:=false) (disch:=first|exact zd|fail) only [go_sem,Nat.reduceAdd,Nat.reduceBEq,vd4,vkp,he,c0,c1,he',hlt,w1,w2,w3,w4,w5,hm]
theorem vio {d:Nat} {bs:List Nat} (hb:Bs bs) {p:Nat} (hp:p≤bs.length) (lo hi:Int) (h0: -2305843009213693952≤lo) (h1:lo≤hi) (h2:hi≤2305843009213693952):∃(v:Int) (q:Nat),-9223372036854775808≤v∧v<9223372036854775808∧q≤bs.length∧
  vaf (T (d+3)) vab vcx [.bx false [.sl true vcg (bs.map eU8),.a (.int .i64 p)],.a (.int .i64 lo),.a (.int .i64 hi)]=some ([.a (.int .i64 v)],[.bx false [.sl true vcg (bs.map eU8),.a (.int .i64 q)]]):=by
 obtain ⟨v,q,hq,he⟩:=vcy (d:=d) hb hp 24 zo zo
 obtain ⟨u,q1,hu,hq1,he1⟩:=va6 (d:=d+1) hb hq 4 zo zo
 obtain ⟨w,q2,hw1,hw2,hq2,he2⟩:=qrl (d:=d) hb hq lo hi h0 h1 h2
 cases v with
 |false=>
  refine ⟨w,q2,by omega,by omega,hq2,?_⟩
  rw [vag rfl]
  simp (implicitDefEqProofs:=false) (disch:=first|exact zd|fail) only [go_sem,Nat.reduceAdd,Nat.reduceBEq,vcx,vhn,he,he2]
 |true=>
  have w1:IntKind.i64.wrap (lo-1)=lo-1:=by rw [vai]<;>omega
  have w2:IntKind.i64.wrap (hi+1)=hi+1:=by rw [vai]<;>omega
  have hu4:u<4:=by omega
  match u,hu4 with
  |0,_=>
   refine ⟨lo-1,q1,by omega,by omega,hq1,?_⟩
   rw [vag rfl]
   simp (implicitDefEqProofs:=false) (disch:=first|exact zd|fail) only [go_sem,Nat.reduceAdd,Nat.reduceBEq,vcx,vhn,he,he1,w1,w2]
  |1,_=>
   refine ⟨hi+1,q1,by omega,by omega,hq1,?_⟩
   rw [vag rfl]
   simp (implicitDefEqProofs:=false) (disch:=first|exact zd|fail) only [go_sem,Nat.reduceAdd,Nat.reduceBEq,vcx,vhn,he,he1,w1,w2]
  |2,_=>
   refine ⟨-9223372036854775808,q1,by omega,by omega,hq1,?_⟩
   rw [vag rfl]
   simp (implicitDefEqProofs:=false) (disch:=first|exact zd|fail) only [go_sem,Nat.reduceAdd,Nat.reduceBEq,vcx,vhn,he,he1,w1,w2]
  |3,_=>
   refine ⟨9223372036854775807,q1,by omega,by omega,hq1,?_⟩
   rw [vag rfl]
   simp (implicitDefEqProofs:=false) (disch:=first|exact zd|fail) only [go_sem,Nat.reduceAdd,Nat.reduceBEq,vcx,vhn,he,he1,w1,w2]
theorem quu (l:List PV) (h:l.length≤9223372036854775807):vaf Φ N vlj [.sl true vcg l]=some ([.a (.bool (decide (1048576<(l.length:Int))))],[]):=by
 rw [vag rfl]
 simp (implicitDefEqProofs:=false) (disch:=first|exact zd|fail) only [go_sem,Nat.reduceAdd,Nat.reduceBEq,vlj,qab]
theorem qkf (l:List PV):vaf Φ N vhy [.sl true vcg l]=some ([.bx false [.sl true vcg l,.a (.int .i64 0)]],[]):=by
 rw [vag rfl]
 simp (implicitDefEqProofs:=false) (disch:=first|exact zd|fail) only [go_sem,Nat.reduceAdd,Nat.reduceBEq,vhy,vu1]
end Go.Proofs.YtkidnhclcbcglaaGreat.VM

