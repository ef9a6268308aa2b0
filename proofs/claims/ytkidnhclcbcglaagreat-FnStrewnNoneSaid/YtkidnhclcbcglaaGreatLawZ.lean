/- Drawn images, and acts that mostly fit them. Drawn places among acts. Drawn acts and places. -/
import Derived.Test.YtkidnhclcbcglaaGreatLawY
import Derived.Test.YtkidnhclcbcglaaGreatLawAct0
open Nat renaming reduceAdd->Aa,reduceBEq->Ab
open List renaming map_cons->Ac,map_nil->Ad,mem_cons->Ae
namespace Go.Proofs.YtkidnhclcbcglaaGreat.VM
open Go Sy
variable {Φ:Nat→Option Callee} {N:Nat}
set_option maxRecDepth 100000
set_option maxHeartbeats 8000000
theorem qmf {d:Nat} {bs:List Nat} (hb:Bs bs) {p:Nat} (hp:p≤bs.length):∃(t:ByteArray) (q:Nat),t.size≤8193∧q≤bs.length∧
  vaf (T (d+11)) vad ven [cRd bs p]=some ([.a (.string t)],[cRd bs q]):=by
 obtain ⟨c,q1,hC,hD,hq1,h1⟩:=qi9 (d:=d+6) hb hp;obtain ⟨o,q2,hq2,h2⟩:=vce (d:=d+8) hb hq1 2 zo zo;cases o with
 |true=>
  have h3:=vth (d:=d+6) hC.sm;have hz:=vqn hC.okb;have hl:=hC.l1;refine ⟨vhl c,q2,by omega,hq2,?_⟩;rw [vag rfl];generalize vhl c=im at *;obtain ⟨L,G,Y,ts⟩:=c;dsimp only at *;simp -implicitDefEqProofs (disch:=first|exact zd|fail) only [go_sem,Aa,Ab,ven,vlw,h1,h2,h3]
 |false=>
  obtain ⟨t,q3,ht,hq3,h3⟩:=qpq (d:=d) hb hq2 hC hD;refine ⟨t,q3,ht,hq3,?_⟩;rw [vag rfl];obtain ⟨L,G,Y,ts⟩:=c;dsimp only at *;simp -implicitDefEqProofs (disch:=first|exact zd|fail) only [go_sem,Aa,Ab,ven,vlw,h1,h2,h3]
theorem qq7 {s:ByteArray} {k:Nat} (h:bAt s k=114):refAt s k=true:=by
 unfold refAt;unfold bAt at h;cases hb:(ch s)[k]? with
 |none=>rw [hb] at h;exact absurd h (by decide)
 |some b=>
  rw [hb,Option.getD_some] at h;exact decide_eq_true zo
theorem Wok.dur {ts:List ByteArray} {g:Gr} (h:graphOk ts g=true) (h8:g.roots.length=8) (hn:g.nodes.length≤128):Wok ts 200 (w0 g):=by
 unfold graphOk at h;simp only [Bool.and_eq_true,decide_eq_true_eq,List.all_eq_true] at h;obtain ⟨_,_,_,hr,ho⟩:=h;have rin:Rin g.nodes.length g.roots:=fun x hx=>by have:=hr x hx;unfold isN at this;exact of_decide_eq_true this
 refine ⟨by show g.nodes.length≤200;omega,by omega,fun o hx=> ?_,by show (List.replicate _ _).length=_;simp,h8,rin,rfl,fun x hx=>by rw [(List.mem_replicate.1 hx).2];omega,fun _ h=>(by cases h),by simp,fun h=>(by cases h),fun _ h=>(by cases h),by simp⟩;have h1:=ho o hx;unfold objOk at h1;split at h1
 ·rename_i s hs;simp only [Bool.and_eq_true,decide_eq_true_eq] at h1;obtain ⟨h2,h3,h4⟩:=h1;refine ⟨s,hs,h2,h3,fun j v hv hb=> ?_⟩;have h5:=vtm.1 h4 j v hv;rw [Nat.zero_add] at h5;have hra:refAt s j=true:=qq7 hb;unfold badV at h5;rw [hra,Bool.true_and,Bool.not_eq_false'] at h5;unfold isN at h5;exact of_decide_eq_true h5
 ·cases h1
theorem qq5:CfSm noCf:=⟨⟨by show (-9223372036854775000:Int)≤0;omega,by show (0:Int)≤9223372036854775000;omega⟩,Nat.zero_le _,fun s hs=>(by cases hs)⟩
abbrev cLit:Cf:=⟨20,6,24,[⟨#[105,114]⟩,⟨#[114,114,105]⟩]⟩
theorem qtu:CfSm cLit:=⟨⟨by show (-9223372036854775000:Int)≤20;omega,by show (20:Int)≤9223372036854775000;omega⟩,by show 2≤1048576;omega,fun s hs=>by rcases Ae.1 hs with rfl|hs;(show 2≤1048576;omega);rcases Ae.1 hs with rfl|hs;(show 3≤1048576;omega);cases hs⟩
theorem qrg:confOk cLit=true:=by kernel_rfl
theorem qrm:cCf true cLit= .st [.a (.int .i64 20),.a (.int .i64 6),.a (.int .i64 24),.sl true va9 [.a (.string ⟨#[105,114]⟩),.a (.string ⟨#[114,114,105]⟩)]]:=rfl
theorem qjp {d:Nat}:∃im:ByteArray,vaf (T (d+4)) vad vf4 [.st [.a (.int .i64 20),.a (.int .i64 6),.a (.int .i64 24),.sl true va9 [.a (.string ⟨#[105,114]⟩),.a (.string ⟨#[114,114,105]⟩)]]]=some ([.a (.string im)],[])∧im.size=1280:=by
 have h1:=vth (d:=d) qtu;have h2:=vqn qrg;rw [qrm] at h1;generalize vhl cLit=im at h1 h2;exact ⟨im,h1,h2⟩
theorem qoe {d:Nat} {bs:List Nat} (hb:Bs bs) {p:Nat} (hp:p≤bs.length) (most:Nat) (hm:most≤100):∃(t:ByteArray) (l:List Act') (q:Nat),Kp l∧1≤l.length∧l.length≤most+5∧q≤bs.length∧
  vaf (T (d+12)) vad vbj [cRd bs p,.a (.int .i64 (most:Nat))]=some ([.a (.string t),.sl false vak (l.map va3)],[cRd bs q]):=by
 obtain ⟨im,q1,him,hq1,h1⟩:=qmf (d:=d) hb hp;have h2:=qf8 (d:=d+2) im zo;obtain ⟨o,q2,hq2,h3⟩:=vce (d:=d+9) hb hq1 8 zo zo;obtain ⟨imF,hF,hFz⟩:=qjp (d:=d+7);obtain ⟨im2,q,him2,hq,hA⟩:∃(im2:ByteArray) (q:Nat),im2.size≤8193∧q≤bs.length∧((¬checked im≠0∧im2=im∧q=q1)∨(checked im≠0∧o=true∧im2=im∧q=q2)∨(checked im≠0∧o=false∧im2=imF∧q=q2)):=by
  by_cases c0:checked im≠0
  ·cases o
   ·exact ⟨imF,q2,by omega,hq2,.inr (.inr ⟨c0,rfl,rfl,rfl⟩)⟩
   ·exact ⟨im,q2,him,hq2,.inr (.inl ⟨c0,rfl,rfl,rfl⟩)⟩
  ·exact ⟨im,q1,him,hq1,.inl ⟨c0,rfl,rfl⟩⟩
 have h4:=vro (d:=d+5) im2 zo;obtain ⟨c,hc⟩:∃c,(confOf im2).getD noCf=c:=⟨_,rfl⟩
 have hcs:CfSm c:=by
  subst hc;cases hx:confOf im2 with
  |none=>exact qq5
  |some c=>exact (vse hx).2.1
 have h5:=qc5 (d:=d+2) hcs im2;generalize (confOf im2).isSome=ok at h4;rw [hc] at h4;clear hc;generalize hch:checked im=ch at *;have ty:∀g,durOf c im2=some g→Ty23 c.types∧Wok c.types 200 (w0 g):=fun g hg=>by
  obtain ⟨hC,h1,h2,h3⟩:=qn2 hg;exact ⟨⟨hC.n0,by have:=hC.n1;omega,fun s hs=>(hC.ty s hs).2⟩,Wok.dur h1 h2 h3⟩
 generalize durOf c im2=du at *;cases du with
 |none=>
  refine ⟨im2,[⟨1,0,0,0,-1,[]⟩],q,fun y hy=>by simp at hy;subst hy;simp,by simp,by simp,hq,?_⟩;rw [Option.getD_none,Option.isSome_none] at h5;rw [vag rfl];clear ty;cases ok
  ·skip
   clear hcs;obtain ⟨L,G,Y,ts⟩:=c;rcases hA with ⟨c0,rfl,rfl⟩|⟨c0,rfl,rfl,rfl⟩|⟨c0,rfl,rfl,rfl⟩
   ·simp -implicitDefEqProofs (disch:=first|exact zd|fail) only [go_sem,Aa,Ab,vbj,vby,h1,h2,c0,h4,h5,Ac,Ad]
   ·simp -implicitDefEqProofs (disch:=first|exact zd|fail) only [go_sem,Aa,Ab,vbj,vby,h1,h2,c0,h3,h4,h5,Ac,Ad]
   ·simp -implicitDefEqProofs (disch:=first|exact zd|fail) only [go_sem,Aa,Ab,vbj,vby,h1,h2,c0,h3,hF,h4,h5,Ac,Ad]
  ·skip
   clear hcs;obtain ⟨L,G,Y,ts⟩:=c;rcases hA with ⟨c0,rfl,rfl⟩|⟨c0,rfl,rfl,rfl⟩|⟨c0,rfl,rfl,rfl⟩
   ·simp -implicitDefEqProofs (disch:=first|exact zd|fail) only [go_sem,Aa,Ab,vbj,vby,h1,h2,c0,h4,h5,Ac,Ad]
   ·simp -implicitDefEqProofs (disch:=first|exact zd|fail) only [go_sem,Aa,Ab,vbj,vby,h1,h2,c0,h3,h4,h5,Ac,Ad]
   ·simp -implicitDefEqProofs (disch:=first|exact zd|fail) only [go_sem,Aa,Ab,vbj,vby,h1,h2,c0,h3,hF,h4,h5,Ac,Ad]
 |some g=>
  rw [Option.getD_some,Option.isSome_some] at h5;obtain ⟨hT,I⟩:=ty g rfl;clear ty;cases ok with
  |false=>
   refine ⟨im2,[⟨1,0,0,0,-1,[]⟩],q,fun y hy=>by simp at hy;subst hy;simp,by simp,by simp,hq,?_⟩;rw [vag rfl];clear hT I;obtain ⟨rs,ns⟩:=g;clear hcs;obtain ⟨L,G,Y,ts⟩:=c;rcases hA with ⟨c0,rfl,rfl⟩|⟨c0,rfl,rfl,rfl⟩|⟨c0,rfl,rfl,rfl⟩
   ·simp -implicitDefEqProofs (disch:=first|exact zd|fail) only [go_sem,Aa,Ab,vbj,vby,h1,h2,c0,h4,h5,Ac,Ad]
   ·simp -implicitDefEqProofs (disch:=first|exact zd|fail) only [go_sem,Aa,Ab,vbj,vby,h1,h2,c0,h3,h4,h5,Ac,Ad]
   ·simp -implicitDefEqProofs (disch:=first|exact zd|fail) only [go_sem,Aa,Ab,vbj,vby,h1,h2,c0,h3,hF,h4,h5,Ac,Ad]
  |true=>
   obtain ⟨o2,q3,hq3,h6⟩:=vce (d:=d+9) hb hq 3 zo zo;cases o2 with
   |true=>
    obtain ⟨l,q4,hK,hl1,hl2,hq4,h7⟩:=qo9 (d:=d+4) hb hq3 hT I most hm;refine ⟨im2,l,q4,hK,hl1,by omega,hq4,?_⟩;rw [vag rfl];clear hT I;obtain ⟨rs,ns⟩:=g;clear hcs;obtain ⟨L,G,Y,ts⟩:=c;dsimp only at *;rcases hA with ⟨c0,rfl,rfl⟩|⟨c0,rfl,rfl,rfl⟩|⟨c0,rfl,rfl,rfl⟩
    ·simp -implicitDefEqProofs (disch:=first|exact zd|fail) only [go_sem,Aa,Ab,vbj,vby,h1,h2,c0,h4,h5,h6,h7]
    ·simp -implicitDefEqProofs (disch:=first|exact zd|fail) only [go_sem,Aa,Ab,vbj,vby,h1,h2,c0,h3,h4,h5,h6,h7]
    ·simp -implicitDefEqProofs (disch:=first|exact zd|fail) only [go_sem,Aa,Ab,vbj,vby,h1,h2,c0,h3,hF,h4,h5,h6,h7]
   |false=>
    obtain ⟨l,q4,hK,hl1,hl2,hq4,h7⟩:=qm4 (d:=d+4) hb hq3 hT I most hm;refine ⟨im2,l,q4,hK,hl1,by omega,hq4,?_⟩;rw [vag rfl];clear hT I;obtain ⟨rs,ns⟩:=g;clear hcs;obtain ⟨L,G,Y,ts⟩:=c;dsimp only at *;rcases hA with ⟨c0,rfl,rfl⟩|⟨c0,rfl,rfl,rfl⟩|⟨c0,rfl,rfl,rfl⟩
    ·simp -implicitDefEqProofs (disch:=first|exact zd|fail) only [go_sem,Aa,Ab,vbj,vby,h1,h2,c0,h4,h5,h6,h7]
    ·simp -implicitDefEqProofs (disch:=first|exact zd|fail) only [go_sem,Aa,Ab,vbj,vby,h1,h2,c0,h3,h4,h5,h6,h7]
    ·simp -implicitDefEqProofs (disch:=first|exact zd|fail) only [go_sem,Aa,Ab,vbj,vby,h1,h2,c0,h3,hF,h4,h5,h6,h7]
theorem qyk (l:List Strew):nfzL (l.map vl1)=true:=vpc (fun _=>rfl) l
attribute [go_sem] qyk
