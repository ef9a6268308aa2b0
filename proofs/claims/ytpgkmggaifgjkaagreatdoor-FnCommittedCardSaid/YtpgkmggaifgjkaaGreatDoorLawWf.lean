/- Worlds of the program. -/
import Derived.Test.YtpgkmggaifgjkaaGreatDoorLawU
open Nat renaming reduceAdd->Aa,reduceBEq->Ab
open List renaming getElem?_eq_getElem->Ac,getElem?_eq_some_iff->Ad,mem_of_getElem?->Ah
open Int renaming toNat_natCast->Ae
open Option renaming getD_some->Af
open Go.IntKind renaming i64->Ag
set_option linter.all false
namespace Go.Proofs.YtpgkmggaifgjkaaGreatDoor.VM
open Go Sy
variable {Φ:Nat->Option Callee} {N:Nat}
set_option maxRecDepth 100000
set_option maxHeartbeats 8000000
theorem qp0 {ts:List ByteArray} {w:Wd} {x:Act'} {s:ByteArray} {o:Obj'} {u:Bool} (u1:usedW w x.a=true) (eo:objW w x.a=o) (ed:durW w x.a=u) (ek:kindW ts o x.b=kAt s x.b.toNat) (g3:o.vals.length=s.size):
  fldW ts w x=if x.kind=5/\x.c≠-1/\usedW w x.c=false then 2
   else if ¬(0<=x.b/\x.b<=(s.size:Int)-1) then 4
   else if ¬(x.kind=4\/x.kind=5)↔kAt s x.b.toNat=114 then 5
   else if (x.kind=3\/x.kind=5)/\w.inR=false/\u=true then 6
   else if x.kind=4/\o.vals[x.b.toNat]?.getD 0≠0/\plc0 w.hd<0 then 9 else 0:=by
 unfold fldW valW;rw [eo,ed,ek,g3,u1];simp only [Bool.true_eq_false,false_or]
theorem vxe {d:Nat} {ts:List ByteArray} {w:Wd} (x:Act') (sv:Sv) (hk:x.kind=2) {n m:Nat} {t:Nat} {vs:List Int} {s:ByteArray} {u:Bool}
  (u1:usedW w x.a=true) (hn:x.a=(n:Nat)) (hl:w.hd.length=12) (hnm:w.hd[n]? =some ((m:Int)+1)) (hm1:m<1000) (ho:w.ob[m]? =some ⟨t,vs⟩) (hdu:w.du[m]? =some u) (g1:ts[t]? =some s) (g3:vs.length=s.size) (hsz:s.size<=23):
  vag (T (d+3)) vad vav [cSit ts w,.ic vc8 (cWi true ts w sv),cAct true x]=some ([.a (.int .i64 (if ¬(0<=x.b/\x.b<=(s.size:Int)-1) then 4
   else if ¬(x.kind=4\/x.kind=5)↔kAt s x.b.toNat=114 then 5
   else if (x.kind=3\/x.kind=5)/\w.inR=false/\u=true then 6
   else if x.kind=4/\vs[x.b.toNat]?.getD 0≠0/\plc0 w.hd<0 then 9 else 0))],[]):=by
 have h1:=vc6 (d:=d+1) hl x.a;have h2:=vc6 (d:=d+1) hl x.c;rw [u1] at h1;have t1:=vk4 (d:=d+2) (ts:=ts) sv hnm ho hm1;have t2:=vii (d:=d+2) (ts:=ts) sv hnm hdu hm1;have t4:=vjt (d:=d) (ts:=ts) hl;have t5:=vha (Φ:=T (d+2)) (N:=vad) (a:=x.b) (b:=0) (c:=(s.size:Int)-1);have w1:Ag.wrap ((s.size:Int)-1)=(s.size:Int)-1:=by rw [vau]<;>omega
 have hts:=(Ad.1 g1).1;by_cases c1:0<=x.b/\x.b<=(s.size:Int)-1
 case neg=>
  rw [if_pos c1];rw [decide_eq_false c1] at t5;obtain ⟨xk,xa,xb,xc,xp,xq⟩:=x;obtain ⟨ob,du,sl,hd,ir,dm,wa,he⟩:=w;dsimp only at *;subst hk hn;cases sv<;>(simp only [cWi,vcd,vca,vb8] at t1;rw [vab rfl];simp -implicitDefEqProofs (disch:=try exact zd) only [go_sem,Aa,Ab,vav,va6,h1,g1,t1,w1,t5])
 rw [if_neg (λh=>h c1)];rw [decide_eq_true c1] at t5;obtain ⟨j,hj⟩:∃j:Nat,x.b=j:=⟨x.b.toNat,zo⟩
 have hjs:j<s.size:=zo
 have hx:=vj7 (s:=s) (j:=j) hjs;obtain ⟨v,hv⟩:∃v,vs[j]? =some v:=⟨_,Ac zo⟩
 have t3:=vhj (d:=d+2) (ts:=ts) sv hnm ho hv hm1;rw [hj,Ae,hv,Af];obtain ⟨xk,xa,xb,xc,xp,xq⟩:=x;obtain ⟨ob,du,sl,hd,ir,dm,wa,he⟩:=w;dsimp only at *;subst hk hn hj;by_cases c2:kAt s j=114
 ·have c2i:((kAt s j:Nat):Int)=114:=zo
  rw [if_pos (by simp [c2])];cases sv<;>(simp only [cWi,vcd,vca,vb8] at t1 t2 t3;rw [vab rfl];simp -implicitDefEqProofs (disch:=try exact zd) only [go_sem,Aa,Ab,vav,va6,h1,g1,t1,w1,t5,hx,c2i])
 ·have c2i:¬((kAt s j:Nat):Int)=114:=zo
  rw [if_neg (by simp [c2])];rw [if_neg (by simp),if_neg (by simp)];cases sv<;>(simp only [cWi,vcd,vca,vb8] at t1 t2 t3;rw [vab rfl];simp -implicitDefEqProofs (disch:=try exact zd) only [go_sem,Aa,Ab,vav,va6,h1,g1,t1,w1,t5,hx,c2i])
theorem vw0 {d:Nat} {ts:List ByteArray} {w:Wd} (x:Act') (sv:Sv) (hk:x.kind=3) {n m:Nat} {t:Nat} {vs:List Int} {s:ByteArray} {u:Bool}
  (u1:usedW w x.a=true) (hn:x.a=(n:Nat)) (hl:w.hd.length=12) (hnm:w.hd[n]? =some ((m:Int)+1)) (hm1:m<1000) (ho:w.ob[m]? =some ⟨t,vs⟩) (hdu:w.du[m]? =some u) (g1:ts[t]? =some s) (g3:vs.length=s.size) (hsz:s.size<=23):
  vag (T (d+3)) vad vav [cSit ts w,.ic vc8 (cWi true ts w sv),cAct true x]=some ([.a (.int .i64 (if ¬(0<=x.b/\x.b<=(s.size:Int)-1) then 4
   else if ¬(x.kind=4\/x.kind=5)↔kAt s x.b.toNat=114 then 5
   else if (x.kind=3\/x.kind=5)/\w.inR=false/\u=true then 6
   else if x.kind=4/\vs[x.b.toNat]?.getD 0≠0/\plc0 w.hd<0 then 9 else 0))],[]):=by
 have h1:=vc6 (d:=d+1) hl x.a;have h2:=vc6 (d:=d+1) hl x.c;rw [u1] at h1;have t1:=vk4 (d:=d+2) (ts:=ts) sv hnm ho hm1;have t2:=vii (d:=d+2) (ts:=ts) sv hnm hdu hm1;have t4:=vjt (d:=d) (ts:=ts) hl;have t5:=vha (Φ:=T (d+2)) (N:=vad) (a:=x.b) (b:=0) (c:=(s.size:Int)-1);have w1:Ag.wrap ((s.size:Int)-1)=(s.size:Int)-1:=by rw [vau]<;>omega
 have hts:=(Ad.1 g1).1;by_cases c1:0<=x.b/\x.b<=(s.size:Int)-1
 case neg=>
  rw [if_pos c1];rw [decide_eq_false c1] at t5;obtain ⟨xk,xa,xb,xc,xp,xq⟩:=x;obtain ⟨ob,du,sl,hd,ir,dm,wa,he⟩:=w;dsimp only at *;subst hk hn;cases sv<;>(simp only [cWi,vcd,vca,vb8] at t1;rw [vab rfl];simp -implicitDefEqProofs (disch:=try exact zd) only [go_sem,Aa,Ab,vav,va6,h1,g1,t1,w1,t5])
 rw [if_neg (λh=>h c1)];rw [decide_eq_true c1] at t5;obtain ⟨j,hj⟩:∃j:Nat,x.b=j:=⟨x.b.toNat,zo⟩
 have hjs:j<s.size:=zo
 have hx:=vj7 (s:=s) (j:=j) hjs;obtain ⟨v,hv⟩:∃v,vs[j]? =some v:=⟨_,Ac zo⟩
 have t3:=vhj (d:=d+2) (ts:=ts) sv hnm ho hv hm1;rw [hj,Ae,hv,Af];obtain ⟨xk,xa,xb,xc,xp,xq⟩:=x;obtain ⟨ob,du,sl,hd,ir,dm,wa,he⟩:=w;dsimp only at *;subst hk hn hj;by_cases c2:kAt s j=114
 ·have c2i:((kAt s j:Nat):Int)=114:=zo
  rw [if_pos (by simp [c2])];cases sv<;>(simp only [cWi,vcd,vca,vb8] at t1 t2 t3;rw [vab rfl];simp -implicitDefEqProofs (disch:=try exact zd) only [go_sem,Aa,Ab,vav,va6,h1,g1,t1,w1,t5,hx,c2i])
 ·have c2i:¬((kAt s j:Nat):Int)=114:=zo
  rw [if_neg (by simp [c2])];cases ir with
  |true=>
   rw [if_neg (by simp),if_neg (by simp)];cases sv<;>(simp only [cWi,vcd,vca,vb8] at t1 t2 t3;rw [vab rfl];simp -implicitDefEqProofs (disch:=try exact zd) only [go_sem,Aa,Ab,vav,va6,h1,g1,t1,w1,t5,hx,c2i])
  |false=>
   cases u with
   |true=>
    rw [if_pos (by simp)];cases sv<;>(simp only [cWi,vcd,vca,vb8] at t1 t2 t3;rw [vab rfl];simp -implicitDefEqProofs (disch:=try exact zd) only [go_sem,Aa,Ab,vav,va6,h1,g1,t1,w1,t5,hx,c2i,t2])
   |false=>
    rw [if_neg (by simp),if_neg (by simp)];cases sv<;>(simp only [cWi,vcd,vca,vb8] at t1 t2 t3;rw [vab rfl];simp -implicitDefEqProofs (disch:=try exact zd) only [go_sem,Aa,Ab,vav,va6,h1,g1,t1,w1,t5,hx,c2i,t2])
theorem vwo {d:Nat} {ts:List ByteArray} {w:Wd} (x:Act') (sv:Sv) (hk:x.kind=4) {n m:Nat} {t:Nat} {vs:List Int} {s:ByteArray} {u:Bool}
  (u1:usedW w x.a=true) (hn:x.a=(n:Nat)) (hl:w.hd.length=12) (hnm:w.hd[n]? =some ((m:Int)+1)) (hm1:m<1000) (ho:w.ob[m]? =some ⟨t,vs⟩) (hdu:w.du[m]? =some u) (g1:ts[t]? =some s) (g3:vs.length=s.size) (hsz:s.size<=23):
  vag (T (d+3)) vad vav [cSit ts w,.ic vc8 (cWi true ts w sv),cAct true x]=some ([.a (.int .i64 (if ¬(0<=x.b/\x.b<=(s.size:Int)-1) then 4
   else if ¬(x.kind=4\/x.kind=5)↔kAt s x.b.toNat=114 then 5
   else if (x.kind=3\/x.kind=5)/\w.inR=false/\u=true then 6
   else if x.kind=4/\vs[x.b.toNat]?.getD 0≠0/\plc0 w.hd<0 then 9 else 0))],[]):=by
 have h1:=vc6 (d:=d+1) hl x.a;have h2:=vc6 (d:=d+1) hl x.c;rw [u1] at h1;have t1:=vk4 (d:=d+2) (ts:=ts) sv hnm ho hm1;have t2:=vii (d:=d+2) (ts:=ts) sv hnm hdu hm1;have t4:=vjt (d:=d) (ts:=ts) hl;have t5:=vha (Φ:=T (d+2)) (N:=vad) (a:=x.b) (b:=0) (c:=(s.size:Int)-1);have w1:Ag.wrap ((s.size:Int)-1)=(s.size:Int)-1:=by rw [vau]<;>omega
 have hts:=(Ad.1 g1).1;by_cases c1:0<=x.b/\x.b<=(s.size:Int)-1
 case neg=>
  rw [if_pos c1];rw [decide_eq_false c1] at t5;obtain ⟨xk,xa,xb,xc,xp,xq⟩:=x;obtain ⟨ob,du,sl,hd,ir,dm,wa,he⟩:=w;dsimp only at *;subst hk hn;cases sv<;>(simp only [cWi,vcd,vca,vb8] at t1;rw [vab rfl];simp -implicitDefEqProofs (disch:=try exact zd) only [go_sem,Aa,Ab,vav,va6,h1,g1,t1,w1,t5])
 rw [if_neg (λh=>h c1)];rw [decide_eq_true c1] at t5;obtain ⟨j,hj⟩:∃j:Nat,x.b=j:=⟨x.b.toNat,zo⟩
 have hjs:j<s.size:=zo
 have hx:=vj7 (s:=s) (j:=j) hjs;obtain ⟨v,hv⟩:∃v,vs[j]? =some v:=⟨_,Ac zo⟩
 have t3:=vhj (d:=d+2) (ts:=ts) sv hnm ho hv hm1;rw [hj,Ae,hv,Af];obtain ⟨xk,xa,xb,xc,xp,xq⟩:=x;obtain ⟨ob,du,sl,hd,ir,dm,wa,he⟩:=w;dsimp only at *;subst hk hn hj;by_cases c2:kAt s j=114
 ·have c2i:((kAt s j:Nat):Int)=114:=zo
  rw [if_neg (by simp [c2])];rw [if_neg (by simp)];by_cases c3:v=0
  ·rw [if_neg (by simp [c3])];cases sv<;>(simp only [cWi,vcd,vca,vb8] at t1 t2 t3;rw [vab rfl];simp -implicitDefEqProofs (disch:=try exact zd) only [go_sem,Aa,Ab,vav,va6,h1,g1,t1,w1,t5,hx,c2i,t3,c3])
  ·by_cases c4:plc0 hd<0
   ·rw [if_pos ⟨rfl,c3,c4⟩];rw [decide_eq_true c4] at t4;cases sv<;>(simp only [cWi,vcd,vca,vb8] at t1 t2 t3;rw [vab rfl];simp -implicitDefEqProofs (disch:=try exact zd) only [go_sem,Aa,Ab,vav,va6,h1,g1,t1,w1,t5,hx,c2i,t3,c3,t4])
   ·rw [if_neg (λh=>c4 h.2.2)];rw [decide_eq_false c4] at t4;cases sv<;>(simp only [cWi,vcd,vca,vb8] at t1 t2 t3;rw [vab rfl];simp -implicitDefEqProofs (disch:=try exact zd) only [go_sem,Aa,Ab,vav,va6,h1,g1,t1,w1,t5,hx,c2i,t3,c3,t4])
 ·have c2i:¬((kAt s j:Nat):Int)=114:=zo
  rw [if_pos (by simp [c2])];cases sv<;>(simp only [cWi,vcd,vca,vb8] at t1 t2 t3;rw [vab rfl];simp -implicitDefEqProofs (disch:=try exact zd) only [go_sem,Aa,Ab,vav,va6,h1,g1,t1,w1,t5,hx,c2i])
theorem vvk {d:Nat} {ts:List ByteArray} {w:Wd} (x:Act') (sv:Sv) (hk:x.kind=5) (hc:x.c= -1) {n m:Nat} {t:Nat} {vs:List Int} {s:ByteArray} {u:Bool}
  (u1:usedW w x.a=true) (hn:x.a=(n:Nat)) (hl:w.hd.length=12) (hnm:w.hd[n]? =some ((m:Int)+1)) (hm1:m<1000) (ho:w.ob[m]? =some ⟨t,vs⟩) (hdu:w.du[m]? =some u) (g1:ts[t]? =some s) (g3:vs.length=s.size) (hsz:s.size<=23):
  vag (T (d+3)) vad vav [cSit ts w,.ic vc8 (cWi true ts w sv),cAct true x]=some ([.a (.int .i64 (if ¬(0<=x.b/\x.b<=(s.size:Int)-1) then 4
   else if ¬(x.kind=4\/x.kind=5)↔kAt s x.b.toNat=114 then 5
   else if (x.kind=3\/x.kind=5)/\w.inR=false/\u=true then 6
   else if x.kind=4/\vs[x.b.toNat]?.getD 0≠0/\plc0 w.hd<0 then 9 else 0))],[]):=by
 have h1:=vc6 (d:=d+1) hl x.a;have h2:=vc6 (d:=d+1) hl x.c;rw [u1] at h1;have t1:=vk4 (d:=d+2) (ts:=ts) sv hnm ho hm1;have t2:=vii (d:=d+2) (ts:=ts) sv hnm hdu hm1;have t4:=vjt (d:=d) (ts:=ts) hl;have t5:=vha (Φ:=T (d+2)) (N:=vad) (a:=x.b) (b:=0) (c:=(s.size:Int)-1);have w1:Ag.wrap ((s.size:Int)-1)=(s.size:Int)-1:=by rw [vau]<;>omega
 have hts:=(Ad.1 g1).1;by_cases c1:0<=x.b/\x.b<=(s.size:Int)-1
 case neg=>
  rw [if_pos c1];rw [decide_eq_false c1] at t5;obtain ⟨xk,xa,xb,xc,xp,xq⟩:=x;obtain ⟨ob,du,sl,hd,ir,dm,wa,he⟩:=w;dsimp only at *;subst hk hn;cases sv<;>(simp only [cWi,vcd,vca,vb8] at t1;rw [vab rfl];simp -implicitDefEqProofs (disch:=try exact zd) only [go_sem,Aa,Ab,vav,va6,h1,hc,g1,t1,w1,t5])
 rw [if_neg (λh=>h c1)];rw [decide_eq_true c1] at t5;obtain ⟨j,hj⟩:∃j:Nat,x.b=j:=⟨x.b.toNat,zo⟩
 have hjs:j<s.size:=zo
 have hx:=vj7 (s:=s) (j:=j) hjs;obtain ⟨v,hv⟩:∃v,vs[j]? =some v:=⟨_,Ac zo⟩
 have t3:=vhj (d:=d+2) (ts:=ts) sv hnm ho hv hm1;rw [hj,Ae,hv,Af];obtain ⟨xk,xa,xb,xc,xp,xq⟩:=x;obtain ⟨ob,du,sl,hd,ir,dm,wa,he⟩:=w;dsimp only at *;subst hk hn hj;by_cases c2:kAt s j=114
 ·have c2i:((kAt s j:Nat):Int)=114:=zo
  rw [if_neg (by simp [c2])];cases ir with
  |true=>
   rw [if_neg (by simp),if_neg (by simp)];cases sv<;>(simp only [cWi,vcd,vca,vb8] at t1 t2 t3;rw [vab rfl];simp -implicitDefEqProofs (disch:=try exact zd) only [go_sem,Aa,Ab,vav,va6,h1,hc,g1,t1,w1,t5,hx,c2i])
  |false=>
   cases u with
   |true=>
    rw [if_pos (by simp)];cases sv<;>(simp only [cWi,vcd,vca,vb8] at t1 t2 t3;rw [vab rfl];simp -implicitDefEqProofs (disch:=try exact zd) only [go_sem,Aa,Ab,vav,va6,h1,hc,g1,t1,w1,t5,hx,c2i,t2])
   |false=>
    rw [if_neg (by simp),if_neg (by simp)];cases sv<;>(simp only [cWi,vcd,vca,vb8] at t1 t2 t3;rw [vab rfl];simp -implicitDefEqProofs (disch:=try exact zd) only [go_sem,Aa,Ab,vav,va6,h1,hc,g1,t1,w1,t5,hx,c2i,t2])
 ·have c2i:¬((kAt s j:Nat):Int)=114:=zo
  rw [if_pos (by simp [c2])];cases sv<;>(simp only [cWi,vcd,vca,vb8] at t1 t2 t3;rw [vab rfl];simp -implicitDefEqProofs (disch:=try exact zd) only [go_sem,Aa,Ab,vav,va6,h1,hc,g1,t1,w1,t5,hx,c2i])
theorem vv4 {d:Nat} {ts:List ByteArray} {w:Wd} (x:Act') (sv:Sv) (hk:x.kind=5) (hc:x.c≠-1) (hu:usedW w x.c=true) {n m:Nat} {t:Nat} {vs:List Int} {s:ByteArray} {u:Bool}
  (u1:usedW w x.a=true) (hn:x.a=(n:Nat)) (hl:w.hd.length=12) (hnm:w.hd[n]? =some ((m:Int)+1)) (hm1:m<1000) (ho:w.ob[m]? =some ⟨t,vs⟩) (hdu:w.du[m]? =some u) (g1:ts[t]? =some s) (g3:vs.length=s.size) (hsz:s.size<=23):
  vag (T (d+3)) vad vav [cSit ts w,.ic vc8 (cWi true ts w sv),cAct true x]=some ([.a (.int .i64 (if ¬(0<=x.b/\x.b<=(s.size:Int)-1) then 4
   else if ¬(x.kind=4\/x.kind=5)↔kAt s x.b.toNat=114 then 5
   else if (x.kind=3\/x.kind=5)/\w.inR=false/\u=true then 6
   else if x.kind=4/\vs[x.b.toNat]?.getD 0≠0/\plc0 w.hd<0 then 9 else 0))],[]):=by
 have h1:=vc6 (d:=d+1) hl x.a;have h2:=vc6 (d:=d+1) hl x.c;rw [u1] at h1;rw [hu] at h2;have t1:=vk4 (d:=d+2) (ts:=ts) sv hnm ho hm1;have t2:=vii (d:=d+2) (ts:=ts) sv hnm hdu hm1;have t4:=vjt (d:=d) (ts:=ts) hl;have t5:=vha (Φ:=T (d+2)) (N:=vad) (a:=x.b) (b:=0) (c:=(s.size:Int)-1);have w1:Ag.wrap ((s.size:Int)-1)=(s.size:Int)-1:=by rw [vau]<;>omega
 have hts:=(Ad.1 g1).1;by_cases c1:0<=x.b/\x.b<=(s.size:Int)-1
 case neg=>
  rw [if_pos c1];rw [decide_eq_false c1] at t5;obtain ⟨xk,xa,xb,xc,xp,xq⟩:=x;obtain ⟨ob,du,sl,hd,ir,dm,wa,he⟩:=w;dsimp only at *;subst hk hn;cases sv<;>(simp only [cWi,vcd,vca,vb8] at t1;rw [vab rfl];simp -implicitDefEqProofs (disch:=try exact zd) only [go_sem,Aa,Ab,vav,va6,h1,hc,h2,g1,t1,w1,t5])
 rw [if_neg (λh=>h c1)];rw [decide_eq_true c1] at t5;obtain ⟨j,hj⟩:∃j:Nat,x.b=j:=⟨x.b.toNat,zo⟩
 have hjs:j<s.size:=zo
 have hx:=vj7 (s:=s) (j:=j) hjs;obtain ⟨v,hv⟩:∃v,vs[j]? =some v:=⟨_,Ac zo⟩
 have t3:=vhj (d:=d+2) (ts:=ts) sv hnm ho hv hm1;rw [hj,Ae,hv,Af];obtain ⟨xk,xa,xb,xc,xp,xq⟩:=x;obtain ⟨ob,du,sl,hd,ir,dm,wa,he⟩:=w;dsimp only at *;subst hk hn hj;by_cases c2:kAt s j=114
 ·have c2i:((kAt s j:Nat):Int)=114:=zo
  rw [if_neg (by simp [c2])];cases ir with
  |true=>
   rw [if_neg (by simp),if_neg (by simp)];cases sv<;>(simp only [cWi,vcd,vca,vb8] at t1 t2 t3;rw [vab rfl];simp -implicitDefEqProofs (disch:=try exact zd) only [go_sem,Aa,Ab,vav,va6,h1,hc,h2,g1,t1,w1,t5,hx,c2i])
  |false=>
   cases u with
   |true=>
    rw [if_pos (by simp)];cases sv<;>(simp only [cWi,vcd,vca,vb8] at t1 t2 t3;rw [vab rfl];simp -implicitDefEqProofs (disch:=try exact zd) only [go_sem,Aa,Ab,vav,va6,h1,hc,h2,g1,t1,w1,t5,hx,c2i,t2])
   |false=>
    rw [if_neg (by simp),if_neg (by simp)];cases sv<;>(simp only [cWi,vcd,vca,vb8] at t1 t2 t3;rw [vab rfl];simp -implicitDefEqProofs (disch:=try exact zd) only [go_sem,Aa,Ab,vav,va6,h1,hc,h2,g1,t1,w1,t5,hx,c2i,t2])
 ·have c2i:¬((kAt s j:Nat):Int)=114:=zo
  rw [if_pos (by simp [c2])];cases sv<;>(simp only [cWi,vcd,vca,vb8] at t1 t2 t3;rw [vab rfl];simp -implicitDefEqProofs (disch:=try exact zd) only [go_sem,Aa,Ab,vav,va6,h1,hc,h2,g1,t1,w1,t5,hx,c2i])
theorem vlh {d:Nat} {ts:List ByteArray} {B:Nat} {w:Wd} (I:Wok ts B w) (hT:Ty23 ts) (x:Act') (sv:Sv) (hk:2<=x.kind/\x.kind<=5):
  vag (T (d+3)) vad vav [cSit ts w,.ic vc8 (cWi true ts w sv),cAct true x]=some ([.a (.int .i64 (fldW ts w x))],[]):=by
 have h1:=vc6 (d:=d+1) I.hd x.a;have h2:=vc6 (d:=d+1) I.hd x.c;by_cases u1:usedW w x.a=true
 case neg=>
  rw [Bool.not_eq_true] at u1;unfold fldW;rw [u1] at h1;rw [if_pos (.inl u1)];cases sv<;>(rw [vab rfl];simp -implicitDefEqProofs (disch:=try exact zd) only [go_sem,Aa,Ab,vav,va6,h1])
 obtain ⟨n,m,hn,hn12,hnm,hm,hm1,hh⟩:=vht I u1;obtain ⟨o,ho⟩:∃o,w.ob[m]? =some o:=⟨_,Ac hm⟩
 obtain ⟨s,g1,g2,g3,g4⟩:=I.ob o (Ah ho);have hsz:=hT.z s (Ah g1);have hdul:=I.du;obtain ⟨u,hdu⟩:∃u,w.du[m]? =some u:=⟨_,Ac zo⟩
 have eo:objW w x.a=o:=by unfold objW;rw [hh,show ((m:Int)+1).toNat-1=m by omega,ho];rfl
 have ed:durW w x.a=u:=by unfold durW;rw [hh,show ((m:Int)+1).toNat-1=m by omega,hdu];rfl
 have ek:kindW ts o x.b=kAt s x.b.toNat:=by unfold kindW;rw [g1];rfl
 rw [qp0 u1 eo ed ek g3];obtain ⟨ot,vs⟩:=o;dsimp only at *;obtain ⟨t,rfl⟩:∃t:Nat,ot=t:=⟨ot.toNat,zo⟩
 rw [Ae] at g1;by_cases b5:x.kind=5/\x.c≠-1/\usedW w x.c=false
 ·rw [if_pos b5];obtain ⟨k5,b1,b2⟩:=b5;rw [u1] at h1;rw [b2] at h2;obtain ⟨xk,xa,xb,xc,xp,xq⟩:=x;dsimp only at *;subst k5;cases sv<;>(rw [vab rfl];simp -implicitDefEqProofs (disch:=try exact zd) only [go_sem,Aa,Ab,vav,va6,h1,b1,h2])
 rw [if_neg b5];by_cases k2:x.kind=2
 ·exact vxe x sv k2 u1 hn I.hd hnm hm1 ho hdu g1 g3 hsz
 by_cases k3:x.kind=3
 ·exact vw0 x sv k3 u1 hn I.hd hnm hm1 ho hdu g1 g3 hsz
 by_cases k4:x.kind=4
 ·exact vwo x sv k4 u1 hn I.hd hnm hm1 ho hdu g1 g3 hsz
 have k5:x.kind=5:=zo
 by_cases hc:x.c= -1
 ·exact vvk x sv k5 hc u1 hn I.hd hnm hm1 ho hdu g1 g3 hsz
 ·cases hu:usedW w x.c with
  |false=>exact absurd ⟨k5,hc,hu⟩ b5
  |true=>exact vv4 x sv k5 hc hu u1 hn I.hd hnm hm1 ho hdu g1 g3 hsz
