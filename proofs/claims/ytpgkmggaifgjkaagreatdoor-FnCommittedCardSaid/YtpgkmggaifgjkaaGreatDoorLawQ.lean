/- Worlds of the reference. -/
import Derived.Test.YtpgkmggaifgjkaaGreatDoorLawV
open List renaming getElem?_eq_some_iff->Aa,getElem?_eq_getElem->Ad,map->Ag,replicate->Ah,mem_of_getElem?->Ai,nil_append->Aj
open Nat renaming reduceAdd->Ab,reduceBEq->Ac,le_refl->Ak
open Go.IntKind renaming i64->Ae
open Int renaming toNat_natCast->Af
set_option linter.all false
namespace Go.Proofs.YtpgkmggaifgjkaaGreatDoor.VM
open Go Sy
variable {Φ:Nat->Option Callee} {N:Nat}
set_option maxRecDepth 100000
set_option maxHeartbeats 8000000
abbrev cWf (z:Bool) (ts:List ByteArray) (w:Wd):CV:= .bx z [.sl true vam (ts.map eStr),.sl z vai (w.ob.map eObj),.sl z vb3 (w.du.map eBl),.sl z vae (w.sl.map vak),.sl z vae (w.hd.map vak),.a (.bool w.inR),.a (.bool w.dm),.sl z vai (w.wa.map eObj),.sl z vae (w.he.map vak)]
theorem qhn (l:List Int) (h:Int) (hl:l.length<=1048576):
  vbt Φ vad [0,1,5] veu ⟨[(0,.sz vae (l.map vak)),(1,.a (.int .i64 h)),(5,.a (.int .i64 (0:Nat)))],[],0⟩=
  some (match l.findIdx? (λx=>decide (x=h)) with|some i=>(.ret,⟨[(4,.a (.int .i64 (i:Nat)))],[],1200⟩)|none=>(.ext 0,⟨[(0,.sz vae (l.map vak)),(1,.a (.int .i64 h)),(5,.a (.int .i64 l.length)),(9,.a (.bool false))],[],400⟩)):=by
 refine vd2 (λi=>⟨[(0,.sz vae (l.map vak)),(1,.a (.int .i64 h)),(5,.a (.int .i64 (i:Nat)))],[],0⟩) _ (λi=>∀(j:Nat) b,j<i->l[j]? =some b->decide (b=h)=false) (m:=l.length) (vbc zo) (λj b h=>zo) (by split<;>simp) (λi hi hp=> ?_);by_cases hi':i<l.length
 ·obtain ⟨b,hb⟩:∃b,l[i]? =some b:=⟨_,Ad hi'⟩
  have hw:=va0 i zo;unfold round veu;by_cases c:b=h
  ·right;rw [vjn (q:=λx=>decide (x=h)) hb (decide_eq_true c) hp];simp -implicitDefEqProofs (disch:=try exact zd) only [go_sem,Ab,Ac,hb,hw,c]
  ·refine .inl ⟨hi',?_,λj y hj hy=> ?_⟩
   ·simp -implicitDefEqProofs (disch:=try exact zd) only [go_sem,Ab,Ac,hb,hw,c];kernel_rfl
   ·by_cases hji:j=i
    ·subst hji;rw [hb] at hy;cases hy;exact decide_eq_false c
    ·exact hp j y zo hy
 ·obtain rfl:i=l.length:=zo
  right;rw [vjh λj y hy=>hp j y (by have:=(Aa.1 hy).1;omega) hy];unfold round veu;simp -implicitDefEqProofs (disch:=try exact zd) only [go_sem,Ab,Ac]
theorem qs0 (l:List Int) (hl:l.length<=1048576):vag Φ vad vek [.sl true vae (l.map vak),.a (.int .i64 0)]=some ([.a (.int .i64 (plc0 l))],[]):=by
 have key:=qhn (Φ:=Φ) l 0 hl;rw [vab rfl];unfold plc0 idxOf;cases h:l.findIdx? (λx=>decide (x=0)) with
 |some i=>
  rw [h] at key;dsimp only at key;simp -implicitDefEqProofs (disch:=try exact zd) only [go_sem,Ab,Ac,vek,vjl,vih key]
 |none=>
  rw [h] at key;dsimp only at key;simp -implicitDefEqProofs (disch:=try exact zd) only [go_sem,Ab,Ac,vek,vjl,vaw key]
theorem veb {d:Nat} {ts:List ByteArray} {B:Nat} {w:Wd} (I:Wok ts B w) (h:Int):vag (T (d+1)) vad vge [cWf true ts w,.a (.int .i64 h)]=some ([.a (.bool (usedW w h))],[]):=by
 have h1:=vcy (Φ:=T d) (N:=vad) (n:=h) (lo:=0) (hi:=11);have hd:=I.hd;have hdr:=I.hdr;clear I;rw [vab rfl];unfold usedW hAt;obtain ⟨ob,du,sl,hs,ir,dm,wa,he⟩:=w;dsimp only at *;by_cases c:0<=h/\h<=11
 ·obtain ⟨n,rfl⟩:∃n:Nat,h=n:=⟨h.toNat,zo⟩
  obtain ⟨x,hx⟩:∃x,hs[n]? =some x:=⟨_,Ad zo⟩
  have hlt:n<hs.length:=zo
  have h0:=hdr.get hx;rw [decide_eq_true c] at h1⊢;rw [Af,hx,Option.getD_some,Bool.true_and];rw [show decide (x≠0)=decide (x>0) by by_cases e:x=0;subst e;rfl;rw [decide_eq_true e,decide_eq_true zo]];simp -implicitDefEqProofs (disch:=try exact zd) only [go_sem,Ab,Ac,vge,vlk,h1,hx]
 ·rw [decide_eq_false c] at h1⊢;rw [Bool.false_and];simp -implicitDefEqProofs (disch:=try exact zd) only [go_sem,Ab,Ac,vge,vlk,h1]
theorem vz4 {d:Nat} {ts:List ByteArray} {w:Wd} (hd:w.hd.length=12):vag (T (d+1)) vad vh2 [cWf true ts w]=some ([.a (.int .i64 (plc0 w.hd))],[]):=by
 have h1:=qs0 (Φ:=T d) w.hd zo;rw [vab rfl];obtain ⟨ob,du,sl,hs,ir,dm,wa,he⟩:=w;dsimp only at *;simp -implicitDefEqProofs (disch:=try exact zd) only [go_sem,Ab,Ac,vh2,vpf,h1]
theorem qna {d:Nat} {ts:List ByteArray} {w:Wd} (hl:w.hd.length=12) (h:Int) (hh:h<=11):vag (T d) vad vgs [cWf true ts w,.a (.int .i64 h)]=some ([.a (.int .i64 (refW w h))],[]):=by
 rw [vab rfl];unfold refW hAt;obtain ⟨ob,du,sl,hd,ir,dm,wa,he⟩:=w;dsimp only at *;by_cases c:h<0
 ·rw [if_pos c];simp -implicitDefEqProofs (disch:=try exact zd) only [go_sem,Ab,Ac,vgs,vl6,c]
 ·rw [if_neg c];obtain ⟨n,rfl⟩:∃n:Nat,h=n:=⟨h.toNat,zo⟩
  obtain ⟨x,hx⟩:∃x,hd[n]? =some x:=⟨_,Ad zo⟩
  have hlt:n<hd.length:=zo
  rw [Af,hx,Option.getD_some];simp -implicitDefEqProofs (disch:=try exact zd) only [go_sem,Ab,Ac,vgs,vl6,c,hx]
theorem qu3 {d:Nat} (b:Bool):vag (T d) vad vj6 [.a (.bool b)]=some ([.a (.int .i64 (if b=true then 1 else 0))],[]):=by
 rw [vab rfl];cases b<;>simp -implicitDefEqProofs (disch:=try exact zd) only [go_sem,Ab,Ac,vj6,vs8]<;>rfl
theorem vp1 {d:Nat} (k:Int):vag (T (d+1)) vad vji [.a (.int .i64 k)]=some ([.a (.bool (decide (14<=k/\k<=18)))],[]):=by
 have h1:=vcy (Φ:=T d) (N:=vad) (n:=k) (lo:=14) (hi:=18);rw [vab rfl];simp -implicitDefEqProofs (disch:=try exact zd) only [go_sem,Ab,Ac,vji,vrp,h1];done
theorem qig {d:Nat} {ts:List ByteArray} {w:Wd}:vag (T (d+2)) vad vdw [cWf false ts w,.a (.int .i64 0)]=some ([.a (.int .i64 0),.a (.int .i64 (-1))],[cWf false ts w]):=by
 rw [vab rfl];obtain ⟨ob,du,sl,hs,ir,dm,wa,he⟩:=w;simp -implicitDefEqProofs (disch:=try exact zd) only [go_sem,Ab,Ac,vdw,vjw]
theorem qhk {d:Nat} {ts:List ByteArray} {w:Wd} (hl:w.hd.length=12) {r:Int} (h0:r≠0) (hf:plc0 w.hd<0):vag (T (d+2)) vad vdw [cWf false ts w,.a (.int .i64 r)]=some ([.a (.int .i64 9),.a (.int .i64 0)],[cWf false ts w]):=by
 have h1:=vz4 (d:=d) (ts:=ts) hl;rw [vab rfl];obtain ⟨ob,du,sl,hs,ir,dm,wa,he⟩:=w;dsimp only at *;generalize plc0 hs=p at *;simp -implicitDefEqProofs (disch:=try exact zd) only [go_sem,Ab,Ac,vdw,vjw,h0,h1,hf]
theorem qov {d:Nat} {ts:List ByteArray} {w:Wd} (hl:w.hd.length=12) {r:Int} (h0:r≠0) (hf:¬plc0 w.hd<0):vag (T (d+2)) vad vdw [cWf false ts w,.a (.int .i64 r)]=some ([.a (.int .i64 0),.a (.int .i64 (plc0 w.hd))],[cWf false ts {w with hd:=w.hd.set (plc0 w.hd).toNat r}]):=by
 have h1:=vz4 (d:=d) (ts:=ts) hl;obtain ⟨n,hn,hlt⟩:=vvs hf;obtain ⟨x,hx⟩:∃x,w.hd[n]? =some x:=⟨_,Ad hlt⟩
 rw [hn] at h1 hf⊢;rw [Af];rw [vab rfl];obtain ⟨ob,du,sl,hs,ir,dm,wa,he⟩:=w;dsimp only at *;simp -implicitDefEqProofs (disch:=try exact zd) only [go_sem,Ab,Ac,vdw,vjw,h0,h1,hf,hx]
theorem qxu {d:Nat} {ts:List ByteArray} {w:Wd}:vag (T d) vad ve8 [cWf false ts w]=some ([],[cWf false ts ⟨w.ob,w.du,w.sl,w.hd,false,false,[],[]⟩]):=by
 rw [vab rfl];obtain ⟨ob,du,sl,hs,ir,dm,wa,he⟩:=w;simp -implicitDefEqProofs (disch:=try exact zd) only [go_sem,Ab,Ac,ve8,vln];rfl
def knd (x:Act'):Nat:=if x.kind=4\/x.kind=5 then 114 else 105
def fld0W (ts:List ByteArray) (w:Wd) (x:Act'):Int:=
 if usedW w x.a=false\/x.kind=5/\x.c≠-1/\usedW w x.c=false then 2
 else if ¬(0<=x.b/\x.b<=((objW w x.a).vals.length:Int)-1) then 4
 else if kindW ts (objW w x.a) x.b≠knd x then 5
 else if (x.kind=3\/x.kind=5)/\w.inR=false/\durW w x.a=true then 6 else 0
theorem qoq {ts:List ByteArray} {w:Wd} {x:Act'} {s:ByteArray} {o:Obj'} {u:Bool} (u1:usedW w x.a=true) (eo:objW w x.a=o) (ed:durW w x.a=u) (ek:kindW ts o x.b=kAt s x.b.toNat) (g3:o.vals.length=s.size):
  fld0W ts w x=if x.kind=5/\x.c≠-1/\usedW w x.c=false then 2
   else if ¬(0<=x.b/\x.b<=(s.size:Int)-1) then 4
   else if kAt s x.b.toNat≠knd x then 5
   else if (x.kind=3\/x.kind=5)/\w.inR=false/\u=true then 6 else 0:=by
 unfold fld0W;rw [eo,ed,ek,g3,u1];simp only [Bool.true_eq_false,false_or]
theorem qm1 {d:Nat} {ts:List ByteArray} {B:Nat} {w:Wd} (I:Wok ts B w) (x:Act') (hk:x.kind=2) {n m:Nat} {t:Nat} {vs:List Int} {s:ByteArray} {u:Bool}
  (u1:usedW w x.a=true) (hn:x.a=(n:Nat)) (hnm:w.hd[n]? =some ((m:Int)+1)) (hm1:m<1000) (ho:w.ob[m]? =some ⟨t,vs⟩) (hdu:w.du[m]? =some u) (g1:ts[t]? =some s) (g3:vs.length=s.size) (hsz:s.size<=23):
  vag (T (d+2)) vad vao [cWf true ts w,cAct true x,.a (.int .u8 105)]=some ([.a (.int .i64 (if ¬(0<=x.b/\x.b<=(s.size:Int)-1) then 4
   else if kAt s x.b.toNat≠105 then 5
   else if (x.kind=3\/x.kind=5)/\w.inR=false/\u=true then 6 else 0))],[]):=by
 have h1:=veb (d:=d) I x.a;have h2:=veb (d:=d) I x.c;clear I;rw [u1] at h1;have t5:=vcy (Φ:=T (d+1)) (N:=vad) (n:=x.b) (lo:=0) (hi:=(vs.length:Int)-1);have w1:Ae.wrap ((vs.length:Int)-1)=(vs.length:Int)-1:=by rw [vau]<;>omega
 have e1:Ae.wrap ((m:Int)+1-1)=(m:Nat):=by rw [vau]<;>omega
 have hts:=(Aa.1 g1).1;have l1:=(Aa.1 hnm).1;have l2:=(Aa.1 ho).1;have l3:=(Aa.1 hdu).1;rw [<-g3];by_cases c1:0<=x.b/\x.b<=(vs.length:Int)-1
 case neg=>
  rw [if_pos c1];rw [decide_eq_false c1] at t5;obtain ⟨xk,xa,xb,xc,xp,xq⟩:=x;obtain ⟨ob,du,sl,hd,ir,dm,wa,he⟩:=w;dsimp only at *;subst hk hn;rw [vab rfl];simp -implicitDefEqProofs (disch:=try exact zd) only [go_sem,Ab,Ac,vao,va7,h1,hnm,e1,ho,w1,t5]
 rw [if_neg (λh=>h c1)];rw [decide_eq_true c1] at t5;obtain ⟨j,hj⟩:∃j:Nat,x.b=j:=⟨x.b.toNat,zo⟩
 have hjs:j<s.size:=zo
 have hx:=vj7 (s:=s) (j:=j) hjs;rw [hj,Af];obtain ⟨xk,xa,xb,xc,xp,xq⟩:=x;obtain ⟨ob,du,sl,hd,ir,dm,wa,he⟩:=w;dsimp only at *;subst hk hn hj;by_cases c2:kAt s j=105
 ·have c2i:((kAt s j:Nat):Int)=105:=zo
  rw [if_neg (λh=>h c2)];rw [if_neg (by simp)];rw [vab rfl];simp -implicitDefEqProofs (disch:=try exact zd) only [go_sem,Ab,Ac,vao,va7,h1,hnm,e1,ho,w1,t5,g1,hx,c2i]
 ·have c2i:¬((kAt s j:Nat):Int)=105:=zo
  rw [if_pos c2];rw [vab rfl];simp -implicitDefEqProofs (disch:=try exact zd) only [go_sem,Ab,Ac,vao,va7,h1,hnm,e1,ho,w1,t5,g1,hx,c2i]
theorem qnm {d:Nat} {ts:List ByteArray} {B:Nat} {w:Wd} (I:Wok ts B w) (x:Act') (hk:x.kind=3) {n m:Nat} {t:Nat} {vs:List Int} {s:ByteArray} {u:Bool}
  (u1:usedW w x.a=true) (hn:x.a=(n:Nat)) (hnm:w.hd[n]? =some ((m:Int)+1)) (hm1:m<1000) (ho:w.ob[m]? =some ⟨t,vs⟩) (hdu:w.du[m]? =some u) (g1:ts[t]? =some s) (g3:vs.length=s.size) (hsz:s.size<=23):
  vag (T (d+2)) vad vao [cWf true ts w,cAct true x,.a (.int .u8 105)]=some ([.a (.int .i64 (if ¬(0<=x.b/\x.b<=(s.size:Int)-1) then 4
   else if kAt s x.b.toNat≠105 then 5
   else if (x.kind=3\/x.kind=5)/\w.inR=false/\u=true then 6 else 0))],[]):=by
 have h1:=veb (d:=d) I x.a;have h2:=veb (d:=d) I x.c;clear I;rw [u1] at h1;have t5:=vcy (Φ:=T (d+1)) (N:=vad) (n:=x.b) (lo:=0) (hi:=(vs.length:Int)-1);have w1:Ae.wrap ((vs.length:Int)-1)=(vs.length:Int)-1:=by rw [vau]<;>omega
 have e1:Ae.wrap ((m:Int)+1-1)=(m:Nat):=by rw [vau]<;>omega
 have hts:=(Aa.1 g1).1;have l1:=(Aa.1 hnm).1;have l2:=(Aa.1 ho).1;have l3:=(Aa.1 hdu).1;rw [<-g3];by_cases c1:0<=x.b/\x.b<=(vs.length:Int)-1
 case neg=>
  rw [if_pos c1];rw [decide_eq_false c1] at t5;obtain ⟨xk,xa,xb,xc,xp,xq⟩:=x;obtain ⟨ob,du,sl,hd,ir,dm,wa,he⟩:=w;dsimp only at *;subst hk hn;rw [vab rfl];simp -implicitDefEqProofs (disch:=try exact zd) only [go_sem,Ab,Ac,vao,va7,h1,hnm,e1,ho,w1,t5]
 rw [if_neg (λh=>h c1)];rw [decide_eq_true c1] at t5;obtain ⟨j,hj⟩:∃j:Nat,x.b=j:=⟨x.b.toNat,zo⟩
 have hjs:j<s.size:=zo
 have hx:=vj7 (s:=s) (j:=j) hjs;rw [hj,Af];obtain ⟨xk,xa,xb,xc,xp,xq⟩:=x;obtain ⟨ob,du,sl,hd,ir,dm,wa,he⟩:=w;dsimp only at *;subst hk hn hj;by_cases c2:kAt s j=105
 ·have c2i:((kAt s j:Nat):Int)=105:=zo
  rw [if_neg (λh=>h c2)];cases u with
  |false=>
   rw [if_neg (by simp)];rw [vab rfl];simp -implicitDefEqProofs (disch:=try exact zd) only [go_sem,Ab,Ac,vao,va7,h1,hnm,e1,ho,w1,t5,g1,hx,c2i,hdu]
  |true=>
   cases ir with
   |true=>
    rw [if_neg (by simp)];rw [vab rfl];simp -implicitDefEqProofs (disch:=try exact zd) only [go_sem,Ab,Ac,vao,va7,h1,hnm,e1,ho,w1,t5,g1,hx,c2i,hdu]
   |false=>
    rw [if_pos (by simp)];rw [vab rfl];simp -implicitDefEqProofs (disch:=try exact zd) only [go_sem,Ab,Ac,vao,va7,h1,hnm,e1,ho,w1,t5,g1,hx,c2i,hdu]
 ·have c2i:¬((kAt s j:Nat):Int)=105:=zo
  rw [if_pos c2];rw [vab rfl];simp -implicitDefEqProofs (disch:=try exact zd) only [go_sem,Ab,Ac,vao,va7,h1,hnm,e1,ho,w1,t5,g1,hx,c2i]
theorem qod {d:Nat} {ts:List ByteArray} {B:Nat} {w:Wd} (I:Wok ts B w) (x:Act') (hk:x.kind=4) {n m:Nat} {t:Nat} {vs:List Int} {s:ByteArray} {u:Bool}
  (u1:usedW w x.a=true) (hn:x.a=(n:Nat)) (hnm:w.hd[n]? =some ((m:Int)+1)) (hm1:m<1000) (ho:w.ob[m]? =some ⟨t,vs⟩) (hdu:w.du[m]? =some u) (g1:ts[t]? =some s) (g3:vs.length=s.size) (hsz:s.size<=23):
  vag (T (d+2)) vad vao [cWf true ts w,cAct true x,.a (.int .u8 114)]=some ([.a (.int .i64 (if ¬(0<=x.b/\x.b<=(s.size:Int)-1) then 4
   else if kAt s x.b.toNat≠114 then 5
   else if (x.kind=3\/x.kind=5)/\w.inR=false/\u=true then 6 else 0))],[]):=by
 have h1:=veb (d:=d) I x.a;have h2:=veb (d:=d) I x.c;clear I;rw [u1] at h1;have t5:=vcy (Φ:=T (d+1)) (N:=vad) (n:=x.b) (lo:=0) (hi:=(vs.length:Int)-1);have w1:Ae.wrap ((vs.length:Int)-1)=(vs.length:Int)-1:=by rw [vau]<;>omega
 have e1:Ae.wrap ((m:Int)+1-1)=(m:Nat):=by rw [vau]<;>omega
 have hts:=(Aa.1 g1).1;have l1:=(Aa.1 hnm).1;have l2:=(Aa.1 ho).1;have l3:=(Aa.1 hdu).1;rw [<-g3];by_cases c1:0<=x.b/\x.b<=(vs.length:Int)-1
 case neg=>
  rw [if_pos c1];rw [decide_eq_false c1] at t5;obtain ⟨xk,xa,xb,xc,xp,xq⟩:=x;obtain ⟨ob,du,sl,hd,ir,dm,wa,he⟩:=w;dsimp only at *;subst hk hn;rw [vab rfl];simp -implicitDefEqProofs (disch:=try exact zd) only [go_sem,Ab,Ac,vao,va7,h1,hnm,e1,ho,w1,t5]
 rw [if_neg (λh=>h c1)];rw [decide_eq_true c1] at t5;obtain ⟨j,hj⟩:∃j:Nat,x.b=j:=⟨x.b.toNat,zo⟩
 have hjs:j<s.size:=zo
 have hx:=vj7 (s:=s) (j:=j) hjs;rw [hj,Af];obtain ⟨xk,xa,xb,xc,xp,xq⟩:=x;obtain ⟨ob,du,sl,hd,ir,dm,wa,he⟩:=w;dsimp only at *;subst hk hn hj;by_cases c2:kAt s j=114
 ·have c2i:((kAt s j:Nat):Int)=114:=zo
  rw [if_neg (λh=>h c2)];rw [if_neg (by simp)];rw [vab rfl];simp -implicitDefEqProofs (disch:=try exact zd) only [go_sem,Ab,Ac,vao,va7,h1,hnm,e1,ho,w1,t5,g1,hx,c2i]
 ·have c2i:¬((kAt s j:Nat):Int)=114:=zo
  rw [if_pos c2];rw [vab rfl];simp -implicitDefEqProofs (disch:=try exact zd) only [go_sem,Ab,Ac,vao,va7,h1,hnm,e1,ho,w1,t5,g1,hx,c2i]
theorem qks {d:Nat} {ts:List ByteArray} {B:Nat} {w:Wd} (I:Wok ts B w) (x:Act') (hk:x.kind=5) (hc:x.c= -1) {n m:Nat} {t:Nat} {vs:List Int} {s:ByteArray} {u:Bool}
  (u1:usedW w x.a=true) (hn:x.a=(n:Nat)) (hnm:w.hd[n]? =some ((m:Int)+1)) (hm1:m<1000) (ho:w.ob[m]? =some ⟨t,vs⟩) (hdu:w.du[m]? =some u) (g1:ts[t]? =some s) (g3:vs.length=s.size) (hsz:s.size<=23):
  vag (T (d+2)) vad vao [cWf true ts w,cAct true x,.a (.int .u8 114)]=some ([.a (.int .i64 (if ¬(0<=x.b/\x.b<=(s.size:Int)-1) then 4
   else if kAt s x.b.toNat≠114 then 5
   else if (x.kind=3\/x.kind=5)/\w.inR=false/\u=true then 6 else 0))],[]):=by
 have h1:=veb (d:=d) I x.a;have h2:=veb (d:=d) I x.c;clear I;rw [u1] at h1;have t5:=vcy (Φ:=T (d+1)) (N:=vad) (n:=x.b) (lo:=0) (hi:=(vs.length:Int)-1);have w1:Ae.wrap ((vs.length:Int)-1)=(vs.length:Int)-1:=by rw [vau]<;>omega
 have e1:Ae.wrap ((m:Int)+1-1)=(m:Nat):=by rw [vau]<;>omega
 have hts:=(Aa.1 g1).1;have l1:=(Aa.1 hnm).1;have l2:=(Aa.1 ho).1;have l3:=(Aa.1 hdu).1;rw [<-g3];by_cases c1:0<=x.b/\x.b<=(vs.length:Int)-1
 case neg=>
  rw [if_pos c1];rw [decide_eq_false c1] at t5;obtain ⟨xk,xa,xb,xc,xp,xq⟩:=x;obtain ⟨ob,du,sl,hd,ir,dm,wa,he⟩:=w;dsimp only at *;subst hk hn;rw [vab rfl];simp -implicitDefEqProofs (disch:=try exact zd) only [go_sem,Ab,Ac,vao,va7,h1,hc,hnm,e1,ho,w1,t5]
 rw [if_neg (λh=>h c1)];rw [decide_eq_true c1] at t5;obtain ⟨j,hj⟩:∃j:Nat,x.b=j:=⟨x.b.toNat,zo⟩
 have hjs:j<s.size:=zo
 have hx:=vj7 (s:=s) (j:=j) hjs;rw [hj,Af];obtain ⟨xk,xa,xb,xc,xp,xq⟩:=x;obtain ⟨ob,du,sl,hd,ir,dm,wa,he⟩:=w;dsimp only at *;subst hk hn hj;by_cases c2:kAt s j=114
 ·have c2i:((kAt s j:Nat):Int)=114:=zo
  rw [if_neg (λh=>h c2)];cases u with
  |false=>
   rw [if_neg (by simp)];rw [vab rfl];simp -implicitDefEqProofs (disch:=try exact zd) only [go_sem,Ab,Ac,vao,va7,h1,hc,hnm,e1,ho,w1,t5,g1,hx,c2i,hdu]
  |true=>
   cases ir with
   |true=>
    rw [if_neg (by simp)];rw [vab rfl];simp -implicitDefEqProofs (disch:=try exact zd) only [go_sem,Ab,Ac,vao,va7,h1,hc,hnm,e1,ho,w1,t5,g1,hx,c2i,hdu]
   |false=>
    rw [if_pos (by simp)];rw [vab rfl];simp -implicitDefEqProofs (disch:=try exact zd) only [go_sem,Ab,Ac,vao,va7,h1,hc,hnm,e1,ho,w1,t5,g1,hx,c2i,hdu]
 ·have c2i:¬((kAt s j:Nat):Int)=114:=zo
  rw [if_pos c2];rw [vab rfl];simp -implicitDefEqProofs (disch:=try exact zd) only [go_sem,Ab,Ac,vao,va7,h1,hc,hnm,e1,ho,w1,t5,g1,hx,c2i]
theorem qke {d:Nat} {ts:List ByteArray} {B:Nat} {w:Wd} (I:Wok ts B w) (x:Act') (hk:x.kind=5) (hc:x.c≠-1) (hu:usedW w x.c=true) {n m:Nat} {t:Nat} {vs:List Int} {s:ByteArray} {u:Bool}
  (u1:usedW w x.a=true) (hn:x.a=(n:Nat)) (hnm:w.hd[n]? =some ((m:Int)+1)) (hm1:m<1000) (ho:w.ob[m]? =some ⟨t,vs⟩) (hdu:w.du[m]? =some u) (g1:ts[t]? =some s) (g3:vs.length=s.size) (hsz:s.size<=23):
  vag (T (d+2)) vad vao [cWf true ts w,cAct true x,.a (.int .u8 114)]=some ([.a (.int .i64 (if ¬(0<=x.b/\x.b<=(s.size:Int)-1) then 4
   else if kAt s x.b.toNat≠114 then 5
   else if (x.kind=3\/x.kind=5)/\w.inR=false/\u=true then 6 else 0))],[]):=by
 have h1:=veb (d:=d) I x.a;have h2:=veb (d:=d) I x.c;clear I;rw [u1] at h1;rw [hu] at h2;have t5:=vcy (Φ:=T (d+1)) (N:=vad) (n:=x.b) (lo:=0) (hi:=(vs.length:Int)-1);have w1:Ae.wrap ((vs.length:Int)-1)=(vs.length:Int)-1:=by rw [vau]<;>omega
 have e1:Ae.wrap ((m:Int)+1-1)=(m:Nat):=by rw [vau]<;>omega
 have hts:=(Aa.1 g1).1;have l1:=(Aa.1 hnm).1;have l2:=(Aa.1 ho).1;have l3:=(Aa.1 hdu).1;rw [<-g3];by_cases c1:0<=x.b/\x.b<=(vs.length:Int)-1
 case neg=>
  rw [if_pos c1];rw [decide_eq_false c1] at t5;obtain ⟨xk,xa,xb,xc,xp,xq⟩:=x;obtain ⟨ob,du,sl,hd,ir,dm,wa,he⟩:=w;dsimp only at *;subst hk hn;rw [vab rfl];simp -implicitDefEqProofs (disch:=try exact zd) only [go_sem,Ab,Ac,vao,va7,h1,hc,h2,hnm,e1,ho,w1,t5]
 rw [if_neg (λh=>h c1)];rw [decide_eq_true c1] at t5;obtain ⟨j,hj⟩:∃j:Nat,x.b=j:=⟨x.b.toNat,zo⟩
 have hjs:j<s.size:=zo
 have hx:=vj7 (s:=s) (j:=j) hjs;rw [hj,Af];obtain ⟨xk,xa,xb,xc,xp,xq⟩:=x;obtain ⟨ob,du,sl,hd,ir,dm,wa,he⟩:=w;dsimp only at *;subst hk hn hj;by_cases c2:kAt s j=114
 ·have c2i:((kAt s j:Nat):Int)=114:=zo
  rw [if_neg (λh=>h c2)];cases u with
  |false=>
   rw [if_neg (by simp)];rw [vab rfl];simp -implicitDefEqProofs (disch:=try exact zd) only [go_sem,Ab,Ac,vao,va7,h1,hc,h2,hnm,e1,ho,w1,t5,g1,hx,c2i,hdu]
  |true=>
   cases ir with
   |true=>
    rw [if_neg (by simp)];rw [vab rfl];simp -implicitDefEqProofs (disch:=try exact zd) only [go_sem,Ab,Ac,vao,va7,h1,hc,h2,hnm,e1,ho,w1,t5,g1,hx,c2i,hdu]
   |false=>
    rw [if_pos (by simp)];rw [vab rfl];simp -implicitDefEqProofs (disch:=try exact zd) only [go_sem,Ab,Ac,vao,va7,h1,hc,h2,hnm,e1,ho,w1,t5,g1,hx,c2i,hdu]
 ·have c2i:¬((kAt s j:Nat):Int)=114:=zo
  rw [if_pos c2];rw [vab rfl];simp -implicitDefEqProofs (disch:=try exact zd) only [go_sem,Ab,Ac,vao,va7,h1,hc,h2,hnm,e1,ho,w1,t5,g1,hx,c2i]
theorem qtd {d:Nat} {ts:List ByteArray} {B:Nat} {w:Wd} (I:Wok ts B w) (hT:Ty23 ts) (x:Act') (hk:2<=x.kind/\x.kind<=5):
  vag (T (d+2)) vad vao [cWf true ts w,cAct true x,.a (.int .u8 (knd x:Nat))]=some ([.a (.int .i64 (fld0W ts w x))],[]):=by
 have h1:=veb (d:=d) I x.a;have h2:=veb (d:=d) I x.c;by_cases u1:usedW w x.a=true
 case neg=>
  rw [Bool.not_eq_true] at u1;unfold fld0W;rw [u1] at h1;rw [if_pos (.inl u1)];obtain ⟨xk,xa,xb,xc,xp,xq⟩:=x;obtain ⟨ob,du,sl,hd,ir,dm,wa,he⟩:=w;dsimp only at *;rw [vab rfl];simp -implicitDefEqProofs (disch:=try exact zd) only [go_sem,Ab,Ac,vao,va7,h1]
 obtain ⟨n,m,hn,hn12,hnm,hm,hm1,hh⟩:=vht I u1;obtain ⟨o,ho⟩:∃o,w.ob[m]? =some o:=⟨_,Ad hm⟩
 obtain ⟨s,g1,g2,g3,g4⟩:=I.ob o (Ai ho);have hsz:=hT.z s (Ai g1);have hdul:=I.du;obtain ⟨u,hdu⟩:∃u,w.du[m]? =some u:=⟨_,Ad zo⟩
 have eo:objW w x.a=o:=by unfold objW;rw [hh,show ((m:Int)+1).toNat-1=m by omega,ho];rfl
 have ed:durW w x.a=u:=by unfold durW;rw [hh,show ((m:Int)+1).toNat-1=m by omega,hdu];rfl
 have ek:kindW ts o x.b=kAt s x.b.toNat:=by unfold kindW;rw [g1];rfl
 rw [qoq u1 eo ed ek g3];obtain ⟨ot,vs⟩:=o;dsimp only at *;obtain ⟨t,rfl⟩:∃t:Nat,ot=t:=⟨ot.toNat,zo⟩
 rw [Af] at g1;by_cases b5:x.kind=5/\x.c≠-1/\usedW w x.c=false
 ·rw [if_pos b5];obtain ⟨k5,b1,b2⟩:=b5;rw [u1] at h1;rw [b2] at h2;obtain ⟨xk,xa,xb,xc,xp,xq⟩:=x;obtain ⟨ob,du,sl,hd,ir,dm,wa,he⟩:=w;dsimp only at *;subst k5;rw [vab rfl];simp -implicitDefEqProofs (disch:=try exact zd) only [go_sem,Ab,Ac,vao,va7,h1,b1,h2]
 rw [if_neg b5];by_cases k2:x.kind=2
 ·have e:knd x=105:=by unfold knd;rw [if_neg zo]
  rw [e];exact qm1 I x k2 u1 hn hnm hm1 ho hdu g1 g3 hsz
 by_cases k3:x.kind=3
 ·have e:knd x=105:=by unfold knd;rw [if_neg zo]
  rw [e];exact qnm I x k3 u1 hn hnm hm1 ho hdu g1 g3 hsz
 have e:knd x=114:=by unfold knd;rw [if_pos zo]
 rw [e];by_cases k4:x.kind=4
 ·exact qod I x k4 u1 hn hnm hm1 ho hdu g1 g3 hsz
 have k5:x.kind=5:=zo
 by_cases hc:x.c= -1
 ·exact qks I x k5 hc u1 hn hnm hm1 ho hdu g1 g3 hsz
 ·cases hu:usedW w x.c with
  |false=>exact absurd ⟨k5,hc,hu⟩ b5
  |true=>exact qke I x k5 hc hu u1 hn hnm hm1 ho hdu g1 g3 hsz
abbrev rOf (d:Nat) (f:Fn) (ts:List ByteArray) (w:Wd) (x:Act') (c n:Int) (w':Wd):Prop:=vag (T d) vad f [cWf false ts w,cAct true x]=some ([.a (.int .i64 c),.a (.int .i64 n)],[cWf false ts w'])
theorem qbq {d:Nat} {ts:List ByteArray} {w:Wd} (x:Act') (hk:x.kind=2) {c:Int} (hc:c≠0) (h:vag (T (d+2)) vad vao [cWf true ts w,cAct true x,.a (.int .u8 105)]=some ([.a (.int .i64 c)],[])):rOf (d+3) va3 ts w x c 0 w:=by
 unfold rOf;obtain ⟨xk,xa,xb,xc,xp,xq⟩:=x;obtain ⟨ob,du,sl,hd,ir,dm,wa,he⟩:=w;dsimp only at *;subst hk;rw [vab rfl];simp -implicitDefEqProofs (disch:=try exact zd) only [go_sem,Ab,Ac,va3,vcs,cWf,h,hc]
theorem qbd {d:Nat} {ts:List ByteArray} {w:Wd} (x:Act') (hk:x.kind=3) {c:Int} (hc:c≠0) (h:vag (T (d+2)) vad vao [cWf true ts w,cAct true x,.a (.int .u8 105)]=some ([.a (.int .i64 c)],[])):rOf (d+3) va3 ts w x c 0 w:=by
 unfold rOf;obtain ⟨xk,xa,xb,xc,xp,xq⟩:=x;obtain ⟨ob,du,sl,hd,ir,dm,wa,he⟩:=w;dsimp only at *;subst hk;rw [vab rfl];simp -implicitDefEqProofs (disch:=try exact zd) only [go_sem,Ab,Ac,va3,vcs,cWf,h,hc]
theorem qai {d:Nat} {ts:List ByteArray} {w:Wd} (x:Act') (hk:x.kind=4) {c:Int} (hc:c≠0) (h:vag (T (d+2)) vad vao [cWf true ts w,cAct true x,.a (.int .u8 114)]=some ([.a (.int .i64 c)],[])):rOf (d+3) va3 ts w x c 0 w:=by
 unfold rOf;obtain ⟨xk,xa,xb,xc,xp,xq⟩:=x;obtain ⟨ob,du,sl,hd,ir,dm,wa,he⟩:=w;dsimp only at *;subst hk;rw [vab rfl];simp -implicitDefEqProofs (disch:=try exact zd) only [go_sem,Ab,Ac,va3,vcs,cWf,h,hc]
theorem qa5 {d:Nat} {ts:List ByteArray} {w:Wd} (x:Act') (hk:x.kind=5) {c:Int} (hc:c≠0) (h:vag (T (d+2)) vad vao [cWf true ts w,cAct true x,.a (.int .u8 114)]=some ([.a (.int .i64 c)],[])):rOf (d+3) va3 ts w x c 0 w:=by
 unfold rOf;obtain ⟨xk,xa,xb,xc,xp,xq⟩:=x;obtain ⟨ob,du,sl,hd,ir,dm,wa,he⟩:=w;dsimp only at *;subst hk;rw [vab rfl];simp -implicitDefEqProofs (disch:=try exact zd) only [go_sem,Ab,Ac,va3,vcs,cWf,h,hc]
theorem qkn {d:Nat} {ts:List ByteArray} {w:Wd} (x:Act') (hk:x.kind=2) {n m:Nat} (hn:x.a=(n:Nat)) (hnm:w.hd[n]? =some ((m:Int)+1)) (hm1:m<1000) {t:Int} {vs:List Int} (ho:w.ob[m]? =some ⟨t,vs⟩) {j:Nat} {v:Int} (hj:x.b=(j:Nat)) (hv:vs[j]? =some v) (h:vag (T (d+2)) vad vao [cWf true ts w,cAct true x,.a (.int .u8 105)]=some ([.a (.int .i64 0)],[])):rOf (d+3) va3 ts w x 0 v w:=by
 have e1:Ae.wrap ((m:Int)+1-1)=(m:Nat):=by rw [vau]<;>omega
 have l1:=(Aa.1 hnm).1;have l2:=(Aa.1 ho).1;have l3:=(Aa.1 hv).1;unfold rOf;obtain ⟨xk,xa,xb,xc,xp,xq⟩:=x;obtain ⟨ob,du,sl,hd,ir,dm,wa,he⟩:=w;dsimp only at *;subst hk hn hj;rw [vab rfl];simp -implicitDefEqProofs (disch:=try exact zd) only [go_sem,Ab,Ac,va3,vcs,cWf,h,hnm,e1,ho,hv]
theorem qjj {d:Nat} {ts:List ByteArray} {w:Wd} (x:Act') (hk:x.kind=3) {n m:Nat} (hn:x.a=(n:Nat)) (hnm:w.hd[n]? =some ((m:Int)+1)) (hm1:m<1000) {t:Int} {vs:List Int} (ho:w.ob[m]? =some ⟨t,vs⟩) {j:Nat} {v:Int} (hj:x.b=(j:Nat)) (hv:vs[j]? =some v) (h:vag (T (d+2)) vad vao [cWf true ts w,cAct true x,.a (.int .u8 105)]=some ([.a (.int .i64 0)],[])):rOf (d+3) va3 ts w x 0 0 {w with ob:=w.ob.set m ⟨t,vs.set j x.c⟩}:=by
 have e1:Ae.wrap ((m:Int)+1-1)=(m:Nat):=by rw [vau]<;>omega
 have l1:=(Aa.1 hnm).1;have l2:=(Aa.1 ho).1;have l3:=(Aa.1 hv).1;unfold rOf;obtain ⟨xk,xa,xb,xc,xp,xq⟩:=x;obtain ⟨ob,du,sl,hd,ir,dm,wa,he⟩:=w;dsimp only at *;subst hk hn hj;rw [vab rfl];simp -implicitDefEqProofs (disch:=try exact zd) only [go_sem,Ab,Ac,va3,vcs,cWf,h,hnm,e1,ho,hv]
theorem qgj {d:Nat} {ts:List ByteArray} {w:Wd} (x:Act') (hk:x.kind=4) {n m:Nat} (hn:x.a=(n:Nat)) (hnm:w.hd[n]? =some ((m:Int)+1)) (hm1:m<1000) {t:Int} {vs:List Int} (ho:w.ob[m]? =some ⟨t,vs⟩) {j:Nat} {v:Int} (hj:x.b=(j:Nat)) (hv:vs[j]? =some v) (hz:v=0) (h:vag (T (d+2)) vad vao [cWf true ts w,cAct true x,.a (.int .u8 114)]=some ([.a (.int .i64 0)],[])):rOf (d+3) va3 ts w x 0 (-1) w:=by
 have e1:Ae.wrap ((m:Int)+1-1)=(m:Nat):=by rw [vau]<;>omega
 have l1:=(Aa.1 hnm).1;have l2:=(Aa.1 ho).1;have l3:=(Aa.1 hv).1;have t1:=qig (d:=d) (ts:=ts) (w:=w);subst hz;unfold rOf;obtain ⟨xk,xa,xb,xc,xp,xq⟩:=x;obtain ⟨ob,du,sl,hd,ir,dm,wa,he⟩:=w;dsimp only at *;subst hk hn hj;rw [vab rfl];simp -implicitDefEqProofs (disch:=try exact zd) only [go_sem,Ab,Ac,va3,vcs,cWf,h,hnm,e1,ho,hv,t1]
theorem qgi {d:Nat} {ts:List ByteArray} {w:Wd} (x:Act') (hk:x.kind=4) {n m:Nat} (hn:x.a=(n:Nat)) (hnm:w.hd[n]? =some ((m:Int)+1)) (hm1:m<1000) {t:Int} {vs:List Int} (ho:w.ob[m]? =some ⟨t,vs⟩) {j:Nat} {v:Int} (hj:x.b=(j:Nat)) (hv:vs[j]? =some v) (hl:w.hd.length=12) (hz:v≠0) (hf:plc0 w.hd<0) (h:vag (T (d+2)) vad vao [cWf true ts w,cAct true x,.a (.int .u8 114)]=some ([.a (.int .i64 0)],[])):rOf (d+3) va3 ts w x 9 0 w:=by
 have e1:Ae.wrap ((m:Int)+1-1)=(m:Nat):=by rw [vau]<;>omega
 have l1:=(Aa.1 hnm).1;have l2:=(Aa.1 ho).1;have l3:=(Aa.1 hv).1;have t1:=qhk (d:=d) (ts:=ts) hl hz hf;unfold rOf;obtain ⟨xk,xa,xb,xc,xp,xq⟩:=x;obtain ⟨ob,du,sl,hd,ir,dm,wa,he⟩:=w;dsimp only at *;subst hk hn hj;rw [vab rfl];simp -implicitDefEqProofs (disch:=try exact zd) only [go_sem,Ab,Ac,va3,vcs,cWf,h,hnm,e1,ho,hv,t1]
theorem qhd {d:Nat} {ts:List ByteArray} {w:Wd} (x:Act') (hk:x.kind=4) {n m:Nat} (hn:x.a=(n:Nat)) (hnm:w.hd[n]? =some ((m:Int)+1)) (hm1:m<1000) {t:Int} {vs:List Int} (ho:w.ob[m]? =some ⟨t,vs⟩) {j:Nat} {v:Int} (hj:x.b=(j:Nat)) (hv:vs[j]? =some v) (hl:w.hd.length=12) (hz:v≠0) (hf:¬plc0 w.hd<0) (h:vag (T (d+2)) vad vao [cWf true ts w,cAct true x,.a (.int .u8 114)]=some ([.a (.int .i64 0)],[])):rOf (d+3) va3 ts w x 0 (plc0 w.hd) {w with hd:=w.hd.set (plc0 w.hd).toNat v}:=by
 have e1:Ae.wrap ((m:Int)+1-1)=(m:Nat):=by rw [vau]<;>omega
 have l1:=(Aa.1 hnm).1;have l2:=(Aa.1 ho).1;have l3:=(Aa.1 hv).1;have t1:=qov (d:=d) (ts:=ts) hl hz hf;generalize plc0 w.hd=p at *;unfold rOf;obtain ⟨xk,xa,xb,xc,xp,xq⟩:=x;obtain ⟨ob,du,sl,hd,ir,dm,wa,he⟩:=w;dsimp only at *;subst hk hn hj;rw [vab rfl];simp -implicitDefEqProofs (disch:=try exact zd) only [go_sem,Ab,Ac,va3,vcs,cWf,h,hnm,e1,ho,hv,t1]
theorem qji {d:Nat} {ts:List ByteArray} {w:Wd} (x:Act') (hk:x.kind=5) {n m:Nat} (hn:x.a=(n:Nat)) (hnm:w.hd[n]? =some ((m:Int)+1)) (hm1:m<1000) {t:Int} {vs:List Int} (ho:w.ob[m]? =some ⟨t,vs⟩) {j:Nat} {v:Int} (hj:x.b=(j:Nat)) (hv:vs[j]? =some v) (hl:w.hd.length=12) (hc:x.c<=11) (h:vag (T (d+2)) vad vao [cWf true ts w,cAct true x,.a (.int .u8 114)]=some ([.a (.int .i64 0)],[])):rOf (d+3) va3 ts w x 0 0 {w with ob:=w.ob.set m ⟨t,vs.set j (refW w x.c)⟩}:=by
 have e1:Ae.wrap ((m:Int)+1-1)=(m:Nat):=by rw [vau]<;>omega
 have l1:=(Aa.1 hnm).1;have l2:=(Aa.1 ho).1;have l3:=(Aa.1 hv).1;have t1:=qna (d:=d+2) (ts:=ts) hl x.c hc;generalize refW w x.c=r at *;unfold rOf;obtain ⟨xk,xa,xb,xc,xp,xq⟩:=x;obtain ⟨ob,du,sl,hd,ir,dm,wa,he⟩:=w;dsimp only at *;subst hk hn hj;rw [vab rfl];simp -implicitDefEqProofs (disch:=try exact zd) only [go_sem,Ab,Ac,va3,vcs,cWf,h,hnm,e1,ho,hv,t1]
theorem qnu {d:Nat} {ts:List ByteArray} {B:Nat} {w:Wd} (I:Wok ts B w) (x:Act') (hk:x.kind=1) (hl:ts.length<=12) (c:¬(0<=x.a/\x.a<=(ts.length:Int)-1)):rOf (d+2) vaz ts w x 3 0 w:=by
 have t1:=vcy (Φ:=T (d+1)) (N:=vad) (n:=x.a) (lo:=0) (hi:=(ts.length:Int)-1);have w1:Ae.wrap ((ts.length:Int)-1)=(ts.length:Int)-1:=by rw [vau]<;>omega
 rw [decide_eq_false c] at t1;clear I;unfold rOf;obtain ⟨xk,xa,xb,xc,xp,xq⟩:=x;obtain ⟨ob,du,sl,hd,ir,dm,wa,he⟩:=w;dsimp only at *;subst hk;rw [vab rfl];simp -implicitDefEqProofs (disch:=try exact zd) only [go_sem,Ab,Ac,vaz,vb4,cWf,t1,w1]
theorem qoo {d:Nat} {ts:List ByteArray} {B:Nat} {w:Wd} (I:Wok ts B w) (x:Act') (hk:x.kind=1) (hl:ts.length<=12) (c:0<=x.a/\x.a<=(ts.length:Int)-1) (hf:plc0 w.hd<0):rOf (d+2) vaz ts w x 9 0 w:=by
 have t1:=vcy (Φ:=T (d+1)) (N:=vad) (n:=x.a) (lo:=0) (hi:=(ts.length:Int)-1);have w1:Ae.wrap ((ts.length:Int)-1)=(ts.length:Int)-1:=by rw [vau]<;>omega
 have t2:=vz4 (d:=d) (ts:=ts) I.hd;rw [decide_eq_true zo] at t1;generalize plc0 w.hd=p at *;clear I;unfold rOf;obtain ⟨xk,xa,xb,xc,xp,xq⟩:=x;obtain ⟨ob,du,sl,hd,ir,dm,wa,he⟩:=w;dsimp only at *;subst hk;rw [vab rfl];simp -implicitDefEqProofs (disch:=try exact zd) only [go_sem,Ab,Ac,vaz,vb4,cWf,t1,w1,t2,hf]
theorem qpe {d:Nat} {ts:List ByteArray} {B:Nat} {w:Wd} (I:Wok ts B w) (x:Act') (hk:x.kind=1) (hl:ts.length<=12) {n:Nat} {s:ByteArray} (hn:x.a=(n:Nat)) (hs:ts[n]? =some s) (hss:s.size<=23) (hf:¬plc0 w.hd<0) (hb:w.ob.length<=999):rOf (d+2) vaz ts w x 0 (plc0 w.hd) {w with ob:=w.ob++ [⟨n,Ah s.size 0⟩],du:=w.du++ [false],hd:=w.hd.set (plc0 w.hd).toNat ((w.ob.length+1:Nat):Int)}:=by
 have l1:=(Aa.1 hs).1;have t1:=vcy (Φ:=T (d+1)) (N:=vad) (n:=x.a) (lo:=0) (hi:=(ts.length:Int)-1);have w1:Ae.wrap ((ts.length:Int)-1)=(ts.length:Int)-1:=by rw [vau]<;>omega
 have t2:=vz4 (d:=d) (ts:=ts) I.hd;rw [decide_eq_true zo] at t1;have hdl:=I.hd;obtain ⟨p,hp,hlt⟩:=vvs hf;obtain ⟨y,hy⟩:∃y,w.hd[p]? =some y:=⟨_,Ad hlt⟩
 rw [hp] at t2 hf⊢;rw [Af];have hlo:(w.ob.map eObj).length<=999:=by simpa using hb
 have hdu:w.du.length<=999:=by rw [I.du];exact hb
 have ez:(Ah s.size (0:Int)).map vak=Ah s.size (.a (.int .i64 0)):=List.map_replicate;have em:(w.ob++ [(⟨n,Ah s.size 0⟩:Obj')]).map eObj=w.ob.map eObj++ [.st [.a (.int .i64 n),.sl vae (Ah s.size (.a (.int .i64 0)))]]:=by rw [vb5,vkc,ez]
 have ed:(w.du++ [false]).map eBl=w.du.map eBl++ [.a (.bool false)]:=vb5 _ _ _;unfold rOf;rw [show cWf false ts {w with ob:=w.ob++ [⟨n,Ah s.size 0⟩],du:=w.du++ [false],hd:=w.hd.set p ((w.ob.length+1:Nat):Int)}= .bx false [.sl true vam (ts.map eStr),.sl false vai (w.ob.map eObj++ [.st [.a (.int .i64 n),.sl vae (Ah s.size (.a (.int .i64 0)))]]),.sl false vb3 (w.du.map eBl++ [.a (.bool false)]),.sl false vae (w.sl.map vak),.sl false vae ((w.hd.set p ((w.ob.length+1:Nat):Int)).map vak),.a (.bool w.inR),.a (.bool w.dm),.sl false vai (w.wa.map eObj),.sl false vae (w.he.map vak)] by rw [<-em,<-ed]];clear em ed ez I;obtain ⟨xk,xa,xb,xc,xp,xq⟩:=x;obtain ⟨ob,du,sl,hd,ir,dm,wa,he⟩:=w;dsimp only at *;subst hk hn;rw [vab rfl];simp -implicitDefEqProofs (disch:=try exact zd) only [go_sem,Ab,Ac,vaz,vb4,cWf,hs,t1,w1,t2,hf,hy,Aj]
theorem qk3 {d:Nat} {ts:List ByteArray} {B:Nat} {w:Wd} (I:Wok ts B w) (x:Act') (hk:x.kind=6) (hu:usedW w x.a=false):rOf (d+2) vaz ts w x 2 0 w:=by
 have t1:=veb (d:=d) I x.a;rw [hu] at t1;clear I;unfold rOf;obtain ⟨xk,xa,xb,xc,xp,xq⟩:=x;obtain ⟨ob,du,sl,hd,ir,dm,wa,he⟩:=w;dsimp only at *;subst hk;rw [vab rfl];simp -implicitDefEqProofs (disch:=try exact zd) only [go_sem,Ab,Ac,vaz,vb4,cWf,t1]
theorem qn2 {d:Nat} {ts:List ByteArray} {B:Nat} {w:Wd} (I:Wok ts B w) (x:Act') (hk:x.kind=7) (hu:usedW w x.a=false):rOf (d+2) vaz ts w x 2 0 w:=by
 have t1:=veb (d:=d) I x.a;rw [hu] at t1;clear I;unfold rOf;obtain ⟨xk,xa,xb,xc,xp,xq⟩:=x;obtain ⟨ob,du,sl,hd,ir,dm,wa,he⟩:=w;dsimp only at *;subst hk;rw [vab rfl];simp -implicitDefEqProofs (disch:=try exact zd) only [go_sem,Ab,Ac,vaz,vb4,cWf,t1]
theorem qn9 {d:Nat} {ts:List ByteArray} {B:Nat} {w:Wd} (I:Wok ts B w) (x:Act') (hk:x.kind=8) (hu:usedW w x.a=false):rOf (d+2) vaz ts w x 2 0 w:=by
 have t1:=veb (d:=d) I x.a;rw [hu] at t1;clear I;unfold rOf;obtain ⟨xk,xa,xb,xc,xp,xq⟩:=x;obtain ⟨ob,du,sl,hd,ir,dm,wa,he⟩:=w;dsimp only at *;subst hk;rw [vab rfl];simp -implicitDefEqProofs (disch:=try exact zd) only [go_sem,Ab,Ac,vaz,vb4,cWf,t1]
theorem qlw {d:Nat} {ts:List ByteArray} {B:Nat} {w:Wd} (I:Wok ts B w) (x:Act') (hk:x.kind=9) (hu:usedW w x.a=false):rOf (d+2) vaz ts w x 2 0 w:=by
 have t1:=veb (d:=d) I x.a;rw [hu] at t1;clear I;unfold rOf;obtain ⟨xk,xa,xb,xc,xp,xq⟩:=x;obtain ⟨ob,du,sl,hd,ir,dm,wa,he⟩:=w;dsimp only at *;subst hk;rw [vab rfl];simp -implicitDefEqProofs (disch:=try exact zd) only [go_sem,Ab,Ac,vaz,vb4,cWf,t1]
theorem qmi {d:Nat} {ts:List ByteArray} {B:Nat} {w:Wd} (I:Wok ts B w) (x:Act') (hk:x.kind=7) (hu:usedW w x.a=true) (hv:usedW w x.b=false):rOf (d+2) vaz ts w x 2 0 w:=by
 have t1:=veb (d:=d) I x.a;have t2:=veb (d:=d) I x.b;rw [hu] at t1;rw [hv] at t2;clear I;unfold rOf;obtain ⟨xk,xa,xb,xc,xp,xq⟩:=x;obtain ⟨ob,du,sl,hd,ir,dm,wa,he⟩:=w;dsimp only at *;subst hk;rw [vab rfl];simp -implicitDefEqProofs (disch:=try exact zd) only [go_sem,Ab,Ac,vaz,vb4,cWf,t1,t2]
theorem qq2 {d:Nat} {ts:List ByteArray} {B:Nat} {w:Wd} (I:Wok ts B w) (x:Act') (hk:x.kind=6) (hu:usedW w x.a=true) {n m:Nat} (hn:x.a=(n:Nat)) (hnm:w.hd[n]? =some ((m:Int)+1)) (hm1:m<1000):rOf (d+2) vaz ts w x 0 0 {w with hd:=w.hd.set n 0}:=by
 have t1:=veb (d:=d) I x.a;rw [hu] at t1;have e1:Ae.wrap ((m:Int)+1-1)=(m:Nat):=by rw [vau]<;>omega
 have l1:=(Aa.1 hnm).1;clear I;unfold rOf;obtain ⟨xk,xa,xb,xc,xp,xq⟩:=x;obtain ⟨ob,du,sl,hd,ir,dm,wa,he⟩:=w;dsimp only at *;subst hk hn;rw [vab rfl];simp -implicitDefEqProofs (disch:=try exact zd) only [go_sem,Ab,Ac,vaz,vb4,cWf,t1,hnm,e1]
theorem qrz {d:Nat} {ts:List ByteArray} {B:Nat} {w:Wd} (I:Wok ts B w) (x:Act') (hk:x.kind=8) (hu:usedW w x.a=true) {n m:Nat} (hn:x.a=(n:Nat)) (hnm:w.hd[n]? =some ((m:Int)+1)) (hm1:m<1000) {t:Int} {vs:List Int} (ho:w.ob[m]? =some ⟨t,vs⟩):rOf (d+2) vaz ts w x 0 t w:=by
 have t1:=veb (d:=d) I x.a;rw [hu] at t1;have e1:Ae.wrap ((m:Int)+1-1)=(m:Nat):=by rw [vau]<;>omega
 have l1:=(Aa.1 hnm).1;have l2:=(Aa.1 ho).1;clear I;unfold rOf;obtain ⟨xk,xa,xb,xc,xp,xq⟩:=x;obtain ⟨ob,du,sl,hd,ir,dm,wa,he⟩:=w;dsimp only at *;subst hk hn;rw [vab rfl];simp -implicitDefEqProofs (disch:=try exact zd) only [go_sem,Ab,Ac,vaz,vb4,cWf,t1,hnm,e1,ho]
theorem qrn {d:Nat} {ts:List ByteArray} {B:Nat} {w:Wd} (I:Wok ts B w) (x:Act') (hk:x.kind=9) (hu:usedW w x.a=true) {n m:Nat} (hn:x.a=(n:Nat)) (hnm:w.hd[n]? =some ((m:Int)+1)) (hm1:m<1000) {u:Bool} (ho:w.du[m]? =some u):rOf (d+2) vaz ts w x 0 (if u then 1 else 0) w:=by
 have t1:=veb (d:=d) I x.a;rw [hu] at t1;have e1:Ae.wrap ((m:Int)+1-1)=(m:Nat):=by rw [vau]<;>omega
 have l1:=(Aa.1 hnm).1;have l2:=(Aa.1 ho).1;have t3:=qu3 (d:=d+1) u;clear I;unfold rOf;obtain ⟨xk,xa,xb,xc,xp,xq⟩:=x;obtain ⟨ob,du,sl,hd,ir,dm,wa,he⟩:=w;dsimp only at *;subst hk hn;cases u
 ·skip
  rw [vab rfl];simp -implicitDefEqProofs (disch:=try exact zd) only [go_sem,Ab,Ac,vaz,vb4,cWf,t1,hnm,e1,ho,t3]
 ·skip
  rw [vab rfl];simp -implicitDefEqProofs (disch:=try exact zd) only [go_sem,Ab,Ac,vaz,vb4,cWf,t1,hnm,e1,ho,t3]
theorem qq8 {d:Nat} {ts:List ByteArray} {B:Nat} {w:Wd} (I:Wok ts B w) (x:Act') (hk:x.kind=7) (hu:usedW w x.a=true) (hv:usedW w x.b=true) {n p:Nat} {y z:Int} (hn:x.a=(n:Nat)) (hp:x.b=(p:Nat)) (hy:w.hd[n]? =some y) (hz:w.hd[p]? =some z):rOf (d+2) vaz ts w x 0 (if y=z then 1 else 0) w:=by
 have t1:=veb (d:=d) I x.a;rw [hu] at t1;have t2:=veb (d:=d) I x.b;rw [hv] at t2;have l1:=(Aa.1 hy).1;have l2:=(Aa.1 hz).1;have t3:=qu3 (d:=d+1) (decide (y=z));clear I;unfold rOf;obtain ⟨xk,xa,xb,xc,xp,xq⟩:=x;obtain ⟨ob,du,sl,hd,ir,dm,wa,he⟩:=w;dsimp only at *;subst hk hn hp;by_cases c:y=z
 ·rw [if_pos c];rw [decide_eq_true c] at t3;rw [vab rfl];simp -implicitDefEqProofs (disch:=try exact zd) only [go_sem,Ab,Ac,vaz,vb4,cWf,t1,t2,hy,hz,c,t3]
 ·rw [if_neg c];rw [decide_eq_false c] at t3;rw [vab rfl];simp -implicitDefEqProofs (disch:=try exact zd) only [go_sem,Ab,Ac,vaz,vb4,cWf,t1,t2,hy,hz,c,t3]
theorem qla (l:List Obj') (hl:l.length<=1048576) (hv:∀o∈l,o.vals.length<=1048576):vbt Φ vad [0,3,4] vjc ⟨[(0,.sz vai (l.map eObj)),(3,.rf 0),(4,.a (.int .i64 (0:Nat)))],[(0,some (.sl false 0 vai ((l.take 0).map eObj)))],1⟩=
  some (.ext 0,⟨[(0,.sz vai (l.map eObj)),(3,.rf 0),(4,.a (.int .i64 (l.length:Nat))),(9,.a (.bool false))],[(0,some (.sl false 0 vai ((l.take l.length).map eObj)))],401⟩):=by
 refine vcj (m:=l.length) (λi=>⟨[(0,.sz vai (l.map eObj)),(3,.rf 0),(4,.a (.int .i64 (i:Nat)))],[(0,some (.sl false 0 vai ((l.take i).map eObj)))],1⟩) _ (vbc zo) (λi hi=> ?_) ?_
 ·have hw:=va0 i zo;have hlt:(i:Int)<l.length:=zo
  obtain ⟨o,ho⟩:∃b,l[i]? =some b:=⟨_,Ad zo⟩
  rw [qe1 ho,vb5];have hlen:((l.take i).map eObj).length<=1048576:=by simp;omega
  generalize (l.take i).map eObj=X at *;have hvl:=hv o (Ai ho);obtain ⟨t,vs⟩:=o;dsimp only at hvl;have hvm:(vs.map vak).length<=1048576:=by simpa using hvl
  unfold round vjc;simp -implicitDefEqProofs (disch:=try exact zd) only [go_sem,Ab,Ac,hw,hlt,ho,Aj]
  (show some _=some _;kernel_rfl)
 ·have hlt:¬(l.length:Int)<l.length:=zo
  unfold round vjc;simp -implicitDefEqProofs (disch:=try exact zd) only [go_sem,Ab,Ac,hlt]
theorem qos (l:List Obj') (hl:l.length<=1048576) (hv:∀o∈l,o.vals.length<=1048576):vag Φ vad vje [.sl true vai (l.map eObj)]=some ([.sl false vai (l.map eObj)],[]):=by
 have key:=qla (Φ:=Φ) l hl hv;rw [List.take_length] at key;rw [vab rfl];simp -implicitDefEqProofs (disch:=try exact zd) only [go_sem,Ab,Ac,vje,vqy,vaw key];done
def nmI (s:ByteArray) (vs:List Int):Nat->List Int
 |0=> []
 |i+1=>if kAt s i=114 then nmI s vs i++ [vs[i]?.getD 0] else nmI s vs i
theorem vr6 (s:ByteArray) (vs:List Int):∀i,(nmI s vs i).length<=i
 |0=>Ak _
 |i+1=>by
  have:=vr6 s vs i;unfold nmI;split
  ·rw [List.length_append];simp;omega
  ·omega
abbrev nNm (ts:List ByteArray) (w:Wd) (t:Int) (vs:List Int) (L:List PV):vcb:= [(0,some (.bx true [.sz vam (Ag eStr ts),.sz vai (Ag eObj w.ob),.sz vb3 (Ag eBl w.du),.sz vae (Ag vak w.sl),.sz vae (Ag vak w.hd),.a (.bool w.inR),.a (.bool w.dm),.sz vai (Ag eObj w.wa),.sz vae (Ag vak w.he)])),(1,some (.sl false 0 vae L)),(2,some (.bx false [.a (.int .i64 t),.sz vae (Ag vak vs)]))]
abbrev sNm (ts:List ByteArray) (w:Wd) (t:Int) (vs:List Int) (i:Nat) (L:List PV):St:=⟨[(0,.rf 0),(5,.rf 1),(6,.rf 2),(7,.a (.int .i64 (i:Nat)))],nNm ts w t vs L,3⟩
theorem qkm {d:Nat} {ts:List ByteArray} {w:Wd} {t:Nat} {vs:List Int} {s:ByteArray} (hs:ts[t]? =some s) (hz:vs.length=s.size) (hsz:s.size<=23):vbt (T (d+1)) vad [0,5,6,7] vfr (sNm ts w t vs 0 ((nmI s vs 0).map vak))=some (.ext 0,⟨[(0,.rf 0),(5,.rf 1),(6,.rf 2),(7,.a (.int .i64 vs.length)),(20,.a (.bool false))],nNm ts w t vs ((nmI s vs vs.length).map vak),503⟩):=by
 have hts:=(Aa.1 hs).1;refine vcj (m:=vs.length) (λi=>sNm ts w t vs i ((nmI s vs i).map vak)) _ (vbc zo) (λi hi=> ?_) ?_
 ·have hw:=va0 i zo;have hlt:(i:Int)<vs.length:=zo
  obtain ⟨v,hv⟩:∃b,vs[i]? =some b:=⟨_,Ad zo⟩
  have hx:=vj7 (s:=s) (j:=i) zo;have hl:=vr6 s vs i;have hstep:nmI s vs (i+1)=if kAt s i=114 then nmI s vs i++ [v] else nmI s vs i:=by
   conv=>lhs;unfold nmI
   rw [hv];rfl
  rw [hstep];generalize nmI s vs i=L at *;have hL:(L.map vak).length<=100:=by rw [List.length_map];omega
  clear hstep;obtain ⟨ob,du,sl,hd,ir,dm,wa,he⟩:=w;by_cases c:kAt s i=114
  ·rw [if_pos c,vb5];have ci:((kAt s i:Nat):Int)=114:=zo
   unfold round vfr sNm nNm;simp -implicitDefEqProofs (disch:=try exact zd) only [go_sem,Ab,Ac,hw,hlt,hs,hx,ci,hv,Aj]
   (show some _=some _;kernel_rfl)
  ·rw [if_neg c];have ci:¬((kAt s i:Nat):Int)=114:=zo
   unfold round vfr sNm nNm;simp -implicitDefEqProofs (disch:=try exact zd) only [go_sem,Ab,Ac,hw,hlt,hs,hx,ci]
   (show some _=some _;kernel_rfl)
 ·have hlt:¬(vs.length:Int)<vs.length:=zo
  generalize nmI s vs vs.length=L at *;obtain ⟨ob,du,sl,hd,ir,dm,wa,he⟩:=w;unfold round vfr sNm nNm;simp -implicitDefEqProofs (disch:=try exact zd) only [go_sem,Ab,Ac,hlt]
theorem qvi {d:Nat} {ts:List ByteArray} {w:Wd} {m t:Nat} {vs:List Int} {s:ByteArray} (ho:w.ob[m]? =some ⟨t,vs⟩) (hs:ts[t]? =some s) (hz:vs.length=s.size) (hsz:s.size<=23):vag (T (d+1)) vad vfy [cWf true ts w,.a (.int .i64 (m:Nat))]=some ([.sl false vae ((nmI s vs vs.length).map vak)],[]):=by
 have key:=qkm (d:=d) (ts:=ts) (w:=w) hs hz hsz;have l2:=(Aa.1 ho).1;have e0:(nmI s vs 0).map vak= []:=rfl;rw [e0] at key;generalize nmI s vs vs.length=L at *;obtain ⟨ob,du,sl,hd,ir,dm,wa,he⟩:=w;dsimp only at *;rw [vab rfl];simp -implicitDefEqProofs (disch:=try exact zd) only [go_sem,Ab,Ac,vfy,vn4,cWf,ho,vaw key]
abbrev nBk (ts:List ByteArray) (w:Wd) (L X:List PV):vcb:= [(0,some (.bx false [.sz vam (Ag eStr ts),.rf 1,.rf 2,.rf 3,.rf 4,.a (.bool w.inR),.a (.bool w.dm),.rf 5,.rf 6])),(1,some (.sl true 0 vai L)),(2,some (.sl true 0 vb3 (Ag eBl w.du))),(3,some (.sl true 0 vae (Ag vak w.sl))),(4,some (.sl true 0 vae (Ag vak w.hd))),(5,some (.sl true 0 vai X)),(6,some (.sl true 0 vae (Ag vak w.he)))]
abbrev sBk (ts:List ByteArray) (w:Wd) (i:Nat) (L X:List PV):St:=⟨[(0,.rf 0),(2,.a (.int .i64 (i:Nat))),(10000,.rf 0)],nBk ts w L X,7⟩
theorem qom {d:Nat} {ts:List ByteArray} {w:Wd} (hb:w.ob.length<=1000) (hdu:w.du.length=w.ob.length) (hwal:w.wa.length<=w.ob.length):
  ∃e,(∃X:List PV,e=⟨[(0,.rf 0),(2,.a (.int .i64 w.wa.length)),(9,.a (.bool false)),(10000,.rf 0)],nBk ts w ((backO w).map eObj) X,707⟩)/\
  vbt (T (d+1)) vad [0,2,10000] vf6 (sBk ts w 0 (w.ob.map eObj) (w.wa.map eObj))=some (.ext 0,e):=by
 refine ve5 (λr s=>∃(i:Nat) (X:List PV),i+r=w.wa.length/\Rest w.wa i X/\s=sBk ts w i ((bkI w i).map eObj) X) 0 _ (m:=w.wa.length) (vbc zo) ⟨0,_,zo,⟨by simp,λ_ _=>rfl⟩,rfl⟩ ?_
 rintro r _ hr ⟨i,X,hi,⟨hX,hXj⟩,rfl⟩
 have hO:=vhg w i;by_cases hpos:0<r
 ·left;have hw:=va0 i zo;have hlt:(i:Int)<X.length:=zo
  obtain ⟨o,ho⟩:∃b,w.wa[i]? =some b:=⟨_,Ad zo⟩
  have hx:X[i]? =some (eObj o):=by rw [hXj i (Ak _),List.getElem?_map,ho];rfl
  obtain ⟨u,hu⟩:∃b,w.du[i]? =some b:=⟨_,Ad zo⟩
  have h1:i<w.du.length:=zo
  have h2:i<X.length:=zo
  obtain ⟨o2,ho2⟩:∃b,(bkI w i)[i]? =some b:=⟨_,Ad zo⟩
  have h3:i<(bkI w i).length:=zo
  have hstep:bkI w (i+1)=if u=true then (bkI w i).set i o else bkI w i:=by
   show (if w.du[i]? =some true then (match w.wa[i]? with|some o=>(bkI w i).set i o|none=>bkI w i) else bkI w i)=_;rw [hu,ho];cases u<;>simp
  cases u with
  |false=>
   refine ⟨hpos,_,?_,i+1,X,zo,⟨hX,λj hj=>hXj j zo⟩,rfl⟩;rw [hstep,if_neg (by simp)];clear hXj ho hstep;generalize bkI w i=O at *;obtain ⟨ob,du,sl,hs,ir,dm,wa,he⟩:=w;obtain ⟨t,vs⟩:=o;dsimp only at *;rw [vkc] at hx;unfold round vf6;simp -implicitDefEqProofs (disch:=try exact zd) only [go_sem,Ab,Ac,hx,hu,hw,hlt]
   (show some _=some _;kernel_rfl)
  |true=>
   refine ⟨hpos,_,?_,i+1,X.set i (.st [.a (.int .i64 o.ty),.un]),zo,⟨by rw [List.length_set];exact hX,λj hj=>by rw [List.getElem?_set_ne zo];exact hXj j zo⟩,rfl⟩;rw [hstep,if_pos rfl];clear hXj ho hstep;generalize bkI w i=O at *;obtain ⟨ob,du,sl,hs,ir,dm,wa,he⟩:=w;obtain ⟨t,vs⟩:=o;dsimp only at *;rw [vkc] at hx;rw [show (O.set i ⟨t,vs⟩).map eObj=(O.map eObj).set i (eObj ⟨t,vs⟩) from List.map_set];unfold round vf6;simp -implicitDefEqProofs (disch:=try exact zd) only [go_sem,Ab,Ac,hx,hu,ho2,hw,hlt]
   (show some _=some _;kernel_rfl)
 ·right;obtain rfl:i=w.wa.length:=zo
  have hlt:¬((w.wa.length:Nat):Int)<X.length:=zo
  refine ⟨_,?_,X,rfl⟩;clear hXj;unfold backO;generalize bkI w w.wa.length=O at *;obtain ⟨ob,du,sl,hs,ir,dm,wa,he⟩:=w;dsimp only at *;unfold round vf6;simp -implicitDefEqProofs (disch:=try exact zd) only [go_sem,Ab,Ac,hlt]
theorem qu2 {d:Nat} {ts:List ByteArray} {w:Wd} {X:List PV}:vag (T d) vad ve8 [.bx false [.sl true vam (ts.map eStr),.sl false vai (w.ob.map eObj),.sl false vb3 (w.du.map eBl),.sl false vae (w.sl.map vak),.sl false vae (w.hd.map vak),.a (.bool w.inR),.a (.bool w.dm),.sl false vai X,.un]]=
  some ([],[cWf false ts ⟨w.ob,w.du,w.sl,w.hd,false,false,[],[]⟩]):=by
 rw [vab rfl];obtain ⟨ob,du,sl,hs,ir,dm,wa,he⟩:=w;simp -implicitDefEqProofs (disch:=try exact zd) only [go_sem,Ab,Ac,ve8,vln];rfl
theorem qox {d:Nat} {ts:List ByteArray} {w:Wd} (hb:w.ob.length<=1000) (hdu:w.du.length=w.ob.length) (hwal:w.wa.length<=w.ob.length):vag (T (d+1)) vad vhu [cWf false ts w]=some ([],[cWf false ts ⟨backO w,w.du,w.he,w.hd,false,false,[],[]⟩]):=by
 obtain ⟨_,⟨X,rfl⟩,key⟩:=qom (d:=d) (ts:=ts) hb hdu hwal;have h1:=qu2 (d:=d) (ts:=ts) (X:=X) (w:=⟨backO w,w.du,w.he,w.hd,w.inR,w.dm,w.wa,[]⟩);unfold backO at *;generalize bkI w w.wa.length=O at *;obtain ⟨ob,du,sl,hs,ir,dm,wa,he⟩:=w;dsimp only at *;rw [vab rfl];simp -implicitDefEqProofs (disch:=try exact zd) only [go_sem,Ab,Ac,vhu,vo9,cWf,vaw key,h1]
