/- Drawn handles and places in a world. -/
import Derived.Test.YtpgkmggaifgjkaaGreatDoorLawL
import Derived.Test.YtpgkmggaifgjkaaGreatDoorLawA
open Nat renaming reduceAdd->Aa,reduceBEq->Ab,zero_le->Ak
open List renaming cons_append->Ac,nil_append->Ad,getElem?_eq_getElem->Ae,mem_of_getElem?->Af,length_map->Ag,length_append->Ai,length_replicate->Aj,map_take->Al,map_map->Am
open Go.IntKind renaming i64->Ah
set_option linter.all false
namespace Go.Proofs.YtpgkmggaifgjkaaGreatDoor.VM
open Go Sy
variable {Φ:Nat->Option Callee} {N:Nat}
set_option maxRecDepth 100000
set_option maxHeartbeats 8000000
theorem zjm (l:List Bool):(l.map eBl).map PV.thaw=l.map eBl:=by rw [Am];rfl
attribute [go_sem] zjm
abbrev nWq (k:Nat) (w:Wd):vcb:= [(k,some (.sl true 0 vai (w.ob.map eObj))),(k+1,some (.sl true 0 vb3 (w.du.map eBl))),(k+2,some (.sl true 0 vae (w.sl.map vak))),(k+3,some (.sl true 0 vae (w.hd.map vak))),(k+4,some (.sl true 0 vai (w.wa.map eObj))),(k+5,some (.sl true 0 vae (w.he.map vak)))]
abbrev bWf (ts:List ByteArray) (w:Wd) (k:Nat):Option Node:=some (.bx false [.sz vam (ts.map eStr),.rf k,.rf (k+1),.rf (k+2),.rf (k+3),.a (.bool w.inR),.a (.bool w.dm),.rf (k+4),.rf (k+5)])
abbrev nHd (bs:List Nat) (p:Nat) (ts:List ByteArray) (w:Wd) (E:List Int):vcb:=(0,nRd bs p)::(1,bWf ts w 3)::(2,some (.sl false 0 vae (E.map vak)))::nWq 3 w
theorem qiu {bs:List Nat} {p:Nat} {ts:List ByteArray} {w:Wd} (hd:w.hd.length=12):∃e,(∃E:List Int,E.length<=12/\e=⟨[(0,.rf 0),(1,.rf 1),(5,.rf 2),(6,.a (.int .i64 (12:Nat))),(9,.a (.bool false)),(10000,.rf 0),(10001,.rf 1)],nHd bs p ts w E,209⟩)/\
  vbt Φ vad [0,1,5,6,10000,10001] vfh ⟨[(0,.rf 0),(1,.rf 1),(5,.rf 2),(6,.a (.int .i64 (0:Nat))),(10000,.rf 0),(10001,.rf 1)],nHd bs p ts w [],9⟩=some (.ext 0,e):=by
 refine ve5 (λr s=>∃(i:Nat) (E:List Int),i+r=12/\E.length<=i/\s=⟨[(0,.rf 0),(1,.rf 1),(5,.rf 2),(6,.a (.int .i64 (i:Nat))),(10000,.rf 0),(10001,.rf 1)],nHd bs p ts w E,9⟩) 0 _ (m:=12) (vbc zo) ⟨0,[],zo,by simp,rfl⟩ ?_
 rintro r _ hr ⟨i,E,hi,hE,rfl⟩
 by_cases hpos:0<r
 ·left;have hw:=va0 i zo;have hlt:(i:Int)<12:=zo
  have hlt2:i<12:=zo
  obtain ⟨x,hx⟩:∃b,w.hd[i]? =some b:=⟨_,Ae zo⟩
  by_cases c1:x>0
  ·refine ⟨hpos,_,?_,i+1,E++ [(i:Int)],zo,by rw [Ai];simp;omega,rfl⟩;obtain ⟨ob,du,sl,hs,ir,dm,wa,he⟩:=w;unfold round nHd vfh;rw [vb5];dsimp only at *;simp -implicitDefEqProofs (disch:=try exact zd) only [go_sem,Aa,Ab,hw,hlt,hx,c1]
   (show some _=some _;kernel_rfl)
  ·refine ⟨hpos,_,?_,i+1,E,zo,zo,rfl⟩;obtain ⟨ob,du,sl,hs,ir,dm,wa,he⟩:=w;unfold round nHd vfh;dsimp only at *;simp -implicitDefEqProofs (disch:=try exact zd) only [go_sem,Aa,Ab,hw,hlt,hx,c1]
   (show some _=some _;kernel_rfl)
 ·right;obtain rfl:i=12:=zo
  refine ⟨_,?_,E,zo,rfl⟩;obtain ⟨ob,du,sl,hs,ir,dm,wa,he⟩:=w;unfold round nHd vfh;simp -implicitDefEqProofs (disch:=try exact zd) only [go_sem,Aa,Ab]
theorem vsp {d:Nat} {bs:List Nat} (hb:Bs bs) {p:Nat} (hp:p<=bs.length) {ts:List ByteArray} {w:Wd} (hd:w.hd.length=12):∃(v:Int) (q:Nat),q<=bs.length/\
  vag (T (d+4)) vad vec [cRd bs p,cWf false ts w]=some ([.a (.int .i64 v)],[cRd bs q,cWf false ts w]):=by
 obtain ⟨_,⟨E,hE,rfl⟩,key⟩:=qiu (Φ:=T (d+4)) (bs:=bs) (p:=p) (ts:=ts) hd;unfold nHd at key;by_cases hl:(E.length:Int)=0
 ·obtain ⟨v,q,_,_,hq,h1⟩:=vhs (d:=d) hb hp (-1) 11 zo zo zo;refine ⟨v,q,hq,?_⟩;rw [vab rfl];obtain ⟨ob,du,sl,hs,ir,dm,wa,he⟩:=w;dsimp only at *;simp -implicitDefEqProofs (disch:=try exact zd) only [go_sem,Aa,Ab,vec,vik,vaw key,hl,h1];done
 ·obtain ⟨o,q,hq,h0⟩:=ved (d:=d+1) hb hp 16 zo zo;cases o with
  |true=>
   obtain ⟨v,q2,_,_,hq2,h1⟩:=vhs (d:=d) hb hq (-1) 11 zo zo zo;refine ⟨v,q2,hq2,?_⟩;rw [vab rfl];obtain ⟨ob,du,sl,hs,ir,dm,wa,he⟩:=w;dsimp only at *;simp -implicitDefEqProofs (disch:=try exact zd) only [go_sem,Aa,Ab,vec,vik,vaw key,hl,h0,h1];done
  |false=>
   obtain ⟨v,q2,hv,hq2,h1⟩:=vky (d:=d+2) hb hq E.length zo;have hvl:v<E.length:=zo
   obtain ⟨y,hy⟩:∃b,E[v]? =some b:=⟨_,Ae hvl⟩
   refine ⟨y,q2,hq2,?_⟩;rw [vab rfl];obtain ⟨ob,du,sl,hs,ir,dm,wa,he⟩:=w;dsimp only at *;simp -implicitDefEqProofs (disch:=try exact zd) only [go_sem,Aa,Ab,vec,vik,vaw key,hl,h0,h1,hy];done
abbrev nPc (bs:List Nat) (p:Nat) (ts:List ByteArray) (w:Wd) (E:List Int):vcb:=(0,nRd bs p)::(1,some (.sl false 0 vae (E.map vak)))::(2,bWf ts w 3)::nWq 3 w
theorem qnl {bs:List Nat} {p:Nat} {ts:List ByteArray} {w:Wd} {s:ByteArray} (hs:s.size<=23) (k:Nat):∃e,(∃E:List Int,E.length<=23/\e=⟨[(0,.rf 0),(3,.a (.int .u8 (k:Nat))),(9,.rf 1),(10,.a (.string s)),(11,.a (.int .i64 (s.size:Nat))),(40,.a (.bool false)),(10000,.rf 0),(10001,.rf 2)],nPc bs p ts w E,409⟩)/\
  vbt Φ vad [0,3,9,10,11,10000,10001] vfo ⟨[(0,.rf 0),(3,.a (.int .u8 (k:Nat))),(9,.rf 1),(10,.a (.string s)),(11,.a (.int .i64 (0:Nat))),(10000,.rf 0),(10001,.rf 2)],nPc bs p ts w [],9⟩=some (.ext 0,e):=by
 refine ve5 (λr st=>∃(i:Nat) (E:List Int),i+r=s.size/\E.length<=i/\st=⟨[(0,.rf 0),(3,.a (.int .u8 (k:Nat))),(9,.rf 1),(10,.a (.string s)),(11,.a (.int .i64 (i:Nat))),(10000,.rf 0),(10001,.rf 2)],nPc bs p ts w E,9⟩) 0 _ (m:=s.size) (vbc zo) ⟨0,[],zo,by simp,rfl⟩ ?_
 rintro r _ hr ⟨i,E,hi,hE,rfl⟩
 obtain ⟨ob,du,sl,hs,ir,dm,wa,he⟩:=w;by_cases hpos:0<r
 ·left;have hw:=va0 i zo;have hlt:(i:Int)<s.size:=zo
  have hlt2:i<s.size:=zo
  have hx:=vj7 (s:=s) (j:=i) hlt2;by_cases c1:(kAt s i:Int)=k
  ·refine ⟨hpos,_,?_,i+1,E++ [(i:Int)],zo,by rw [Ai];simp;omega,rfl⟩;unfold round nPc vfo;rw [vb5];dsimp only at *;generalize kAt s i=y at *;simp -implicitDefEqProofs (disch:=try exact zd) only [go_sem,Aa,Ab,hw,hlt,hx,c1]
   (show some _=some _;kernel_rfl)
  ·refine ⟨hpos,_,?_,i+1,E,zo,zo,rfl⟩;unfold round nPc vfo;dsimp only at *;generalize kAt s i=y at *;simp -implicitDefEqProofs (disch:=try exact zd) only [go_sem,Aa,Ab,hw,hlt,hx,c1]
   (show some _=some _;kernel_rfl)
 ·right;obtain rfl:i=s.size:=zo
  have hlt:¬((s.size:Nat):Int)<s.size:=zo
  refine ⟨_,?_,E,zo,rfl⟩;unfold round nPc vfo;simp -implicitDefEqProofs (disch:=try exact zd) only [go_sem,Aa,Ab,hlt]
theorem vp7 {d:Nat} {bs:List Nat} (hb:Bs bs) {p:Nat} (hp:p<=bs.length) {ts:List ByteArray} {B:Nat} {w:Wd} (I:Wok ts B w) (hT:Ty23 ts) (h:Int) (k:Nat) (hk:k<256):∃(v:Int) (q:Nat),q<=bs.length/\
  vag (T (d+4)) vad vdn [cRd bs p,cWf false ts w,.a (.int .i64 h),.a (.int .u8 (k:Nat))]=some ([.a (.int .i64 v)],[cRd bs q,cWf false ts w]):=by
 have h1:=veb (d:=d+2) I h;cases hu:usedW w h with
 |false=>
  rw [hu] at h1;obtain ⟨v,q,_,_,hq,h2⟩:=vhs (d:=d) hb hp 0 3 zo zo zo;refine ⟨v,q,hq,?_⟩;rw [vab rfl];obtain ⟨ob,du,sl,hs,ir,dm,wa,he⟩:=w;simp -implicitDefEqProofs (disch:=try exact zd) only [go_sem,Aa,Ab,vdn,vg7,h1,h2];done
 |true=>
  rw [hu] at h1;obtain ⟨n,m,hn,hn12,hnm,hm,_,_⟩:=vht I hu;obtain ⟨o,ho⟩:∃o,w.ob[m]? =some o:=⟨_,Ae hm⟩
  obtain ⟨s,g1,g2,g3,g4⟩:=I.ob o (Af ho);have hsz:=hT.z s (Af g1);have hbb:=I.bb;have hB:=I.b;have hdl:=I.hd;have e1:Ah.wrap ((m:Int)+1-1)=(m:Nat):=by rw [vau]<;>omega
  obtain ⟨_,⟨E,hE,rfl⟩,key⟩:=qnl (Φ:=T (d+4)) (bs:=bs) (p:=p) (ts:=ts) (w:=w) hsz k;unfold nPc at key;clear I hu
  have fin:∀(v:Int) (q:Nat),q<=bs.length->((E.length=0/\vag (T (d+3)) vad vc9 [cRd bs p,.a (.int .i64 0),.a (.int .i64 3)]=some ([.a (.int .i64 v)],[cRd bs q]))\/
    (¬(E.length:Int)=0/\∃q0,vag (T (d+3)) vad vcl [cRd bs p,.a (.int .i64 20)]=some ([.a (.bool true)],[cRd bs q0])/\vag (T (d+3)) vad vc9 [cRd bs q0,.a (.int .i64 0),.a (.int .i64 3)]=some ([.a (.int .i64 v)],[cRd bs q]))\/
    (¬(E.length:Int)=0/\∃q0 u,vag (T (d+3)) vad vcl [cRd bs p,.a (.int .i64 20)]=some ([.a (.bool false)],[cRd bs q0])/\vag (T (d+3)) vad vdo [cRd bs q0,.a (.int .i64 (E.length:Nat))]=some ([.a (.int .i64 (u:Nat))],[cRd bs q])/\E[u]? =some v/\u<E.length))->
    ∃(v:Int) (q:Nat),q<=bs.length/\vag (T (d+4)) vad vdn [cRd bs p,cWf false ts w,.a (.int .i64 h),.a (.int .u8 (k:Nat))]=some ([.a (.int .i64 v)],[cRd bs q,cWf false ts w]):=by
   intro v q hq hc;refine ⟨v,q,hq,?_⟩;rw [vab rfl];obtain ⟨ob,du,sl,hs,ir,dm,wa,he⟩:=w;obtain ⟨t,vs⟩:=o;dsimp only at *;obtain ⟨t,rfl⟩:∃n:Nat,t=n:=⟨t.toNat,zo⟩
   rw [Int.toNat_natCast] at g1;have htl:=(List.getElem?_eq_some_iff.1 g1).1;subst hn;rcases hc with ⟨c1,h2⟩|⟨c1,q0,h2,h3⟩|⟨c1,q0,u,h2,h3,h4,h5⟩
   ·have c1':(E.length:Int)=0:=zo
    simp -implicitDefEqProofs (disch:=try exact zd) only [go_sem,Aa,Ab,vdn,vg7,h1,hnm,e1,ho,g1,vaw key,c1',h2]
   ·simp -implicitDefEqProofs (disch:=try exact zd) only [go_sem,Aa,Ab,vdn,vg7,h1,hnm,e1,ho,g1,vaw key,c1,h2,h3]
   ·simp -implicitDefEqProofs (disch:=try exact zd) only [go_sem,Aa,Ab,vdn,vg7,h1,hnm,e1,ho,g1,vaw key,c1,h2,h3,h4]
  by_cases hl:E.length=0
  ·obtain ⟨v,q,_,_,hq,h2⟩:=vhs (d:=d) hb hp 0 3 zo zo zo;exact fin v q hq (.inl ⟨hl,h2⟩)
  ·obtain ⟨o,q,hq,h0⟩:=ved (d:=d+1) hb hp 20 zo zo;cases o with
   |true=>
    obtain ⟨v,q2,_,_,hq2,h2⟩:=vhs (d:=d) hb hq 0 3 zo zo zo;exact fin v q2 hq2 (.inr (.inl ⟨zo,q,h0,h2⟩))
   |false=>
    obtain ⟨v,q2,hv,hq2,h2⟩:=vky (d:=d+2) hb hq E.length zo;have hvl:v<E.length:=zo
    exact fin _ q2 hq2 (.inr (.inr ⟨zo,q,v,h0,h2,Ae hvl,hvl⟩))
theorem vkn {d:Nat} {bs:List Nat} (hb:Bs bs) {p:Nat} (hp:p<=bs.length) {ts:List ByteArray} {B:Nat} {w:Wd} (I:Wok ts B w) (hT:Ty23 ts) (k pw h:Int):∃(y:Act') (q:Nat) (u:CV),y.keep.length<=100/\q<=bs.length/\(u= .un\/u= .sl false vae [])/\
  vag (T (d+5)) vad vbp [cRd bs p,cWf false ts w,.st [.a (.int .i64 k),.a (.int .i64 0),.a (.int .i64 0),.a (.int .i64 0),.a (.int .i64 pw),.sl false vae []],.a (.int .i64 h)]=some ([cAct false y],[cRd bs q,cWf false ts w,.st [.a (.int .i64 k),.a (.int .i64 0),.a (.int .i64 0),.a (.int .i64 0),.a (.int .i64 pw),u]]):=by
 have hn0:=hT.n0;have hn1:=hT.n1;have hdl:=I.hd;by_cases k1:k=1
 ·subst k1;obtain ⟨v,q,_,hq,h1⟩:=vky (d:=d+3) hb hp ts.length zo;obtain ⟨o,q1,hq1,h2⟩:=ved (d:=d+2) hb hq 24 zo zo;have e1:Ah.wrap ((ts.length:Int)-1)=(ts.length:Int)-1:=by rw [vau]<;>omega
  cases o with
  |false=>
   refine ⟨⟨1,v,0,0,pw,[]⟩,q1,.un,by simp,hq1,.inl rfl,?_⟩;rw [vab rfl];obtain ⟨ob,du,sl,hs,ir,dm,wa,he⟩:=w;simp -implicitDefEqProofs (disch:=try exact zd) only [go_sem,Aa,Ab,vbp,vbv,h1,h2];rfl
  |true=>
   obtain ⟨v2,q2,_,_,hq2,h3⟩:=vhs (d:=d+1) hb hq1 0 ((ts.length:Int)-1) zo zo zo;refine ⟨⟨1,v2,0,0,pw,[]⟩,q2,.un,by simp,hq2,.inl rfl,?_⟩;rw [vab rfl];obtain ⟨ob,du,sl,hs,ir,dm,wa,he⟩:=w;simp -implicitDefEqProofs (disch:=try exact zd) only [go_sem,Aa,Ab,vbp,vbv,h1,h2,e1,h3];rfl
 by_cases k2:k=2
 ·subst k2;obtain ⟨v,q,hq,h1⟩:=vp7 (d:=d) hb hp I hT h 105 zo;rw [show ((105:Nat):Int)=105 from rfl] at h1;refine ⟨⟨2,h,v,0,pw,[]⟩,q,.un,by simp,hq,.inl rfl,?_⟩;rw [vab rfl];obtain ⟨ob,du,sl,hs,ir,dm,wa,he⟩:=w;simp -implicitDefEqProofs (disch:=try exact zd) only [go_sem,Aa,Ab,vbp,vbv,h1];rfl
 by_cases k3:k=3
 ·subst k3;obtain ⟨v,q,hq,h1⟩:=vp7 (d:=d) hb hp I hT h 105 zo;rw [show ((105:Nat):Int)=105 from rfl] at h1;obtain ⟨u,q1,hu,hq1,h2⟩:=vb0 (d:=d+3) hb hq 1000 zo zo;have e1:Ah.wrap ((u:Int)-100)=(u:Int)-100:=by rw [vau]<;>omega
  refine ⟨⟨3,h,v,(u:Int)-100,pw,[]⟩,q1,.un,by simp,hq1,.inl rfl,?_⟩;rw [vab rfl];obtain ⟨ob,du,sl,hs,ir,dm,wa,he⟩:=w;simp -implicitDefEqProofs (disch:=try exact zd) only [go_sem,Aa,Ab,vbp,vbv,h1,h2,e1];rfl
 by_cases k4:k=4
 ·subst k4;obtain ⟨v,q,hq,h1⟩:=vp7 (d:=d) hb hp I hT h 114 zo;rw [show ((114:Nat):Int)=114 from rfl] at h1;refine ⟨⟨4,h,v,0,pw,[]⟩,q,.un,by simp,hq,.inl rfl,?_⟩;rw [vab rfl];obtain ⟨ob,du,sl,hs,ir,dm,wa,he⟩:=w;simp -implicitDefEqProofs (disch:=try exact zd) only [go_sem,Aa,Ab,vbp,vbv,h1];rfl
 by_cases k5:k=5
 ·subst k5;obtain ⟨v,q,hq,h1⟩:=vp7 (d:=d) hb hp I hT h 114 zo;rw [show ((114:Nat):Int)=114 from rfl] at h1;obtain ⟨c,q1,hq1,h2⟩:=vsp (d:=d) hb hq (ts:=ts) hdl;obtain ⟨o,q2,hq2,h3⟩:=ved (d:=d+2) hb hq1 8 zo zo;cases o with
  |false=>
   refine ⟨⟨5,h,v,c,pw,[]⟩,q2,.un,by simp,hq2,.inl rfl,?_⟩;rw [vab rfl];obtain ⟨ob,du,sl,hs,ir,dm,wa,he⟩:=w;simp (maxSteps:=3000000) -implicitDefEqProofs (disch:=try exact zd) only [go_sem,Aa,Ab,vbp,vbv,h1,h2,h3];rfl
  |true=>
   refine ⟨⟨5,h,v,-1,pw,[]⟩,q2,.un,by simp,hq2,.inl rfl,?_⟩;rw [vab rfl];obtain ⟨ob,du,sl,hs,ir,dm,wa,he⟩:=w;simp (maxSteps:=3000000) -implicitDefEqProofs (disch:=try exact zd) only [go_sem,Aa,Ab,vbp,vbv,h1,h2,h3];rfl
 by_cases k7:k=7
 ·subst k7;obtain ⟨c,q,hq,h1⟩:=vsp (d:=d) hb hp (ts:=ts) hdl;refine ⟨⟨7,h,c,0,pw,[]⟩,q,.un,by simp,hq,.inl rfl,?_⟩;rw [vab rfl];obtain ⟨ob,du,sl,hs,ir,dm,wa,he⟩:=w;simp -implicitDefEqProofs (disch:=try exact zd) only [go_sem,Aa,Ab,vbp,vbv,h1];rfl
 by_cases k11:k=11
 ·subst k11;obtain ⟨a,q,ha,hq,h1⟩:=vb0 (d:=d+3) hb hp 3 zo zo;obtain ⟨o,q1,hq1,h2⟩:=ved (d:=d+2) hb hq 8 zo zo;obtain ⟨o2,q2,hq2,h3⟩:=ved (d:=d+2) hb hq1 30 zo zo;obtain ⟨a2,q3,_,_,hq3,h4⟩:=vhs (d:=d+1) hb hq2 0 7 zo zo zo;cases o with
  |false=>
   cases o2 with
   |false=>
    refine ⟨⟨11,a,h,0,pw,[]⟩,q2,.un,by simp,hq2,.inl rfl,?_⟩;rw [vab rfl];obtain ⟨ob,du,sl,hs,ir,dm,wa,he⟩:=w;simp (maxSteps:=3000000) -implicitDefEqProofs (disch:=try exact zd) only [go_sem,Aa,Ab,vbp,vbv,h1,h2,h3];rfl
   |true=>
    refine ⟨⟨11,a2,h,0,pw,[]⟩,q3,.un,by simp,hq3,.inl rfl,?_⟩;rw [vab rfl];obtain ⟨ob,du,sl,hs,ir,dm,wa,he⟩:=w;simp -implicitDefEqProofs (disch:=try exact zd) only [go_sem,Aa,Ab,vbp,vbv,h1,h2,h3,h4];rfl
  |true=>
   cases o2 with
   |false=>
    refine ⟨⟨11,a,-1,0,pw,[]⟩,q2,.un,by simp,hq2,.inl rfl,?_⟩;rw [vab rfl];obtain ⟨ob,du,sl,hs,ir,dm,wa,he⟩:=w;simp (maxSteps:=3000000) -implicitDefEqProofs (disch:=try exact zd) only [go_sem,Aa,Ab,vbp,vbv,h1,h2,h3];rfl
   |true=>
    refine ⟨⟨11,a2,-1,0,pw,[]⟩,q3,.un,by simp,hq3,.inl rfl,?_⟩;rw [vab rfl];obtain ⟨ob,du,sl,hs,ir,dm,wa,he⟩:=w;simp -implicitDefEqProofs (disch:=try exact zd) only [go_sem,Aa,Ab,vbp,vbv,h1,h2,h3,h4];rfl
 by_cases k12:k=12
 ·subst k12;obtain ⟨a,q,ha,hq,h1⟩:=vb0 (d:=d+3) hb hp 3 zo zo;refine ⟨⟨12,a,0,0,pw,[]⟩,q,.un,by simp,hq,.inl rfl,?_⟩;rw [vab rfl];obtain ⟨ob,du,sl,hs,ir,dm,wa,he⟩:=w;simp -implicitDefEqProofs (disch:=try exact zd) only [go_sem,Aa,Ab,vbp,vbv,h1];rfl
 by_cases k17:k=17
 ·subst k17;obtain ⟨a,q,ha,hq,h1⟩:=vb0 (d:=d+3) hb hp 24 zo zo;refine ⟨⟨17,a,0,0,pw,[]⟩,q,.un,by simp,hq,.inl rfl,?_⟩;rw [vab rfl];obtain ⟨ob,du,sl,hs,ir,dm,wa,he⟩:=w;simp -implicitDefEqProofs (disch:=try exact zd) only [go_sem,Aa,Ab,vbp,vbv,h1];rfl
 by_cases k18:k=18
 ·subst k18;obtain ⟨a,q,ha,hq,h1⟩:=vb0 (d:=d+3) hb hp 10 zo zo;obtain ⟨X,q1,hX,hq1,h2⟩:=qne (d:=d) hb hq a zo;refine ⟨⟨18,h,0,0,pw,X⟩,q1,.sl false vae [],by show X.length<=100;omega,hq1,.inr rfl,?_⟩;rw [vab rfl];obtain ⟨ob,du,sl,hs,ir,dm,wa,he⟩:=w;simp -implicitDefEqProofs (disch:=try exact zd) only [go_sem,Aa,Ab,vbp,vbv,h1,h2]
 refine ⟨⟨k,h,0,0,pw,[]⟩,p,.un,by simp,hp,.inl rfl,?_⟩;rw [vab rfl];obtain ⟨ob,du,sl,hs,ir,dm,wa,he⟩:=w;simp -implicitDefEqProofs (disch:=try exact zd) only [go_sem,Aa,Ab,vbp,vbv,k1,k2,k3,k4,k5,k7,k11,k12,k17,k18];rfl
theorem qlv {d:Nat} {bs:List Nat} (hb:Bs bs) {p:Nat} (hp:p<=bs.length) {ts:List ByteArray} {B:Nat} {w:Wd} (I:Wok ts B w) (hT:Ty23 ts):∃(y:Act') (q:Nat),y.keep.length<=100/\q<=bs.length/\
  vag (T (d+6)) vad vc3 [cRd bs p,cWf false ts w]=some ([cAct false y],[cRd bs q,cWf false ts w]):=by
 obtain ⟨h,q1,hq1,h1⟩:=vsp (d:=d+1) hb hp (ts:=ts) I.hd;have h2:=veb (d:=d+4) I h;generalize usedW w h=uv at h2;obtain ⟨oa,qa,hqa,ha⟩:=ved (d:=d+3) hb hq1 6 zo zo;by_cases cA:uv=false/\oa=false
 ·obtain ⟨rfl,rfl⟩:=cA;obtain ⟨v,q2,hv,hq2,h3⟩:=vb0 (d:=d+4) hb hqa 3 zo zo;obtain ⟨k,hk⟩:∃k:Int,([PV.a (.int .i64 1),PV.a (.int .i64 1),PV.a (.int .i64 12)]:List PV)[v]? =some (PV.a (.int .i64 k)):=by
   have:v=0\/v=1\/v=2:=zo
   rcases this with rfl|rfl|rfl<;>exact ⟨_,rfl⟩
  have hv3:v<3:=zo
  obtain ⟨y,qz,u,hy,hqz,hu,h9⟩:=vkn (d:=d) hb hq2 I hT k (-1) h;refine ⟨y,qz,hy,hqz,?_⟩;clear I;rw [vab rfl];obtain ⟨ob,du,sl,hs,ir,dm,wa,he⟩:=w;simp (maxSteps:=3000000) -implicitDefEqProofs (disch:=try exact zd) only [go_sem,Aa,Ab,vc3,vd9,h1,h2,ha,h3,hk,h9]
 obtain ⟨qA,hqA,A⟩:∃qA,qA<=bs.length/\(uv=true/\qA=q1/\true=true\/uv=false/\vag (T (d+5)) vad vcl [cRd bs q1,.a (.int .i64 6)]=some ([.a (.bool true)],[cRd bs qA])):=by
  cases uv
  ·cases oa
   ·exact absurd ⟨rfl,rfl⟩ cA
   ·exact ⟨qa,hqa,.inr ⟨rfl,ha⟩⟩
  ·exact ⟨q1,hq1,.inl ⟨rfl,rfl,rfl⟩⟩
 clear cA ha;obtain ⟨ob2,qb,hqb,hb2⟩:=ved (d:=d+3) hb hqA 3 zo zo;by_cases cB:w.dm=true/\ob2=false
 ·obtain ⟨hdm,rfl⟩:=cB;obtain ⟨y,qz,u,hy,hqz,hu,h9⟩:=vkn (d:=d) hb hqb I hT 14 (-1) h;refine ⟨y,qz,hy,hqz,?_⟩;clear I;rw [vab rfl];obtain ⟨ob,du,sl,hs,ir,dm,wa,he⟩:=w;dsimp only at *;subst hdm
  (rcases A with ⟨rfl,rfl,hA'⟩|⟨rfl,hA'⟩)<;>simp (maxSteps:=3000000) -implicitDefEqProofs (disch:=try exact zd) only [go_sem,Aa,Ab,vc3,vd9,h1,h2,hA',hb2,h9]
 obtain ⟨qB,hqB,Bd⟩:∃qB,qB<=bs.length/\(w.dm=false/\qB=qA/\true=true\/w.dm=true/\vag (T (d+5)) vad vcl [cRd bs qA,.a (.int .i64 3)]=some ([.a (.bool true)],[cRd bs qB])):=by
  cases hdm:w.dm
  ·exact ⟨qA,hqA,.inl ⟨rfl,rfl,rfl⟩⟩
  ·cases ob2
   ·exact absurd ⟨hdm,rfl⟩ cB
   ·exact ⟨qb,hqb,.inr ⟨rfl,hb2⟩⟩
 clear cB hb2;obtain ⟨o3,q3,hq3,h3⟩:=ved (d:=d+3) hb hqB 6 zo zo;obtain ⟨o4,q4,hq4,h4⟩:=ved (d:=d+3) hb hq3 3 zo zo;obtain ⟨o5,q5,hq5,h5⟩:=ved (d:=d+3) hb hqB 5 zo zo;by_cases cC:w.inR=true/\o3=true
 ·obtain ⟨hin,rfl⟩:=cC;obtain ⟨v,q6,hv,hq6,h6⟩:=vb0 (d:=d+4) hb hq3 4 zo zo;obtain ⟨k,hk⟩:∃k:Int,([PV.a (.int .i64 13),PV.a (.int .i64 13),PV.a (.int .i64 13),PV.a (.int .i64 14)]:List PV)[v]? =some (PV.a (.int .i64 k)):=by
   have:v=0\/v=1\/v=2\/v=3:=zo
   rcases this with rfl|rfl|rfl|rfl<;>exact ⟨_,rfl⟩
  have hv3:v<4:=zo
  obtain ⟨y,qz,u,hy,hqz,hu,h9⟩:=vkn (d:=d) hb hq6 I hT k (-1) h;refine ⟨y,qz,hy,hqz,?_⟩;clear I;rw [vab rfl];obtain ⟨ob,du,sl,hs,ir,dm,wa,he⟩:=w;dsimp only at *;subst hin
  (rcases A with ⟨rfl,rfl,hA'⟩|⟨rfl,hA'⟩<;>rcases Bd with ⟨rfl,rfl,hBd'⟩|⟨rfl,hBd'⟩)<;>simp (maxSteps:=3000000) -implicitDefEqProofs (disch:=try exact zd) only [go_sem,Aa,Ab,vc3,vd9,h1,h2,hA',hBd',h3,h6,hk,h9]
 by_cases cD:w.inR=true/\o4=true
 ·obtain ⟨hin,rfl⟩:=cD;obtain rfl:o3=false:=by cases o3;rfl;exact absurd ⟨hin,rfl⟩ cC
  obtain ⟨y,qz,u,hy,hqz,hu,h9⟩:=vkn (d:=d) hb hq4 I hT 11 (-1) h;refine ⟨y,qz,hy,hqz,?_⟩;clear I;rw [vab rfl];obtain ⟨ob,du,sl,hs,ir,dm,wa,he⟩:=w;dsimp only at *;subst hin
  (rcases A with ⟨rfl,rfl,hA'⟩|⟨rfl,hA'⟩<;>rcases Bd with ⟨rfl,rfl,hBd'⟩|⟨rfl,hBd'⟩)<;>simp (maxSteps:=3000000) -implicitDefEqProofs (disch:=try exact zd) only [go_sem,Aa,Ab,vc3,vd9,h1,h2,hA',hBd',h3,h4,h9]
 by_cases cE:w.inR=false/\o5=true
 ·obtain ⟨hin,rfl⟩:=cE;obtain ⟨y,qz,u,hy,hqz,hu,h9⟩:=vkn (d:=d) hb hq5 I hT 10 (-1) h;refine ⟨y,qz,hy,hqz,?_⟩;clear I;rw [vab rfl];obtain ⟨ob,du,sl,hs,ir,dm,wa,he⟩:=w;dsimp only at *;subst hin
  (rcases A with ⟨rfl,rfl,hA'⟩|⟨rfl,hA'⟩<;>rcases Bd with ⟨rfl,rfl,hBd'⟩|⟨rfl,hBd'⟩)<;>simp (maxSteps:=3000000) -implicitDefEqProofs (disch:=try exact zd) only [go_sem,Aa,Ab,vc3,vd9,h1,h2,hA',hBd',h5,h9]
 obtain ⟨qC,hqC,C⟩:∃qC,qC<=bs.length/\((w.inR=false/\true=true/\vag (T (d+5)) vad vcl [cRd bs qB,.a (.int .i64 5)]=some ([.a (.bool false)],[cRd bs qC]))\/(w.inR=true/\vag (T (d+5)) vad vcl [cRd bs qB,.a (.int .i64 6)]=some ([.a (.bool false)],[cRd bs q3])/\vag (T (d+5)) vad vcl [cRd bs q3,.a (.int .i64 3)]=some ([.a (.bool false)],[cRd bs qC]))):=by
  cases hin:w.inR
  ·cases o5
   ·exact ⟨q5,hq5,.inl ⟨rfl,rfl,h5⟩⟩
   ·exact absurd ⟨hin,rfl⟩ cE
  ·cases o3
   ·cases o4
    ·exact ⟨q4,hq4,.inr ⟨rfl,h3,h4⟩⟩
    ·exact absurd ⟨hin,rfl⟩ cD
   ·exact absurd ⟨hin,rfl⟩ cC
 clear cC cD cE h3 h4 h5;obtain ⟨o6,q6,hq6,h6⟩:=ved (d:=d+3) hb hqC 30 zo zo;cases o6 with
 |true=>
  obtain ⟨k,q7,_,_,hq7,h7⟩:=vhs (d:=d+2) hb hq6 1 18 zo zo zo;obtain ⟨y,qz,u,hy,hqz,hu,h9⟩:=vkn (d:=d) hb hq7 I hT k (-1) h;refine ⟨y,qz,hy,hqz,?_⟩;clear I;rw [vab rfl];obtain ⟨ob,du,sl,hs,ir,dm,wa,he⟩:=w;dsimp only at *
  (rcases A with ⟨rfl,rfl,hA'⟩|⟨rfl,hA'⟩<;>rcases Bd with ⟨rfl,rfl,hB'⟩|⟨rfl,hB'⟩<;>rcases C with ⟨rfl,h3,h4⟩|⟨rfl,h3,h4⟩)<;>simp (maxSteps:=3000000) -implicitDefEqProofs (disch:=try exact zd) only [go_sem,Aa,Ab,vc3,vd9,h1,h2,hA',hB',h3,h4,h6,h7,h9]
 |false=>
  obtain ⟨o7,q7,hq7,h7⟩:=ved (d:=d+3) hb hq6 24 zo zo;cases o7 with
  |true=>
   obtain ⟨y,qz,u,hy,hqz,hu,h9⟩:=vkn (d:=d) hb hq7 I hT 18 (-1) h;refine ⟨y,qz,hy,hqz,?_⟩;clear I;rw [vab rfl];obtain ⟨ob,du,sl,hs,ir,dm,wa,he⟩:=w;dsimp only at *
   (rcases A with ⟨rfl,rfl,hA'⟩|⟨rfl,hA'⟩<;>rcases Bd with ⟨rfl,rfl,hB'⟩|⟨rfl,hB'⟩<;>rcases C with ⟨rfl,h3,h4⟩|⟨rfl,h3,h4⟩)<;>simp (maxSteps:=3000000) -implicitDefEqProofs (disch:=try exact zd) only [go_sem,Aa,Ab,vc3,vd9,h1,h2,hA',hB',h3,h4,h6,h7,h9]
  |false=>
   obtain ⟨v,q8,hv,hq8,h8⟩:=vb0 (d:=d+4) hb hq7 18 zo zo;obtain ⟨k,hk⟩:∃k:Int,([PV.a (.int .i64 1),PV.a (.int .i64 1),PV.a (.int .i64 2),PV.a (.int .i64 3),PV.a (.int .i64 3),PV.a (.int .i64 4),PV.a (.int .i64 4),PV.a (.int .i64 5),PV.a (.int .i64 5),PV.a (.int .i64 5),PV.a (.int .i64 5),PV.a (.int .i64 6),PV.a (.int .i64 7),PV.a (.int .i64 9),PV.a (.int .i64 12),PV.a (.int .i64 15),PV.a (.int .i64 16),PV.a (.int .i64 17)]:List PV)[v]? =some (PV.a (.int .i64 k)):=by
    have hv3:v<18:=zo
    clear h7 h8 h6 A Bd C;have:v=0\/v=1\/v=2\/v=3\/v=4\/v=5\/v=6\/v=7\/v=8\/v=9\/v=10\/v=11\/v=12\/v=13\/v=14\/v=15\/v=16\/v=17:=zo
    rcases this with rfl|rfl|rfl|rfl|rfl|rfl|rfl|rfl|rfl|rfl|rfl|rfl|rfl|rfl|rfl|rfl|rfl|rfl<;>exact ⟨_,rfl⟩
   have hv3:v<18:=zo
   obtain ⟨y,qz,u,hy,hqz,hu,h9⟩:=vkn (d:=d) hb hq8 I hT k (-1) h;refine ⟨y,qz,hy,hqz,?_⟩;clear I;rw [vab rfl];obtain ⟨ob,du,sl,hs,ir,dm,wa,he⟩:=w;dsimp only at *
   (rcases A with ⟨rfl,rfl,hA'⟩|⟨rfl,hA'⟩<;>rcases Bd with ⟨rfl,rfl,hB'⟩|⟨rfl,hB'⟩<;>rcases C with ⟨rfl,h3,h4⟩|⟨rfl,h3,h4⟩)<;>simp (maxSteps:=3000000) -implicitDefEqProofs (disch:=try exact zd) only [go_sem,Aa,Ab,vc3,vd9,h1,h2,hA',hB',h3,h4,h6,h7,h8,hk,h9]
theorem zdt (l:List Act'):nfzL (l.map ves)=true:=vom (λo=>by show (true&&(true&&(true&&(true&&(true&&(nfzL (o.keep.map vak)&&true))))))=true;rw [qar];rfl) l
attribute [go_sem] zdt
def Kp (l:List Act'):Prop:=∀y∈l,y.keep.length<=100
theorem Kp.snoc {l:List Act'} (h:Kp l) {y:Act'} (hy:y.keep.length<=100):Kp (l++ [y]):=λx hx=>by
 rcases List.mem_append.1 hx with h1|h1
 ·exact h x h1
 ·simp at h1;subst h1;exact hy
theorem zlz (l:List Nat):atmL (l.map eU8)=true:=vxo (λ_=>rfl) l
attribute [go_sem] zlz
abbrev nA1 (z:Bool) (bs:List Nat) (p:Nat) (ts:List ByteArray) (w:Wd) (L:List PV):vcb:= [(0,nRd bs p),(1,bWf ts w 3),(2,some (.sl z 0 vdf L))]++nWq 3 w
abbrev sAc (r:Nat) (w:vcv):vcv:= [(0,.rf 0),(9,.rf 1),(10,.rf 2),(11,.a (.int .i64 (r:Nat)))]++w++ [(10000,.rf 0)]
theorem qrv {ts:List ByteArray} {B:Nat} {w:Wd} (I:Wok ts B w) (hT:Ty23 ts) (hB:B+1<=400) (x:Act'):Wok ts (B+1) (actW ts w x 0).2:=by
 exact (vsw (d:=0) I hT hB x 0 (.b (w.wa.map eObj) w.he) λ_=>rfl).1
theorem qps {d:Nat} {bs:List Nat} (hb:Bs bs) {p:Nat} (hp:p<=bs.length) {ts:List ByteArray} (hT:Ty23 ts) (hK:Two ts) {w:Wd} (I:Wok ts 200 w) (n:Nat) (hn:n<=199):
  ∃e,(∃(z:Bool) (l:List Act') (w':Wd) (q:Nat),Kp l/\l.length=n/\q<=bs.length/\e=⟨sAc 0 [(22,.a (.bool false))],nA1 z bs q ts w' (l.map ves),209⟩)/\
  vbt (T (d+7)) vad [0,9,10,11,10000] vh7 ⟨sAc n [],nA1 false bs p ts w [],9⟩=some (.ext 0,e):=by
 refine ve5 (λr s=>r<=n/\∃(z:Bool) (l:List Act') (w':Wd) (q:Nat),Wok ts (200+(n-r)) w'/\Kp l/\l.length=n-r/\q<=bs.length/\s=⟨sAc r [],nA1 z bs q ts w' (l.map ves),9⟩) 0 _ (m:=n) (vbc zo) ⟨Nat.le_refl _,false,[],w,p,by rw [Nat.sub_self];exact I,λ_ h=>(by cases h),by simp,hp,rfl⟩ ?_
 rintro r _ hr ⟨hrn,z,l,w',q,J,hKp,hl,hq,rfl⟩
 have hlm:(l.map ves).length<=200:=by rw [Ag];omega
 by_cases hr1:0<r
 ·left;obtain ⟨y,q2,hy,hq2,h1⟩:=qlv (d:=d) hb hq J hT;have h2:=qbb (d:=d+1) J hT hK zo y 0;have J2:=qrv J hT zo y;generalize (actW ts w' y 0).1=ra at *;generalize (actW ts w' y 0).2=w2 at *;have e1:Ah.wrap ((r:Int)-1)=((r-1:Nat):Int):=by rw [vau]<;>omega
  have hr0:(r:Int)>0:=zo
  refine ⟨zo,_,?_,zo,true,l++ [y],w2,q2,by rw [show 200+(n-(r-1))=200+(n-r)+1 by omega];exact J2,hKp.snoc hy,by simp;omega,hq2,by rw [vb5]⟩;clear I J J2;obtain ⟨ob,du,sl,hs,ir,dm,wa,he⟩:=w';obtain ⟨ob',du',sl',hs',ir',dm',wa',he'⟩:=w2;obtain ⟨xk,xa,xb,xc,xp,xq⟩:=y;unfold bOf at h2;unfold round nA1 sAc nWq vh7;dsimp only [Ac,Ad] at *;cases z
  ·simp -implicitDefEqProofs (disch:=try exact zd) only [go_sem,Aa,Ab,hr0,e1,h1,h2]
   (show some _=some _;kernel_rfl)
  ·simp -implicitDefEqProofs (disch:=try exact zd) only [go_sem,Aa,Ab,hr0,e1,h1,h2]
   (show some _=some _;kernel_rfl)
 ·right;obtain rfl:r=0:=zo
  refine ⟨_,?_,z,l,w',q,hKp,zo,hq,rfl⟩;clear I J;obtain ⟨ob,du,sl,hs,ir,dm,wa,he⟩:=w';unfold round nA1 sAc nWq vh7;dsimp only [Ac,Ad];simp -implicitDefEqProofs (disch:=try exact zd) only [go_sem,Aa,Ab]
theorem qoh {d:Nat} {bs:List Nat} (hb:Bs bs) {p:Nat} (hp:p<=bs.length) {ts:List ByteArray} (hT:Ty23 ts) (hK:Two ts) {g:Gr} (I:Wok ts 200 (w0 g)) (most:Nat) (hm:most<=100):∃(l:List Act') (q:Nat),Kp l/\1<=l.length/\l.length<=most+1/\q<=bs.length/\
  vag (T (d+7)) vad vh5 [cRd bs p,.sl true vam (ts.map eStr),cGr true g,.a (.int .i64 (most:Nat))]=some ([.sl false vdf (l.map ves)],[cRd bs q]):=by
 obtain ⟨m,q1,hm1,hq1,h1⟩:=vky (d:=d+5) hb hp most zo
 have h2:=qto (d:=d+5) (ts:=ts) (g:=g) (by have:=I.b;simp at this;omega) (by have:=I.sl;simp at this;omega) (λo ho=>by
  obtain ⟨s,g1,_,g3,_⟩:=I.ob o ho;have:=hT.z s (Af g1)
  omega)
 have e1:Ah.wrap (1+(m:Int))=((m+1:Nat):Int):=by rw [vau]<;>omega
 obtain ⟨_,⟨z,l,w',q,hKp,hl,hq,rfl⟩,key⟩:=qps (d:=d) hb hq1 hT hK I (m+1) zo;refine ⟨l,q,hKp,zo,zo,hq,?_⟩;clear I;rw [vab rfl];obtain ⟨rs,ns⟩:=g;unfold sAc nA1 nWq at key;dsimp only [Ac,Ad] at *;simp -implicitDefEqProofs (disch:=try exact zd) only [go_sem,Aa,Ab,vh5,vo5,h2,h1,e1,vaw key];done
theorem qy3 (l:List ByteArray):(l.map eStr).map PV.thaw=l.map eStr:=by rw [Am];rfl
attribute [go_sem] qy3
abbrev nDw (bs:List Nat) (q:Nat) (ts:List ByteArray) (g:Gr) (L:List PV) (D:List Int):vcb:= [(0,some (.bx false [.rf 6,.rf 7])),(1,nRd bs q),(2,some (.sl true 0 vam (ts.map eStr))),(3,some (.bx false [.rf 8,.rf 9])),(4,some (.sl true 0 vdf L)),(5,some (.sl false 0 vae (D.map vak))),(6,some (.sl false 0 vae [])),(7,some (.sl false 0 vai [])),(8,some (.sl true 0 vae (g.roots.map vak))),(9,some (.sl true 0 vai (g.nodes.map eObj)))]
abbrev sDw (k i:Nat) (w:vcv):vcv:= [(3,.rf 0),(6,.rf 1),(7,.rf 2),(8,.rf 3),(9,.rf 4),(10,.rf 5),(k,.a (.int .i64 (i:Nat)))]++w
theorem qt5 {d:Nat} {bs:List Nat} (hb:Bs bs) {p:Nat} (hp:p<=bs.length) (ts:List ByteArray) (g:Gr) (l:List Act') (hl:l.length<=100):
  ∃e,(∃(i:Nat) (D:List Int) (q:Nat),D.length<=100/\q<=bs.length/\(e=⟨sDw 11 i [(32,.a (.bool false))],nDw bs q ts g (l.map ves) D,810⟩\/∃q0,e=⟨sDw 11 i [(32,.a (.bool false))],(1,nRd bs q)::(1,none)::nDw bs q0 ts g (l.map ves) D,810⟩))/\
  vbt (T (d+3)) vad [3,6,7,8,9,10,11] vem ⟨sDw 11 0 [],nDw bs p ts g (l.map ves) [],10⟩=some (.ext 0,e):=by
 refine ve5 (λr s=>∃(i:Nat) (D:List Int) (q:Nat),i+r=l.length/\D.length<=i/\q<=bs.length/\s=⟨sDw 11 i [],nDw bs q ts g (l.map ves) D,10⟩) 0 _ (m:=l.length) (vbc zo) ⟨0,[],p,zo,by simp,hp,rfl⟩ ?_
 rintro r _ hr ⟨i,D,q,hi,hD,hq,rfl⟩
 by_cases hpos:0<r
 ·obtain ⟨o,q1,hq1,h1⟩:=ved (d:=d) hb hq 3 zo zo;have hw:=va0 i zo;have hlt:(i:Int)<l.length:=zo
  cases o with
  |true=>
   obtain ⟨u,q2,hu,hq2,h2⟩:=vb0 (d:=d+1) hb hq1 5 zo zo;obtain ⟨k,hk⟩:∃k:Int,([PV.a (.int .i64 0),PV.a (.int .i64 0),PV.a (.int .i64 0),PV.a (.int .i64 10),PV.a (.int .i64 12)]:List PV)[u]? =some (PV.a (.int .i64 k)):=by
    have:u=0\/u=1\/u=2\/u=3\/u=4:=zo
    rcases this with rfl|rfl|rfl|rfl|rfl<;>exact ⟨_,rfl⟩
   have hu5:u<5:=zo
   left;refine ⟨hpos,_,?_,i+1,D++ [k],q2,zo,by simp;omega,hq2,rfl⟩;have hDl:(D.map vak).length<=100:=by rw [Ag];omega
   obtain ⟨rs,ns⟩:=g;unfold round vem;dsimp only [sDw,nDw,Ac,Ad] at *;rw [vb5];generalize D.map vak=X at *;simp -implicitDefEqProofs (disch:=try exact zd) only [go_sem,Aa,Ab,hw,hlt,h1,h2,hk]
   (show some _=some _;kernel_rfl)
  |false=>
   right;refine ⟨_,?_,i,D,q1,zo,hq1,.inr ⟨q,rfl⟩⟩;obtain ⟨rs,ns⟩:=g;unfold round vem;dsimp only [sDw,nDw,Ac,Ad];simp -implicitDefEqProofs (disch:=try exact zd) only [go_sem,Aa,Ab,hw,hlt,h1]
 ·right;have hlt:¬(i:Int)<l.length:=zo
  refine ⟨_,?_,i,D,q,zo,hq,.inl rfl⟩;obtain ⟨rs,ns⟩:=g;unfold round vem;dsimp only [sDw,nDw,Ac,Ad];simp -implicitDefEqProofs (disch:=try exact zd) only [go_sem,Aa,Ab,hlt]
abbrev a15:Act':=⟨15,0,0,0,0,[]⟩
theorem qsv:ves a15= .st [.a (.int .i64 15),.a (.int .i64 0),.a (.int .i64 0),.a (.int .i64 0),.a (.int .i64 0),.sl vae []]:=rfl
def more (l:List Act'):Nat->List Act'
 |0=>l
 |i+1=>more l i++ [a15]
theorem vv7 (l:List Act'):∀i,(more l i).length=l.length+i
 |0=>rfl
 |i+1=>by unfold more;rw [Ai,vv7 l i];rfl
theorem qs7 {bs:List Nat} {p:Nat} (ts:List ByteArray) (g:Gr) (l:List Act') (D:List Int) (hl:l.length<=100):
  vbt Φ vad [3,6,7,8,9,10,12] vf1 ⟨sDw 12 0 [],nDw bs p ts g (l.map ves) D,10⟩=some (.ext 3,⟨sDw 12 61 [(59,.a (.bool false))],nDw bs p ts g ((more l 61).map ves) D,210⟩):=by
 refine vcj (m:=61) (λi=>⟨sDw 12 i [],nDw bs p ts g ((more l i).map ves) D,10⟩) _ (vbc zo) (λi hi=> ?_) ?_
 ·have hw:=va0 i zo;have hlt:(i:Int)<61:=zo
  have hm:((more l i).map ves).length<=200:=by rw [Ag,vv7];omega
  rw [show more l (i+1)=more l i++ [a15] from rfl,vb5,qsv];generalize (more l i).map ves=X at *;obtain ⟨rs,ns⟩:=g;unfold round vf1;dsimp only [sDw,nDw,Ac,Ad];simp -implicitDefEqProofs (disch:=try exact zd) only [go_sem,Aa,Ab,hw,hlt]
  (show some _=some _;kernel_rfl)
 ·obtain ⟨rs,ns⟩:=g;unfold round vf1;dsimp only [sDw,nDw,Ac,Ad];simp -implicitDefEqProofs (disch:=try exact zd) only [go_sem,Aa,Ab]
theorem qqq {ts:List ByteArray} (h:DT ts):Ty23 ts:=⟨h.ne,by have:=h.le;omega,h.hi,h.lo⟩
theorem qlz {ts:List ByteArray} (h:DT ts):Two ts:=by
 intro s hs j hj;have h2:=List.all_eq_true.1 (h.oc s hs);unfold kAt;obtain ⟨b,hb⟩:∃b,(ch s)[j]? =some b:=⟨_,Ae (by rw [<-vho];exact hj)⟩
 rw [hb,Option.getD_some];have h3:=h2 b (Af hb);unfold okC at h3;simp only [Bool.or_eq_true,decide_eq_true_eq] at h3;omega
theorem qno {ts:List ByteArray} {g:Gr} (h8:g.roots.length=8) (hr:∀x∈g.roots,0<=x/\x<=(g.nodes.length:Int)) (hn:g.nodes.length<=200) (hG:GSh ts g.nodes.length g.nodes):Wok ts 200 (w0 g):=by
 refine ⟨hn,by decide,λo ho=> ?_,Aj,h8,hr,Aj,λv hv=>by rw [(List.mem_replicate.1 hv).2];omega,λ_ h=>(by cases h),Ak _,λh=>(by cases h),λ_ h=>(by cases h),Ak _,λh=>(by cases h)⟩;obtain ⟨t,s,g1,g2,g3,g4⟩:=hG o ho;exact ⟨s,by rw [g1,Int.toNat_natCast];exact g2,zo,g3,λj v hv hk=>g4 j v hv (vxl hk)⟩
theorem vu1 {d:Nat} {bs:List Nat} (hb:Bs bs):∃(ts:List ByteArray) (g:Gr) (l:List Act') (dn:List Int),Small ts g/\l.length<=200/\dn.length<=100/\
  vag (T (d+8)) vad vdd [.sl true vdg (bs.map eU8)]=some ([.sl false vam (ts.map eStr),cGr false g,.sl false vdf (l.map ves),.sl false vae (dn.map vak)],[]):=by
 have h0:=qf5 (Φ:=T (d+7)) (N:=vad) (bs.map eU8);obtain ⟨ts,q1,hD,hq1,h1⟩:=qj6 (d:=d+4) hb (Ak _);obtain ⟨g,q2,⟨hr8,hrb⟩,hn1,hn6,hG,hq2,h2⟩:=qja (d:=d+4) hb hD hq1 8 zo 6 zo zo;have I:=qno hr8 hrb zo hG;obtain ⟨l,q3,hK,hl1,hl35,hq3,h3⟩:=qoh (d:=d) hb hq2 (qqq hD) (qlz hD) I 34 zo;obtain ⟨_,⟨i,D,q4,hDl,hq4,hE⟩,k0⟩:=qt5 (d:=d+5) hb hq3 ts g l zo;obtain ⟨u,q5,hu,hq5,h4⟩:=vb0 (d:=d+6) hb hq4 40 zo zo;have hsz:∀o∈g.nodes,1<=o.vals.length/\o.vals.length<=1000:=λo ho=>by
  obtain ⟨t,s,_,g2,g3,_⟩:=hG o ho;have:=hD.lo s (Af g2);have:=hD.hi s (Af g2);omega
 rw [show cRd bs 0= .bx false [.sl true vdg (bs.map eU8),.a (.int .i64 0)] from rfl] at h1;rw [show ((8:Nat):Int)=8 from rfl] at h2;rw [show ((34:Nat):Int)=34 from rfl] at h3;have hle:=hD.le;have htz:∀s∈ts,s.size<=1048576:=λs hs=>by have:=hD.hi s hs;omega
 have sm:Small ts g:=⟨zo,htz,zo,zo,λo ho=>by have:=(hsz o ho).2;omega⟩
 by_cases c0:(u:Int)=0
 ·refine ⟨ts,⟨g.roots.take 7,g.nodes⟩,l,D,⟨sm.tl,sm.sz,by simp;omega,sm.nodes,sm.vals⟩,zo,hDl,?_⟩;clear hG I sm hsz;rw [vab rfl];obtain ⟨rs,ns⟩:=g;dsimp only [sDw,nDw,Ac,Ad] at k0 hE;dsimp only at hr8;have hm7:(rs.map vak).length=8:=by rw [Ag];exact hr8
  rw [show cGr false ⟨rs.take 7,ns⟩= .st [.sl false vae ((rs.map vak).take 7),.sl false vai (ns.map eObj)] from by rw [<-Al]];generalize rs.map vak=R at *;have e7:Int.toNat 7=7:=rfl;rcases hE with rfl|⟨q0,rfl⟩<;>simp -implicitDefEqProofs (disch:=try exact zd) only [go_sem,Aa,Ab,vdd,vfm,h0,h1,h2,h3,vaw k0,h4,c0,hm7,e7]
 by_cases c1:(u:Int)=1
 ·obtain ⟨h,q6,hN,hq6,h5⟩:=vz1 (d:=d+3) hb (g:=g) ⟨zo,zo⟩ zo hsz hq5;refine ⟨ts,h,l,D,⟨sm.tl,sm.sz,by have:=hN.roots;omega,by have:=hN.nodes;omega,λo ho=>by have:=hN.vals 1000 (λo ho=>(hsz o ho).2) o ho;omega⟩,zo,hDl,?_⟩;clear hG I sm hsz hN;rw [vab rfl];obtain ⟨rs,ns⟩:=g;obtain ⟨rs',ns'⟩:=h;dsimp only [sDw,nDw,Ac,Ad] at k0 hE;rcases hE with rfl|⟨q0,rfl⟩<;>simp -implicitDefEqProofs (disch:=try exact zd) only [go_sem,Aa,Ab,vdd,vfm,h0,h1,h2,h3,vaw k0,h4,c0,c1,h5]
 by_cases c2:(u:Int)=2
 ·obtain ⟨v,q6,hv,hq6,h5⟩:=vb0 (d:=d+6) hb hq5 2 zo zo;have k1:=qs7 (Φ:=T (d+8)) (bs:=bs) (p:=q5) ts g l D zo;have e1:Ah.wrap (60+(v:Int))=((60+v:Nat):Int):=by rw [vau]<;>omega
  have hml:=vv7 l 61;have hmm:((more l 61).map ves).length=l.length+61:=by rw [Ag,hml]
  refine ⟨ts,g,(more l 61).take (60+v),D,sm,by rw [List.length_take];omega,hDl,?_⟩;clear hG I sm hsz;rw [vab rfl];obtain ⟨rs,ns⟩:=g;dsimp only [sDw,nDw,Ac,Ad] at k0 hE k1;rw [Al];generalize (more l 61).map ves=X at *;rcases hE with rfl|⟨q0,rfl⟩<;>simp -implicitDefEqProofs (disch:=try exact zd) only [go_sem,Aa,Ab,vdd,vfm,h0,h1,h2,h3,vaw k0,h4,c0,c1,c2,vaw k1,h5,e1,hmm]
 ·refine ⟨ts,g,l,D,sm,zo,hDl,?_⟩;clear hG I sm hsz;rw [vab rfl];obtain ⟨rs,ns⟩:=g;dsimp only [sDw,nDw,Ac,Ad] at k0 hE;rcases hE with rfl|⟨q0,rfl⟩<;>simp -implicitDefEqProofs (disch:=try exact zd) only [go_sem,Aa,Ab,vdd,vfm,h0,h1,h2,h3,vaw k0,h4,c0,c1,c2]
