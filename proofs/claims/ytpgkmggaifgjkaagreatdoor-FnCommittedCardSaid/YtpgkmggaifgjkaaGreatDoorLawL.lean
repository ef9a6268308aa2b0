/- Worlds of the reference. -/
import Derived.Test.YtpgkmggaifgjkaaGreatDoorLawO
import Derived.Test.YtpgkmggaifgjkaaGreatDoorLawV
import Derived.Test.YtpgkmggaifgjkaaGreatDoorLawT
import Derived.Test.YtpgkmggaifgjkaaGreatDoorLawP
open Nat renaming reduceAdd->Aa,reduceBEq->Ab,le_refl->Ai,zero_le->Am
open List renaming replicate->Ac,map->Ad,getElem?_eq_some_iff->Ae,getElem?_eq_getElem->Af,mem_of_getElem?->Ag,nil_append->Ah,getElem?_set->Aj,getElem?_append_left->Ak,getElem?_eq_none->Al,all_eq_true->An
set_option linter.all false
namespace Go.Proofs.YtpgkmggaifgjkaaGreatDoor.VM
open Go Sy
variable {Φ:Nat->Option Callee} {N:Nat}
set_option maxRecDepth 100000
set_option maxHeartbeats 8000000
theorem zgn (l:List Bool):nfzL (l.map eBl)=true:=vom (λ_=>rfl) l
attribute [go_sem] zgn
abbrev bOf (d:Nat) (ts:List ByteArray) (w:Wd) (x:Act') (deny:Int) (a:Ans) (w':Wd):Prop:=vag (T (d+5)) vad vd8 [cWf false ts w,cAct true x,.a (.int .i64 deny)]=some ([cAns a],[cWf false ts w'])
theorem qjz {d:Nat} {ts:List ByteArray} {w:Wd} (x:Act') {deny:Int} (h:deny≠0) (hd:w.inR=false->w.dm=false):bOf d ts w x deny ⟨deny,0⟩ {w with dm:=w.inR}:=by
 unfold bOf;obtain ⟨xk,xa,xb,xc,xp,xq⟩:=x;obtain ⟨ob,du,sl,hds,ir,dm,wa,he⟩:=w;dsimp only at *;cases ir with
 |false=>
  obtain rfl:=hd rfl;rw [vab rfl];simp -implicitDefEqProofs (disch:=try exact zd) only [go_sem,Aa,Ab,vd8,vgq,cWf,h]
 |true=>
  rw [vab rfl];simp -implicitDefEqProofs (disch:=try exact zd) only [go_sem,Aa,Ab,vd8,vgq,cWf,h]
theorem qh3 {d:Nat} {ts:List ByteArray} {w:Wd} (x:Act') {c:Int} (h:c≠0) (hd:w.inR=false->w.dm=false) (hc:rOf (d+4) va4 ts w x c 0 w):bOf d ts w x 0 ⟨c,0⟩ {w with dm:=w.inR}:=by
 unfold bOf;unfold rOf at hc;obtain ⟨xk,xa,xb,xc,xp,xq⟩:=x;obtain ⟨ob,du,sl,hds,ir,dm,wa,he⟩:=w;dsimp only at *;cases ir with
 |false=>
  obtain rfl:=hd rfl;rw [vab rfl];simp -implicitDefEqProofs (disch:=try exact zd) only [go_sem,Aa,Ab,vd8,vgq,cWf,h,hc]
 |true=>
  rw [vab rfl];simp -implicitDefEqProofs (disch:=try exact zd) only [go_sem,Aa,Ab,vd8,vgq,cWf,h,hc]
theorem qpv {d:Nat} {ts:List ByteArray} {w w':Wd} (x:Act') {n:Int} (hc:rOf (d+4) va4 ts w x 0 n w'):bOf d ts w x 0 ⟨0,n⟩ w':=by
 unfold bOf;unfold rOf at hc;obtain ⟨xk,xa,xb,xc,xp,xq⟩:=x;obtain ⟨ob,du,sl,hds,ir,dm,wa,he⟩:=w;obtain ⟨ob',du',sl',hds',ir',dm',wa',he'⟩:=w';rw [vab rfl];simp -implicitDefEqProofs (disch:=try exact zd) only [go_sem,Aa,Ab,vd8,vgq,cWf,hc]
theorem qbb {d:Nat} {ts:List ByteArray} {B:Nat} {w:Wd} (I:Wok ts B w) (hT:Ty23 ts) (hK:Two ts) (hB:B+1<=400) (x:Act') (deny:Int):bOf d ts w x deny (actW ts w x deny).1 (actW ts w x deny).2:=by
 have hd:w.inR=false->w.dm=false:=λhi=>by
  cases hd:w.dm with
  |false=>rfl
  |true=>have:=I.dm hd;rw [hi] at this;cases this
 by_cases h0:deny=0
 ·subst h0;have hc:=qpg (d:=d) I hT hK hB x;unfold DoS at hc;by_cases c:codeW ts w x=0
  ·have e:actW ts w x 0=(⟨0,(effW ts w x).1⟩,(effW ts w x).2):=by
    unfold actW actC;rw [if_pos rfl,if_pos c]
   rw [e];rw [c,if_pos rfl,if_pos rfl] at hc;exact qpv x hc
  ·have e:actW ts w x 0=(⟨codeW ts w x,0⟩,{w with dm:=w.inR}):=by
    unfold actW actC;rw [if_pos rfl,if_neg c]
   rw [e];rw [if_neg c,if_neg c] at hc;exact qh3 x c hd hc
 ·have e:actW ts w x deny=(⟨deny,0⟩,{w with dm:=w.inR}):=by
   unfold actW actC;rw [if_neg h0,if_neg h0]
  rw [e];exact qjz x h0 hd
theorem qyc {d:Nat} {ts:List ByteArray} {g:Gr} (h:Small ts g) (l:List Act') (hl:l.length<=1048576):vag (T (d+7)) vad vel [.sl true vam (ts.map eStr),cGr true g,.sl true vdf (l.map ves)]=some ([.a (.bool (isW ts g l))],[]):=by
 have h1:=vv3 (d:=d+3) h;have hr:=h.roots;have hn:=h.nodes;unfold isW;generalize graphOk ts g=k at *;obtain ⟨rs,ns⟩:=g;dsimp only at *;by_cases c1:l.length<=60
 ·have c1':(l.length:Int)<=60:=zo
  rw [decide_eq_true c1,Bool.true_and];cases k with
  |false=>rw [vab rfl];simp -implicitDefEqProofs (disch:=try exact zd) only [go_sem,Aa,Ab,vel,vhq,c1',h1]
  |true=>
   rw [Bool.true_and];by_cases c2:rs.length=8
   ·have c2':(rs.length:Int)=8:=zo
    rw [decide_eq_true c2,Bool.true_and];by_cases c3:ns.length<=200
    ·have c3':(ns.length:Int)<=200:=zo
     rw [decide_eq_true c3];rw [vab rfl];simp -implicitDefEqProofs (disch:=try exact zd) only [go_sem,Aa,Ab,vel,vhq,c1',h1,c2',c3']
    ·have c3':¬(ns.length:Int)<=200:=zo
     rw [decide_eq_false c3];rw [vab rfl];simp -implicitDefEqProofs (disch:=try exact zd) only [go_sem,Aa,Ab,vel,vhq,c1',h1,c2',c3']
   ·have c2':¬(rs.length:Int)=8:=zo
    rw [decide_eq_false c2,Bool.false_and];rw [vab rfl];simp -implicitDefEqProofs (disch:=try exact zd) only [go_sem,Aa,Ab,vel,vhq,c1',h1,c2']
 ·have c1':¬(l.length:Int)<=60:=zo
  rw [decide_eq_false c1,Bool.false_and];rw [vab rfl];simp -implicitDefEqProofs (disch:=try exact zd) only [go_sem,Aa,Ab,vel,vhq,c1']
abbrev nNs (ts:List ByteArray) (g:Gr) (L:List PV):vcb:= [(0,some (.bx false [.sz vae (Ad vak g.roots),.sz vai (Ad eObj g.nodes)])),(1,some (.bx false [.sz vam (Ad eStr ts),.rf 2,.rf 3,.rf 4,.rf 5,.a (.bool false),.a (.bool false),.rf 6,.rf 7])),(2,some (.sl false 0 vai (Ad eObj g.nodes))),(3,some (.sl false 0 vb3 L)),(4,some (.sl false 0 vae (Ad vak g.roots))),(5,some (.sl false 0 vae (Ac (Int.toNat 12) (.a (.int .i64 0))))),(6,some (.sl false 0 vai [])),(7,some (.sl false 0 vae []))]
theorem qma (n:Nat):(Ac (n+1) true).map eBl=(Ac n true).map eBl++ [.a (.bool true)]:=by
 rw [List.replicate_succ',vb5]
theorem qpf {d:Nat} {ts:List ByteArray} {g:Gr} (hn:g.nodes.length<=400):
  vbt (T d) vad [3,5,6] vj0 ⟨[(3,.rf 0),(5,.rf 1),(6,.a (.int .i64 (0:Nat)))],nNs ts g ((Ac 0 true).map eBl),8⟩=
  some (.ext 0,⟨[(3,.rf 0),(5,.rf 1),(6,.a (.int .i64 g.nodes.length)),(28,.a (.bool false))],nNs ts g ((Ac g.nodes.length true).map eBl),508⟩):=by
 refine vcj (m:=g.nodes.length) (λi=>⟨[(3,.rf 0),(5,.rf 1),(6,.a (.int .i64 (i:Nat)))],nNs ts g ((Ac i true).map eBl),8⟩) _ (vbc zo) (λi hi=> ?_) ?_
 ·have hw:=va0 i zo;have hlt:(i:Int)<g.nodes.length:=zo
  rw [qma];have hlen:((Ac i true).map eBl).length<=400:=by simp;omega
  generalize (Ac i true).map eBl=L at *;obtain ⟨rs,ns⟩:=g;dsimp only at *;unfold round nNs vj0;simp -implicitDefEqProofs (disch:=try exact zd) only [go_sem,Aa,Ab,hw,hlt]
  (show some _=some _;kernel_rfl)
 ·have hlt:¬(g.nodes.length:Int)<g.nodes.length:=zo
  generalize (Ac g.nodes.length true).map eBl=L at *;obtain ⟨rs,ns⟩:=g;dsimp only at *;unfold round nNs vj0;simp -implicitDefEqProofs (disch:=try exact zd) only [go_sem,Aa,Ab,hlt]
theorem qto {d:Nat} {ts:List ByteArray} {g:Gr} (hn:g.nodes.length<=400) (hr:g.roots.length<=1000) (hv:∀o∈g.nodes,o.vals.length<=1048576):vag (T (d+1)) vad vj5 [.sl true vam (ts.map eStr),cGr true g]=some ([cWf false ts (w0 g)],[]):=by
 have key:=qpf (d:=d+1) (ts:=ts) hn;have h1:=qos (Φ:=T d) g.nodes zo hv;have e0:(Ac 0 true).map eBl= []:=rfl;rw [e0] at key;have e12:(Ac 12 (0:Int)).map vak=Ac (Int.toNat 12) (.a (.int .i64 0)):=rfl;unfold w0 cWf;dsimp only;rw [e12];generalize (Ac g.nodes.length true).map eBl=L at *;obtain ⟨rs,ns⟩:=g;dsimp only [nNs] at *;rw [vab rfl];simp -implicitDefEqProofs (disch:=try exact zd) only [go_sem,Aa,Ab,vj5,vtf,h1,Ah,vaw key]
theorem za5 {d:Nat} {ts:List ByteArray} {w:Wd} (R:Right ts (nowG w)) (h1:w.hd.length=12) (h2:w.sl.length=8):vag (T (d+3)) vad viq [cWf true ts w]=some ([cGr false (plainG ts (nowG w))],[]):=by
 have t1:=vu8 (d:=d) R;clear R;unfold nowG at *;generalize plainG ts _=p at *;have z1:(w.hd.map vak).length=12:=by simpa using h1
 have z2:(w.sl.map vak).length=8:=by simpa using h2
 obtain ⟨pr,pn⟩:=p;obtain ⟨ob,du,sl,hds,ir,dm,wa,he⟩:=w;dsimp only at *;simp only [cGr,List.map_append] at t1⊢;rw [vab rfl];simp -implicitDefEqProofs (disch:=try exact zd) only [go_sem,Aa,Ab,viq,vqf,cWf,Ah,t1]
abbrev saveG (w:Wd):Gr:=if w.inR then ⟨w.he,w.wa⟩ else ⟨w.sl,w.ob⟩
theorem qws {d:Nat} {ts:List ByteArray} {w:Wd} (R:Right ts (saveG w)):vag (T (d+3)) vad vga [cWf true ts w]=some ([cGr false (plainG ts (saveG w))],[]):=by
 have t1:=vu8 (d:=d) R;clear R;unfold saveG at *;generalize plainG ts _=p at *;obtain ⟨pr,pn⟩:=p;obtain ⟨ob,du,sl,hds,ir,dm,wa,he⟩:=w;dsimp only at *;cases ir with
 |false=>
  rw [if_neg (by simp)] at t1;rw [vab rfl];simp -implicitDefEqProofs (disch:=try exact zd) only [go_sem,Aa,Ab,vga,vlj,cWf,t1]
 |true=>
  rw [if_pos rfl] at t1;rw [vab rfl];simp -implicitDefEqProofs (disch:=try exact zd) only [go_sem,Aa,Ab,vga,vlj,cWf,t1]
abbrev Du (du:List Bool) (v:Int):Prop:=0<v->du[(v-1).toNat]? =some true
structure Clo (ts:List ByteArray) (ob:List Obj') (du:List Bool) (sl:List Int):Prop where
 s:∀v∈sl,Du du v
 o:∀k:Nat,du[k]? =some true->∀v,Ref ts ob k v->Du du v
structure Dur (ts:List ByteArray) (w:Wd):Prop where
 out:w.inR=false->Clo ts w.ob w.du w.sl
 inn:w.inR=true->Clo ts w.wa w.du w.he
 wo:w.inR=true->∀o∈w.wa,ObOk ts w.wa.length o
 wr:w.inR=true->Rin w.wa.length w.he
 wd:w.inR=true->∀k:Nat,w.du[k]? =some true->k<w.wa.length
theorem Dur.dm {ts:List ByteArray} {w:Wd} (D:Dur ts w) (b:Bool):Dur ts {w with dm:=b}:=⟨D.out,D.inn,D.wo,D.wr,D.wd⟩
theorem Dur.hd {ts:List ByteArray} {w:Wd} (D:Dur ts w) (h:List Int):Dur ts {w with hd:=h}:=⟨D.out,D.inn,D.wo,D.wr,D.wd⟩
theorem vwu {du:List Bool} {k:Nat}:(du++ [false])[k]? =some true↔du[k]? =some true:=by
 by_cases c:k<du.length
 ·rw [Ak c]
 ·rw [List.getElem?_append_right zo,Al (l:=du) zo];cases k-du.length<;>simp
theorem Clo.new {ts:List ByteArray} {ob:List Obj'} {du:List Bool} {sl:List Int} (C:Clo ts ob du sl):Clo ts ob (du++ [false]) sl:=
 ⟨λv hv h0=>vwu.2 (C.s v hv h0),λk hk v hv h0=>vwu.2 (C.o k (vwu.1 hk) v hv h0)⟩
theorem Clo.same {ts:List ByteArray} {ob ob':List Obj'} {du:List Bool} {sl:List Int} (C:Clo ts ob du sl) (h:∀k:Nat,du[k]? =some true->ob'[k]? =ob[k]?):Clo ts ob' du sl:=
 ⟨C.s,λk hk v hv=>C.o k hk v (by
  obtain ⟨o,s,j,h1,h2⟩:=hv
  exact ⟨o,s,j,by rw [<-h k hk];exact h1,h2⟩)⟩
theorem qkb {w:Wd} {k:Nat} (hd:w.du[k]? =some true) (hk:k<w.ob.length):∀{i},i<=w.wa.length->(bkI w i)[k]? =if k<i then w.wa[k]? else w.ob[k]?
 |0,_=>by rw [if_neg zo];rfl
 |i+1,hi=>by
  have ih:=qkb hd hk (i:=i) zo;have hl:=vhg w i;obtain ⟨o,ho⟩:∃o,w.wa[i]? =some o:=⟨_,Af zo⟩
  have e:bkI w (i+1)=if w.du[i]? =some true then (bkI w i).set i o else bkI w i:=by
   conv=>lhs;unfold bkI
   rw [ho]
  rw [e];by_cases c:i=k
  ·subst c;rw [if_pos hd,Aj,if_pos rfl,if_pos zo,if_pos zo,ho]
  ·have e2:((if w.du[i]? =some true then (bkI w i).set i o else bkI w i):List Obj')[k]? =(bkI w i)[k]? :=by
    split
    ·rw [Aj,if_neg c]
    ·rfl
   rw [e2,ih];by_cases c2:k<i
   ·rw [if_pos c2,if_pos zo]
   ·rw [if_neg c2,if_neg zo]
theorem qb4 {ts:List ByteArray} {B:Nat} {w:Wd} (I:Wok ts B w) (D:Dur ts w) (hi:w.inR=true) {k:Nat} (hd:w.du[k]? =some true):(backO w)[k]? =w.wa[k]? :=by
 have h1:=D.wd hi k hd;have h2:=(Ae.1 hd).1;have h3:=I.du;rw [show backO w=bkI w w.wa.length from rfl,qkb hd zo (Ai _),if_pos h1]
theorem Dur.back {ts:List ByteArray} {B:Nat} {w:Wd} (I:Wok ts B w) (D:Dur ts w) (hi:w.inR=true) (h:List Int):Dur ts ⟨backO w,w.du,w.he,h,false,false,[],[]⟩:=
 ⟨λ_=>(D.inn hi).same λk hk=>qb4 I D hi hk,λh=>(by cases h),λh=>(by cases h),λh=>(by cases h),λh=>(by cases h)⟩
theorem Dur.com {ts:List ByteArray} {B:Nat} {w:Wd} (I:Wok ts B w) (hT:Ty23 ts):Dur ts ⟨w.ob,comD ts w,w.sl,w.hd,false,false,[],[]⟩:=by
 have R:=vnh I hT;refine ⟨λ_=>⟨λv hv h0=>(vuu I hT).2 (vl4 R (List.mem_append.2 (.inl hv)) h0),λk hk v hv h0=>(vuu I hT).2 (vqn R ((vuu I hT).1 hk) hv h0)⟩,λh=>(by cases h),λh=>(by cases h),λh=>(by cases h),λh=>(by cases h)⟩
theorem Dur.setV {ts:List ByteArray} {w:Wd} (D:Dur ts w) {m:Nat} (o:Obj') (h:w.inR=true\/w.du[m]? =some false):Dur ts {w with ob:=w.ob.set m o}:=
 ⟨λhi=>(D.out hi).same (λk hk=>by
  have h:=h.resolve_left (by intro h;rw [show w.inR=false from hi] at h;cases h);rw [Aj,if_neg];intro e;subst e;rw [h] at hk
  exact absurd hk (by decide)),D.inn,D.wo,D.wr,D.wd⟩
theorem Dur.new {ts:List ByteArray} {w:Wd} (D:Dur ts w) (hdu:w.du.length=w.ob.length) (o:Obj') (h:List Int):Dur ts {w with ob:=w.ob++ [o],du:=w.du++ [false],hd:=h}:=
 ⟨λhi=>((D.out hi).same λk hk=>by
  have h1:k<w.du.length:=(Ae.1 hk).1
  exact Ak zo).new,λhi=>(D.inn hi).new,D.wo,D.wr,λhi k hk=>D.wd hi k (vwu.1 hk)⟩
theorem Dur.begin {ts:List ByteArray} {B:Nat} {w:Wd} (I:Wok ts B w) (D:Dur ts w) (hi:w.inR=false):Dur ts {w with inR:=true,wa:=w.ob,he:=w.sl}:=
 ⟨λh=>(by cases h),λ_=>D.out hi,λ_=>I.ob,λ_=>I.slr,λ_ k hk=>by
  have h1:k<w.du.length:=(Ae.1 hk).1;have:=I.du;show k<w.ob.length
  omega⟩
theorem Dur.handW {ts:List ByteArray} {w:Wd} (D:Dur ts w) (r:Int):Dur ts (VM.handW w r).2:=by
 unfold VM.handW;split
 ·exact D
 ·exact D.hd _
theorem qpw {ts:List ByteArray} {B:Nat} {w:Wd} (I:Wok ts B w) (hT:Ty23 ts) (D:Dur ts w) (x:Act') (hc:codeW ts w x=0):Dur ts (effW ts w x).2:=by
 unfold effW;by_cases k1:x.kind=1
 ·rw [if_pos k1];exact D.new I.du _ _
 rw [if_neg k1];by_cases k2:x.kind=2
 ·rw [if_pos k2];exact D
 rw [if_neg k2];by_cases k3:x.kind=3
 ·rw [if_pos k3];obtain ⟨n,m,j,t,vs,s,v,F⟩:=vms I (vmt hc zo);dsimp only;rw [F.mAt,voh F.fo];exact D.setV _ (F.fd (.inl k3))
 rw [if_neg k3];by_cases k4:x.kind=4
 ·rw [if_pos k4];exact D.handW _
 rw [if_neg k4];by_cases k5:x.kind=5
 ·rw [if_pos k5];obtain ⟨n,m,j,t,vs,s,v,F⟩:=vms I (vmt hc zo);dsimp only;rw [F.mAt,voh F.fo];exact D.setV _ (F.fd (.inr k5))
 rw [if_neg k5];by_cases k6:x.kind=6
 ·rw [if_pos k6];exact D.hd _
 rw [if_neg k6];by_cases k7:x.kind=7
 ·rw [if_pos k7];exact D
 rw [if_neg k7];by_cases k8:x.kind=8
 ·rw [if_pos k8];exact D
 rw [if_neg k8];by_cases k9:x.kind=9
 ·rw [if_pos k9];exact D
 rw [if_neg k9];have cd:¬(w.dm=true/\¬(14<=x.kind/\x.kind<=18)):=λh=>by
  unfold codeW at hc;rw [if_pos h] at hc;exact absurd hc (by decide)
 unfold codeW at hc;rw [if_neg cd,if_neg k1,if_neg zo,if_neg zo,if_neg k7] at hc;by_cases k10:x.kind=10
 ·rw [if_pos k10] at hc⊢;cases hi:w.inR with
  |true=>rw [hi] at hc;exact absurd hc (by decide)
  |false=>exact D.begin I hi
 rw [if_neg k10] at hc⊢;by_cases k11:x.kind=11
 ·rw [if_pos k11] at hc⊢;have hi:w.inR=true:=by
   cases hi:w.inR with
   |true=>rfl
   |false=>
    rw [hi] at hc;split at hc
    ·exact absurd hc (by decide)
    ·split at hc
     ·exact absurd hc (by decide)
     ·exact absurd hc (by decide)
  exact ⟨λh=>(by rw [show w.inR=false from h] at hi;cases hi),D.inn,D.wo,D.wr,D.wd⟩
 rw [if_neg k11] at hc⊢;by_cases k12:x.kind=12
 ·rw [if_pos k12];exact D.handW _
 rw [if_neg k12] at hc⊢;by_cases k13:x.kind=13
 ·rw [if_pos k13];exact .com I hT
 rw [if_neg k13];by_cases k14:x.kind=14
 ·rw [if_pos k14];rw [if_pos (.inr k14)] at hc;cases hi:w.inR with
  |true=>exact D.back I hi _
  |false=>rw [hi] at hc;exact absurd hc (by decide)
 rw [if_neg k14];by_cases k18:x.kind=18
 ·rw [if_pos k18];cases hi:w.inR with
  |true=>rw [if_pos rfl];exact D.back I hi _
  |false=>rw [if_neg (by simp),<-hi];exact D.hd _
 rw [if_neg k18];exact D
theorem qqt {ts:List ByteArray} {B:Nat} {w:Wd} (I:Wok ts B w) (hT:Ty23 ts) (D:Dur ts w) (x:Act') (deny:Int):Dur ts (actW ts w x deny).2:=by
 unfold actW;by_cases c:actC ts w x deny=0
 ·rw [if_pos c];refine qpw I hT D x ?_;unfold actC at c;split at c
  ·exact c
  ·contradiction
 ·rw [if_neg c];exact D.dm _
theorem quw {ts:List ByteArray} {g:Gr} (R:Right ts g):Dur ts (w0 g):=by
 have f:∀v:Int,v<=(g.nodes.length:Int)->Du (Ac g.nodes.length true) v:=λv hv h0=>by
  rw [List.getElem?_replicate,if_pos zo]
 refine ⟨λ_=>⟨λv hv=>f v (R.roots v hv).2,λk hk v hv=>f v ?_⟩,λh=>(by cases h),λh=>(by cases h),λh=>(by cases h),λh=>(by cases h)⟩;obtain ⟨o,s,j,h1,h2,h3,h4⟩:=hv;obtain ⟨t,s',t1,t2,t3,_,_,t4⟩:=R.obj o (Ag h1);rw [t1,Int.toNat_natCast,t2] at h2;cases h2;exact (t4 j v h4 h3).2
theorem qgo {ts:List ByteArray} {B:Nat} {w:Wd} (I:Wok ts B w) (hT:Ty23 ts) (D:Dur ts w):Right ts (saveG w):=by
 unfold saveG;cases hi:w.inR with
 |false=>exact I.safe0 hT
 |true=>
  have hl:=I.wal;have hb:=I.b;have hbb:=I.bb;have ho:=D.wo hi;have hr:=D.wr hi;refine ⟨⟨by have:=hT.n1;omega,λs hs=>by have:=hT.z s hs;omega,by show w.he.length<=1048576;have:=I.hel;omega,by show w.wa.length<=1048576;omega,λo h=> ?_⟩,by show w.wa.length<=400;omega,by show w.he.length<=1000;have:=I.hel;omega,λv hv=>hr v hv,λo h=> ?_,hT.n1⟩
  ·obtain ⟨s,g1,_,g3,_⟩:=ho o h;have:=hT.z s (Ag g1);omega
  ·obtain ⟨s,g1,g2,g3,g4⟩:=ho o h;exact ⟨o.ty.toNat,s,zo,g1,g3,hT.z0 s (Ag g1),hT.z s (Ag g1),λj v hv hr=>g4 j v hv (vrh hr)⟩
theorem qgf {ts:List ByteArray} {B:Nat} {w:Wd} (I:Wok ts B w) (D:Dur ts w):plainG ts (saveG w)=plainG ts (safeG w):=by
 unfold saveG safeG;cases hi:w.inR with
 |false=>rfl
 |true=>
  rw [if_pos rfl,if_pos rfl];have C:=D.inn hi;refine Agree.plain (P:=λk=>w.du[k]? =some true) ⟨rfl,C.s,λk hk=>⟨D.wd hi k hk,?_,(qb4 I D hi hk).symm⟩,C.o⟩;have h2:=(Ae.1 hk).1;have h3:=I.du;show k<(backO w).length;rw [show (backO w).length=w.ob.length from vhg w _];omega
abbrev nQl (ts:List ByteArray) (w:Wd) (A:List PV):vcb:= [(0,some (.bx false [.a (.int .i64 0),.rf 3,.rf 4,.rf 5,.rf 6,.rf 7,.a (.bool false),.a (.bool false),.a (.bool false),.a (.string ⟨#[]⟩),.rf 8,.a (.int .i64 0)])),(1,some (.bx false [.sz vam (Ad eStr ts),.rf 9,.rf 10,.rf 11,.rf 12,.a (.bool w.inR),.a (.bool w.dm),.rf 13,.rf 14])),(2,some (.bx false [.a (.int .i64 0),.rf 15,.rf 16,.rf 17,.rf 18,.rf 19,.a (.bool false),.a (.bool false),.a (.bool false),.a (.string ⟨#[]⟩),.rf 20,.a (.int .i64 0)])),(3,some (.sl false 0 vb9 [])),(4,some (.sl false 0 vae [])),(5,some (.sl false 0 vai [])),(6,some (.sl false 0 vae [])),(7,some (.sl false 0 vai [])),(8,some (.sl false 0 vfl [])),(9,some (.sl true 0 vai (Ad eObj w.ob))),(10,some (.sl true 0 vb3 (Ad eBl w.du))),(11,some (.sl true 0 vae (Ad vak w.sl))),(12,some (.sl true 0 vae (Ad vak w.hd))),(13,some (.sl true 0 vai (Ad eObj w.wa))),(14,some (.sl true 0 vae (Ad vak w.he))),(15,some (.sl false 0 vb9 A)),(16,some (.sl false 0 vae [])),(17,some (.sl false 0 vai [])),(18,some (.sl false 0 vae [])),(19,some (.sl false 0 vai [])),(20,some (.sl false 0 vfl []))]
abbrev sQl (ts:List ByteArray) (l:List Act') (dn:List Int) (w:Wd) (A:List PV) (i:Nat):St:=⟨[(2,.sz vdf (Ad ves l)),(3,.sz vae (Ad vak dn)),(8,.rf 0),(9,.rf 1),(10,.rf 2),(11,.a (.int .i64 (i:Nat)))],nQl ts w A,21⟩
theorem qc0 {d:Nat} {ts:List ByteArray} {l:List Act'} {dn:List Int} {w w':Wd} (hl:l.length<=60) (hd:dn.length<=1048576) {i:Nat} {x:Act'} (hx:l[i]? =some x) {A:List PV} (hA:A.length<=60) {a:Ans} (h:bOf d ts w x (denyAt dn i) a w'):
  round (T (d+6)) vad [2,3,8,9,10,11] vez (sQl ts l dn w A i)=some (.nrm,sQl ts l dn w' (A++ [eAns a]) (i+1)):=by
 have hi:=(Ae.1 hx).1;have hw:=va0 i zo;have hlt:(i:Int)<l.length:=zo
 unfold bOf at h;obtain ⟨xk,xa,xb,xc,xp,xq⟩:=x;obtain ⟨ob,du,sl,hds,ir,dm,wa,he⟩:=w;obtain ⟨ob',du',sl',hds',ir',dm',wa',he'⟩:=w';obtain ⟨ac,an⟩:=a;by_cases c:i<dn.length
 ·obtain ⟨v,hv⟩:∃v,dn[i]? =some v:=⟨_,Af c⟩
  have e:denyAt dn i=v:=by unfold denyAt;rw [hv];rfl
  have c':(i:Int)<dn.length:=zo
  rw [e] at h;simp only [cWf,cAns] at h;unfold round vez sQl nQl;simp (maxSteps:=3000000) -implicitDefEqProofs (disch:=try exact zd) only [go_sem,Aa,Ab,hw,hlt,hx,c',hv,h,Ah]
  (show some _=some _;kernel_rfl)
 ·have e:denyAt dn i=0:=by unfold denyAt;rw [Al zo];rfl
  have c':¬(i:Int)<dn.length:=zo
  rw [e] at h;simp only [cWf,cAns] at h;unfold round vez sQl nQl;simp (maxSteps:=3000000) -implicitDefEqProofs (disch:=try exact zd) only [go_sem,Aa,Ab,hw,hlt,hx,c',h,Ah]
  (show some _=some _;kernel_rfl)
theorem qee {d:Nat} {ts:List ByteArray} {B:Nat} {l:List Act'} (dn:List Int) {w:Wd} (I:Wok ts B w) (hT:Ty23 ts) (D:Dur ts w) (hB:B+60<=400) (hl:l.length<=60) {sv:Sv} (hs:SvR w sv):∀i,i<=l.length->Dur ts (plI ts l dn w i).2
 |0,_=>D
 |i+1,hi=>by
  obtain ⟨J,hlen⟩:=vne (d:=d) dn I hT hB hl hs i zo;obtain ⟨x,hx⟩:∃x,l[i]? =some x:=⟨_,Af zo⟩
  rw [vpn hx];exact qqt J hT (qee (d:=d) dn I hT D hB hl hs i zo) x _
theorem qnc {d:Nat} {ts:List ByteArray} {B:Nat} {l:List Act'} {dn:List Int} {w:Wd} (I:Wok ts B w) (hT:Ty23 ts) (hK:Two ts) (hB:B+60<=400) (hl:l.length<=60) (hd:dn.length<=1048576) (hs:SvR w .n):
  vbt (T (d+6)) vad [2,3,8,9,10,11] vez (sQl ts l dn w ((plI ts l dn w 0).1.map eAns) 0)=some (.ext 0,⟨[(2,.sz vdf (Ad ves l)),(3,.sz vae (Ad vak dn)),(8,.rf 0),(9,.rf 1),(10,.rf 2),(11,.a (.int .i64 l.length)),(26,.a (.bool false))],nQl ts (plI ts l dn w l.length).2 ((plI ts l dn w l.length).1.map eAns),421⟩):=by
 refine vcj (m:=l.length) (λi=>sQl ts l dn (plI ts l dn w i).2 ((plI ts l dn w i).1.map eAns) i) _ (vbc zo) (λi hi=> ?_) ?_
 ·obtain ⟨J,hlen⟩:=vne (d:=d) (l:=l) dn I hT hB hl hs i zo;obtain ⟨x,hx⟩:∃x,l[i]? =some x:=⟨_,Af zo⟩
  rw [vpn hx];dsimp only;rw [vb5];exact qc0 hl hd hx (by rw [List.length_map,hlen];omega) (qbb (d:=d) J hT hK zo x (denyAt dn i))
 ·have hlt:¬(l.length:Int)<l.length:=zo
  generalize (plI ts l dn w l.length).2=w' at *;generalize (plI ts l dn w l.length).1.map eAns=A at *;clear I hs;obtain ⟨ob',du',sl',hds',ir',dm',wa',he'⟩:=w';unfold round vez sQl nQl;simp -implicitDefEqProofs (disch:=try exact zd) only [go_sem,Aa,Ab,hlt]
theorem qs3 {ts:List ByteArray} {g:Gr} (h:graphOk ts g=true):Two ts:=by
 unfold graphOk vgx at h;simp only [Bool.and_eq_true,decide_eq_true_eq,An] at h;have ht:=h.1;intro s hs j hj;have:=ht.2 s hs;unfold okType at this;simp only [Bool.and_eq_true,decide_eq_true_eq] at this;have h2:=An.1 this.2;unfold kAt;obtain ⟨b,hb⟩:∃b,(ch s)[j]? =some b:=⟨_,Af (by rw [<-vho];exact hj)⟩
 rw [hb,Option.getD_some];have h3:=h2 b (Ag hb);unfold okC at h3;simp only [Bool.or_eq_true,decide_eq_true_eq] at h3;omega
theorem vt4 {d:Nat} {ts:List ByteArray} {g:Gr} (h:Small ts g) (l:List Act') (dn:List Int) (hl:l.length<=1048576) (hd:dn.length<=1048576):
  vag (T (d+9)) vad vff [.sl true vam (ts.map eStr),cGr true g,.sl true vdf (l.map ves),.sl true vae (dn.map vak)]=some ([wpC ts g l dn],[]):=by
 have hw:=qyc (d:=d+1) h l hl;unfold wpC;cases hi:isW ts g l with
 |false=>
  rw [hi] at hw;rw [if_neg (by simp)];rw [vab rfl];simp -implicitDefEqProofs (disch:=try exact zd) only [go_sem,Aa,Ab,vff,vlo,hw];rfl
 |true=>
  rw [hi] at hw;rw [if_pos rfl];obtain ⟨h1,h2,h3,h4⟩:=voz hi;have hT:=vuy h2;have hK:=qs3 h2;have I:=vwv h h2 h3 h4;have D:=quw (Right.of h h2);have hn:=qto (d:=d+7) (ts:=ts) (g:=g) zo zo λo ho=>by
   obtain ⟨s,g1,_,g3,_⟩:=I.ob o ho;have:=hT.z s (Ag g1);omega
  have key:=qnc (d:=d+3) (l:=l) (dn:=dn) I hT hK (by decide) h1 hd (λh=>by cases h);obtain ⟨J,hA⟩:=vne (d:=d) (sv:= .n) dn I hT (by decide) h1 (λh=>by cases h) l.length (Ai _);have DJ:=qee (d:=d) (sv:= .n) dn I hT D (by decide) h1 (λh=>by cases h) l.length (Ai _);have t1:=za5 (d:=d+5) (J.now hT) J.hd J.sl;have t2:=qws (d:=d+5) (qgo J hT DJ);rw [qgf J DJ] at t2;generalize (plI ts l dn (w0 g) l.length).1=A at *;generalize (plI ts l dn (w0 g) l.length).2=w at *;rw [show (plI ts l dn (w0 g) 0).1.map eAns= [] from rfl] at key;clear I D J DJ hT hK h2;generalize plainG ts (nowG w)=p at *;generalize plainG ts (safeG w)=q at *;generalize w0 g=w1 at *;obtain ⟨pr,pn⟩:=p;obtain ⟨qr,qn⟩:=q;obtain ⟨ob,du,sl,hds,ir,dm,wa,he⟩:=w;obtain ⟨ob1,du1,sl1,hds1,ir1,dm1,wa1,he1⟩:=w1;dsimp only at *;unfold sQl nQl at key;simp only [cWf] at hn t1 t2;rw [vab rfl];simp (maxSteps:=3000000) -implicitDefEqProofs (disch:=try exact zd) only [go_sem,Aa,Ab,vff,vlo,hw,hn,vaw key,t1,t2]
structure Ru where
 code:Int
 ans:List Ans
 now:Gr
 safe:Gr
 i:Bool
 dm:Bool
abbrev cRu (z:Bool) (r:Ru):CV:= .st [.a (.int .i64 r.code),.sl z vb9 (r.ans.map eAns),.sl z vae (r.now.roots.map vak),.sl z vai (r.now.nodes.map eObj),.sl z vae (r.safe.roots.map vak),.sl z vai (r.safe.nodes.map eObj),.a (.bool r.i),.a (.bool r.dm),.a (.bool false),.a (.string ⟨#[]⟩),.sl z vfl [],.a (.int .i64 0)]
def okR (ts:List ByteArray) (A:List Ans) (w:Wd):Ru:=⟨0,A,plainG ts (nowG w),plainG ts (safeG w),w.inR,w.dm⟩
def badR:Ru:=⟨1,[],⟨[],[]⟩,⟨[],[]⟩,false,false⟩
def ruW (ts:List ByteArray) (g:Gr) (l:List Act') (dn:List Int):Ru:=
 if isW ts g l then okR ts (plI ts l dn (w0 g) l.length).1 (plI ts l dn (w0 g) l.length).2 else badR
theorem qj8 (ts:List ByteArray) (g:Gr) (l:List Act') (dn:List Int):wpC ts g l dn=cRu false (ruW ts g l dn):=by
 unfold wpC ruW;split<;>rfl
structure SmG (g:Gr):Prop where
 r:g.roots.length<=1048576
 n:g.nodes.length<=1048576
 v:∀o∈g.nodes,o.vals.length<=1048576
theorem vym {ts:List ByteArray} {g:Gr} (R:Right ts g):SmG (plainG ts g):=by
 obtain ⟨h1,h2,h3⟩:=vt7 R;exact ⟨zo,zo,λo ho=>by have:=h3 o ho;omega⟩
structure SmR (r:Ru):Prop where
 a:r.ans.length<=60
 n:SmG r.now
 s:SmG r.safe
theorem qmq {ts:List ByteArray} {g:Gr} {l:List Act'} (h:Small ts g) (hi:isW ts g l=true) (dn:List Int):∃B,Wok ts B (plI ts l dn (w0 g) l.length).2/\(plI ts l dn (w0 g) l.length).1.length=l.length/\Ty23 ts:=by
 obtain ⟨h1,h2,h3,h4⟩:=voz hi;have hT:=vuy h2;have I:=vwv h h2 h3 h4;obtain ⟨J,hA⟩:=vne (d:=0) (sv:= .n) dn I hT (by decide) h1 (λh=>by cases h) l.length (Ai _);exact ⟨_,J,hA,hT⟩
theorem qsc {ts:List ByteArray} {g:Gr} (h:Small ts g) (l:List Act') (dn:List Int):SmR (ruW ts g l dn):=by
 unfold ruW;cases hi:isW ts g l with
 |false=>
  have z:SmG ⟨[],[]⟩:=⟨Am _,Am _,λo ho=>(by cases ho)⟩
  exact ⟨Am _,z,z⟩
 |true=>
  rw [if_pos rfl];obtain ⟨h1,h2,h3,h4⟩:=voz hi;have hT:=vuy h2;have I:=vwv h h2 h3 h4;obtain ⟨J,hA⟩:=vne (d:=0) (sv:= .n) dn I hT (by decide) h1 (λh=>by cases h) l.length (Ai _);refine ⟨by show (plI ts l dn (w0 g) l.length).1.length<=60;omega,vym (J.now hT),vym ?_⟩;show Right ts (safeG _);unfold safeG;cases hi:(plI ts l dn (w0 g) l.length).2.inR with
  |true=>exact J.safe hT hi
  |false=>exact J.safe0 hT
theorem qu7 {d:Nat} {ts:List ByteArray} {g:Gr} (h:Small ts g) (l:List Act') (dn:List Int) (hl:l.length<=1048576) (hd:dn.length<=1048576):
  vag (T (d+9)) vad vdy [.sl true vam (ts.map eStr),cGr true g,.sl true vdf (l.map ves),.sl true vae (dn.map vak)]=some ([cRu false (ruW ts g l dn)],[]):=by
 rw [<-qj8];exact vt6 h l dn hl hd
theorem qu6 {d:Nat} {ts:List ByteArray} {g:Gr} (h:Small ts g) (l:List Act') (dn:List Int) (hl:l.length<=1048576) (hd:dn.length<=1048576):
  vag (T (d+9)) vad vff [.sl true vam (ts.map eStr),cGr true g,.sl true vdf (l.map ves),.sl true vae (dn.map vak)]=some ([cRu false (ruW ts g l dn)],[]):=by
 rw [<-qj8];exact vt4 h l dn hl hd
