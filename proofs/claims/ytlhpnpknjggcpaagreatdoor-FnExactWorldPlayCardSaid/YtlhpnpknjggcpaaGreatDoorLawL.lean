/- Worlds of the reference: an act with a refusal; the arguments. Worlds of the reference: new worlds, what is now, what is safe. Worlds: what is durable reaches nothing else, so what is safe is the same to both. Worlds of the reference: a whole play. -/
import Derived.Test.YtlhpnpknjggcpaaGreatDoorLawO
import Derived.Test.YtlhpnpknjggcpaaGreatDoorLawR
import Derived.Test.YtlhpnpknjggcpaaGreatDoorLawP
open Nat renaming reduceAdd->Aa,reduceBEq->Ab,le_refl->Al
open List renaming replicate->Ac,map->Ad,getElem?_eq_some_iff->Ae,getElem?_eq_getElem->Af,mem_of_getElem?->Ag,nil_append->Ah,getElem?_set->Ai,getElem?_append_left->Aj,getElem?_eq_none->Ak,all_eq_true->Am
namespace Go.Proofs.YtlhpnpknjggcpaaGreatDoor.VM
open Go Sy
variable {Φ:Nat→Option Callee} {N:Nat}
set_option maxRecDepth 100000
set_option maxHeartbeats 8000000
abbrev bOf (d:Nat) (ts:List ByteArray) (w:Wd) (x:Act') (deny:Int) (a:Ans) (w':Wd):Prop:=vaf (T (d+5)) vae vdn [cWf false ts w,cAct true x,.a (.int .i64 deny)]=some ([cAns a],[cWf false ts w'])
theorem qoq {d:Nat} {ts:List ByteArray} {w:Wd} (x:Act') {deny:Int} (h:deny≠0) (hd:w.inR=false→w.dm=false):bOf d ts w x deny ⟨deny,0⟩ {w with dm:=w.inR}:=by
 unfold bOf;obtain ⟨xk,xa,xb,xc,xp,xq⟩:=x;obtain ⟨ob,du,sl,hds,ir,dm,wa,he⟩:=w;dsimp only at *;cases ir with
 |false=>
  obtain rfl:=hd rfl;rw [vab rfl];simp -implicitDefEqProofs (disch:=first|exact zd|fail) only [go_sem,Aa,Ab,vdn,vg8,cWf,h]
 |true=>
  rw [vab rfl];simp -implicitDefEqProofs (disch:=first|exact zd|fail) only [go_sem,Aa,Ab,vdn,vg8,cWf,h]
theorem qo6 {d:Nat} {ts:List ByteArray} {w:Wd} (x:Act') {c:Int} (h:c≠0) (hd:w.inR=false→w.dm=false) (hc:rOf (d+4) va3 ts w x c 0 w):bOf d ts w x 0 ⟨c,0⟩ {w with dm:=w.inR}:=by
 unfold bOf;unfold rOf at hc;obtain ⟨xk,xa,xb,xc,xp,xq⟩:=x;obtain ⟨ob,du,sl,hds,ir,dm,wa,he⟩:=w;dsimp only at *;cases ir with
 |false=>
  obtain rfl:=hd rfl;rw [vab rfl];simp -implicitDefEqProofs (disch:=first|exact zd|fail) only [go_sem,Aa,Ab,vdn,vg8,cWf,hc]
 |true=>
  rw [vab rfl];simp -implicitDefEqProofs (disch:=first|exact zd|fail) only [go_sem,Aa,Ab,vdn,vg8,cWf,hc]
theorem qx4 {d:Nat} {ts:List ByteArray} {w w':Wd} (x:Act') {n:Int} (hc:rOf (d+4) va3 ts w x 0 n w'):bOf d ts w x 0 ⟨0,n⟩ w':=by
 unfold bOf;unfold rOf at hc;obtain ⟨xk,xa,xb,xc,xp,xq⟩:=x;obtain ⟨ob,du,sl,hds,ir,dm,wa,he⟩:=w;obtain ⟨ob',du',sl',hds',ir',dm',wa',he'⟩:=w';rw [vab rfl];simp -implicitDefEqProofs (disch:=first|exact zd|fail) only [go_sem,Aa,Ab,vdn,vg8,cWf,hc]
theorem qur {d:Nat} {ts:List ByteArray} {B:Nat} {w:Wd} (I:Wok ts B w) (hT:Ty23 ts) (hK:Two ts) (hB:B+1≤400) (x:Act') (deny:Int):bOf d ts w x deny (actW ts w x deny).1 (actW ts w x deny).2:=by
 have hd:w.inR=false→w.dm=false:=fun hi=>by
  cases hd:w.dm with
  |false=>rfl
  |true=>have:=I.dm hd;rw [hi] at this;cases this
 by_cases h0:deny=0
 ·subst h0;have hc:=qyq (d:=d) I hT hK hB x;unfold DoS at hc;by_cases c:codeW ts w x=0
  ·have e:actW ts w x 0=(⟨0,(effW ts w x).1⟩,(effW ts w x).2):=by
    unfold actW actC;rw [if_pos rfl,if_pos c]
   rw [e];rw [c,if_pos rfl,if_pos rfl] at hc;exact qx4 x hc
  ·have e:actW ts w x 0=(⟨codeW ts w x,0⟩,{w with dm:=w.inR}):=by
    unfold actW actC;rw [if_pos rfl,if_neg c]
   rw [e];rw [if_neg c,if_neg c] at hc;exact qo6 x c hd hc
 ·have e:actW ts w x deny=(⟨deny,0⟩,{w with dm:=w.inR}):=by
   unfold actW actC;rw [if_neg h0,if_neg h0]
  rw [e];exact qoq x h0 hd
theorem zdo {d:Nat} {ts:List ByteArray} {g:Gr} (h:Small ts g) (l:List Act') (hl:l.length≤1048576):vaf (T (d+7)) vae vdy [.sl true vam (ts.map eStr),cGr true g,.sl true vbv (l.map vcy)]=some ([.a (.bool (isW ts g l))],[]):=by
 have h1:=vze (d:=d+3) h;have hr:=h.roots;have hn:=h.nodes;unfold isW;generalize graphOk ts g=k at *;obtain ⟨rs,ns⟩:=g;dsimp only at *;by_cases c1:l.length≤60
 ·have c1':(l.length:Int)≤60:=by omega
  rw [decide_eq_true c1,Bool.true_and];cases k with
  |false=>rw [vab rfl];simp -implicitDefEqProofs (disch:=first|exact zd|fail) only [go_sem,Aa,Ab,vdy,vh4,c1',h1]
  |true=>
   rw [Bool.true_and];by_cases c2:rs.length=8
   ·have c2':(rs.length:Int)=8:=by omega
    rw [decide_eq_true c2,Bool.true_and];by_cases c3:ns.length≤200
    ·have c3':(ns.length:Int)≤200:=by omega
     rw [decide_eq_true c3];rw [vab rfl];simp -implicitDefEqProofs (disch:=first|exact zd|fail) only [go_sem,Aa,Ab,vdy,vh4,c1',h1,c2',c3']
    ·have c3':¬(ns.length:Int)≤200:=by omega
     rw [decide_eq_false c3];rw [vab rfl];simp -implicitDefEqProofs (disch:=first|exact zd|fail) only [go_sem,Aa,Ab,vdy,vh4,c1',h1,c2',c3']
   ·have c2':¬(rs.length:Int)=8:=by omega
    rw [decide_eq_false c2,Bool.false_and];rw [vab rfl];simp -implicitDefEqProofs (disch:=first|exact zd|fail) only [go_sem,Aa,Ab,vdy,vh4,c1',h1,c2']
 ·have c1':¬(l.length:Int)≤60:=by omega
  rw [decide_eq_false c1,Bool.false_and];rw [vab rfl];simp -implicitDefEqProofs (disch:=first|exact zd|fail) only [go_sem,Aa,Ab,vdy,vh4,c1']
abbrev nNs (ts:List ByteArray) (g:Gr) (L:List PV):vcs:= [(0,some (.bx false [.sz vag (Ad vak g.roots),.sz vai (Ad eObj g.nodes)])),(1,some (.bx false [.sz vam (Ad eStr ts),.rf 2,.rf 3,.rf 4,.rf 5,.a (.bool false),.a (.bool false),.rf 6,.rf 7])),(2,some (.sl false 0 vai (Ad eObj g.nodes))),(3,some (.sl false 0 vb8 L)),(4,some (.sl false 0 vag (Ad vak g.roots))),(5,some (.sl false 0 vag (Ac (Int.toNat 12) (.a (.int .i64 0))))),(6,some (.sl false 0 vai [])),(7,some (.sl false 0 vag []))]
theorem qtq (n:Nat):(Ac (n+1) true).map eBl=(Ac n true).map eBl++ [.a (.bool true)]:=by
 rw [List.replicate_succ',vgt]
theorem qyn {d:Nat} {ts:List ByteArray} {g:Gr} (hn:g.nodes.length≤400):
  vbt (T d) vae [3,5,6] vkp ⟨[(3,.rf 0),(5,.rf 1),(6,.a (.int .i64 (0:Nat)))],nNs ts g ((Ac 0 true).map eBl),8⟩=
  some (.ext 0,⟨[(3,.rf 0),(5,.rf 1),(6,.a (.int .i64 g.nodes.length)),(28,.a (.bool false))],nNs ts g ((Ac g.nodes.length true).map eBl),508⟩):=by
 refine vbx (m:=g.nodes.length) (fun i=>⟨[(3,.rf 0),(5,.rf 1),(6,.a (.int .i64 (i:Nat)))],nNs ts g ((Ac i true).map eBl),8⟩) _ (va1 zo) (fun i hi=> ?_) ?_
 ·have hw:=vaw i zo;have hlt:(i:Int)<g.nodes.length:=by omega
  rw [qtq];have hlen:((Ac i true).map eBl).length≤400:=by simp;omega
  generalize (Ac i true).map eBl=L at *;obtain ⟨rs,ns⟩:=g;dsimp only at *;unfold round nNs vkp;simp -implicitDefEqProofs (disch:=first|exact zd|fail) only [go_sem,Aa,Ab,hw,hlt]
  (show some _=some _;kernel_rfl)
 ·have hlt:¬(g.nodes.length:Int)<g.nodes.length:=by omega
  generalize (Ac g.nodes.length true).map eBl=L at *;obtain ⟨rs,ns⟩:=g;dsimp only at *;unfold round nNs vkp;simp -implicitDefEqProofs (disch:=first|exact zd|fail) only [go_sem,Aa,Ab,hlt]
theorem zhk {d:Nat} {ts:List ByteArray} {g:Gr} (hn:g.nodes.length≤400) (hr:g.roots.length≤1000) (hv:∀o∈g.nodes,o.vals.length≤1048576):vaf (T (d+1)) vae vit [.sl true vam (ts.map eStr),cGr true g]=some ([cWf false ts (w0 g)],[]):=by
 have key:=qyn (d:=d+1) (ts:=ts) hn;have h1:=qvn (Φ:=T d) g.nodes zo hv;have e0:(Ac 0 true).map eBl= []:=rfl;rw [e0] at key;have e12:(Ac 12 (0:Int)).map vak=Ac (Int.toNat 12) (.a (.int .i64 0)):=rfl;unfold w0 cWf;dsimp only;rw [e12];generalize (Ac g.nodes.length true).map eBl=L at *;obtain ⟨rs,ns⟩:=g;dsimp only [nNs] at *;rw [vab rfl];simp -implicitDefEqProofs (disch:=first|exact zd|fail) only [go_sem,Aa,Ab,vit,vvm,h1,Ah,va5 key]
theorem zi3 {d:Nat} {ts:List ByteArray} {w:Wd} (R:Right ts (nowG w)) (h1:w.hd.length=12) (h2:w.sl.length=8):vaf (T (d+3)) vae vhg [cWf true ts w]=some ([cGr false (plainG ts (nowG w))],[]):=by
 have t1:=vyt (d:=d) R;clear R;unfold nowG at *;generalize plainG ts _=p at *;have z1:(w.hd.map vak).length=12:=by simpa using h1
 have z2:(w.sl.map vak).length=8:=by simpa using h2
 obtain ⟨pr,pn⟩:=p;obtain ⟨ob,du,sl,hds,ir,dm,wa,he⟩:=w;dsimp only at *;simp only [cGr,List.map_append] at t1⊢;rw [vab rfl];simp -implicitDefEqProofs (disch:=first|exact zd|fail) only [go_sem,Aa,Ab,vhg,vs3,Ah,t1]
abbrev saveG (w:Wd):Gr:=if w.inR then ⟨w.he,w.wa⟩ else ⟨w.sl,w.ob⟩
theorem zdv {d:Nat} {ts:List ByteArray} {w:Wd} (R:Right ts (saveG w)):vaf (T (d+3)) vae ve9 [cWf true ts w]=some ([cGr false (plainG ts (saveG w))],[]):=by
 have t1:=vyt (d:=d) R;clear R;unfold saveG at *;generalize plainG ts _=p at *;obtain ⟨pr,pn⟩:=p;obtain ⟨ob,du,sl,hds,ir,dm,wa,he⟩:=w;dsimp only at *;cases ir with
 |false=>
  rw [if_neg (by simp)] at t1;rw [vab rfl];simp -implicitDefEqProofs (disch:=first|exact zd|fail) only [go_sem,Aa,Ab,ve9,vmz,t1]
 |true=>
  rw [if_pos rfl] at t1;rw [vab rfl];simp -implicitDefEqProofs (disch:=first|exact zd|fail) only [go_sem,Aa,Ab,ve9,vmz,t1]
abbrev Du (du:List Bool) (v:Int):Prop:=0<v→du[(v-1).toNat]? =some true
structure Clo (ts:List ByteArray) (ob:List Obj') (du:List Bool) (sl:List Int):Prop where
 s:∀v∈sl,Du du v
 o:∀k:Nat,du[k]? =some true→∀v,Ref ts ob k v→Du du v
structure Dur (ts:List ByteArray) (w:Wd):Prop where
 out:w.inR=false→Clo ts w.ob w.du w.sl
 inn:w.inR=true→Clo ts w.wa w.du w.he
 wo:w.inR=true→∀o∈w.wa,ObOk ts w.wa.length o
 wr:w.inR=true→Rin w.wa.length w.he
 wd:w.inR=true→∀k:Nat,w.du[k]? =some true→k<w.wa.length
theorem Dur.dm {ts:List ByteArray} {w:Wd} (D:Dur ts w) (b:Bool):Dur ts {w with dm:=b}:=⟨D.out,D.inn,D.wo,D.wr,D.wd⟩
theorem Dur.hd {ts:List ByteArray} {w:Wd} (D:Dur ts w) (h:List Int):Dur ts {w with hd:=h}:=⟨D.out,D.inn,D.wo,D.wr,D.wd⟩
theorem qb5 {du:List Bool} {k:Nat}:(du++ [false])[k]? =some true↔du[k]? =some true:=by
 by_cases c:k<du.length
 ·rw [Aj c]
 ·rw [List.getElem?_append_right zo,Ak (l:=du) zo];cases k-du.length<;>simp
theorem Clo.new {ts:List ByteArray} {ob:List Obj'} {du:List Bool} {sl:List Int} (C:Clo ts ob du sl):Clo ts ob (du++ [false]) sl:=
 ⟨fun v hv h0=>qb5.2 (C.s v hv h0),fun k hk v hv h0=>qb5.2 (C.o k (qb5.1 hk) v hv h0)⟩
theorem Clo.same {ts:List ByteArray} {ob ob':List Obj'} {du:List Bool} {sl:List Int} (C:Clo ts ob du sl) (h:∀k:Nat,du[k]? =some true→ob'[k]? =ob[k]?):Clo ts ob' du sl:=
 ⟨C.s,fun k hk v hv=>C.o k hk v (by
  obtain ⟨o,s,j,h1,h2⟩:=hv
  exact ⟨o,s,j,by rw [←h k hk];exact h1,h2⟩)⟩
theorem qqd {w:Wd} {k:Nat} (hd:w.du[k]? =some true) (hk:k<w.ob.length):∀{i},i≤w.wa.length→(bkI w i)[k]? =if k<i then w.wa[k]? else w.ob[k]?
 |0,_=>by rw [if_neg zo];rfl
 |i+1,hi=>by
  have ih:=qqd hd hk (i:=i) zo;have hl:=vhw w i;obtain ⟨o,ho⟩:∃o,w.wa[i]? =some o:=⟨_,Af zo⟩
  have e:bkI w (i+1)=if w.du[i]? =some true then (bkI w i).set i o else bkI w i:=by
   conv=>lhs;unfold bkI
   rw [ho]
  rw [e];by_cases c:i=k
  ·subst c;rw [if_pos hd,Ai,if_pos rfl,if_pos zo,if_pos zo,ho]
  ·have e2:((if w.du[i]? =some true then (bkI w i).set i o else bkI w i):List Obj')[k]? =(bkI w i)[k]? :=by
    split
    ·rw [Ai,if_neg c]
    ·rfl
   rw [e2,ih];by_cases c2:k<i
   ·rw [if_pos c2,if_pos zo]
   ·rw [if_neg c2,if_neg zo]
theorem qh4 {ts:List ByteArray} {B:Nat} {w:Wd} (I:Wok ts B w) (D:Dur ts w) (hi:w.inR=true) {k:Nat} (hd:w.du[k]? =some true):(backO w)[k]? =w.wa[k]? :=by
 have h1:=D.wd hi k hd;have h2:=(Ae.1 hd).1;have h3:=I.du;rw [show backO w=bkI w w.wa.length from rfl,qqd hd zo (Al _),if_pos h1]
theorem Dur.back {ts:List ByteArray} {B:Nat} {w:Wd} (I:Wok ts B w) (D:Dur ts w) (hi:w.inR=true) (h:List Int):Dur ts ⟨backO w,w.du,w.he,h,false,false,[],[]⟩:=
 ⟨fun _=>(D.inn hi).same fun k hk=>qh4 I D hi hk,fun h=>(by cases h),fun h=>(by cases h),fun h=>(by cases h),fun h=>(by cases h)⟩
theorem Dur.com {ts:List ByteArray} {B:Nat} {w:Wd} (I:Wok ts B w) (hT:Ty23 ts):Dur ts ⟨w.ob,comD ts w,w.sl,w.hd,false,false,[],[]⟩:=by
 have R:=vp6 I hT;refine ⟨fun _=>⟨fun v hv h0=>(vxs I hT).2 (vq6 R (List.mem_append.2 (.inl hv)) h0),fun k hk v hv h0=>(vxs I hT).2 (vw2 R ((vxs I hT).1 hk) hv h0)⟩,fun h=>(by cases h),fun h=>(by cases h),fun h=>(by cases h),fun h=>(by cases h)⟩
theorem Dur.setV {ts:List ByteArray} {w:Wd} (D:Dur ts w) {m:Nat} (o:Obj') (h:w.inR=true∨w.du[m]? =some false):Dur ts {w with ob:=w.ob.set m o}:=
 ⟨fun hi=>(D.out hi).same (fun k hk=>by
  have h:=h.resolve_left (by intro h;rw [show w.inR=false from hi] at h;cases h);rw [Ai,if_neg];intro e;subst e;rw [h] at hk
  exact absurd hk (by decide)),D.inn,D.wo,D.wr,D.wd⟩
theorem Dur.new {ts:List ByteArray} {w:Wd} (D:Dur ts w) (hdu:w.du.length=w.ob.length) (o:Obj') (h:List Int):Dur ts {w with ob:=w.ob++ [o],du:=w.du++ [false],hd:=h}:=
 ⟨fun hi=>((D.out hi).same fun k hk=>by
  have h1:k<w.du.length:=(Ae.1 hk).1
  exact Aj zo).new,fun hi=>(D.inn hi).new,D.wo,D.wr,fun hi k hk=>D.wd hi k (qb5.1 hk)⟩
theorem Dur.begin {ts:List ByteArray} {B:Nat} {w:Wd} (I:Wok ts B w) (D:Dur ts w) (hi:w.inR=false):Dur ts {w with inR:=true,wa:=w.ob,he:=w.sl}:=
 ⟨fun h=>(by cases h),fun _=>D.out hi,fun _=>I.ob,fun _=>I.slr,fun _ k hk=>by
  have h1:k<w.du.length:=(Ae.1 hk).1;have:=I.du;show k<w.ob.length
  omega⟩
theorem Dur.handW {ts:List ByteArray} {w:Wd} (D:Dur ts w) (r:Int):Dur ts (VM.handW w r).2:=by
 unfold VM.handW;split
 ·exact D
 ·exact D.hd _
theorem qwj {ts:List ByteArray} {B:Nat} {w:Wd} (I:Wok ts B w) (hT:Ty23 ts) (D:Dur ts w) (x:Act') (hc:codeW ts w x=0):Dur ts (effW ts w x).2:=by
 unfold effW;by_cases k1:x.kind=1
 ·rw [if_pos k1];exact D.new I.du _ _
 rw [if_neg k1];by_cases k2:x.kind=2
 ·rw [if_pos k2];exact D
 rw [if_neg k2];by_cases k3:x.kind=3
 ·rw [if_pos k3];obtain ⟨n,m,j,t,vs,s,v,F⟩:=vo2 I (vou hc zo);dsimp only;rw [F.mAt,vq8 F.fo];exact D.setV _ (F.fd (.inl k3))
 rw [if_neg k3];by_cases k4:x.kind=4
 ·rw [if_pos k4];exact D.handW _
 rw [if_neg k4];by_cases k5:x.kind=5
 ·rw [if_pos k5];obtain ⟨n,m,j,t,vs,s,v,F⟩:=vo2 I (vou hc zo);dsimp only;rw [F.mAt,vq8 F.fo];exact D.setV _ (F.fd (.inr k5))
 rw [if_neg k5];by_cases k6:x.kind=6
 ·rw [if_pos k6];exact D.hd _
 rw [if_neg k6];by_cases k7:x.kind=7
 ·rw [if_pos k7];exact D
 rw [if_neg k7];by_cases k8:x.kind=8
 ·rw [if_pos k8];exact D
 rw [if_neg k8];by_cases k9:x.kind=9
 ·rw [if_pos k9];exact D
 rw [if_neg k9];have cd:¬(w.dm=true∧¬(14≤x.kind∧x.kind≤18)):=fun h=>by
  unfold codeW at hc;rw [if_pos h] at hc;exact absurd hc (by decide)
 unfold codeW at hc;rw [if_neg cd,if_neg k1,if_neg zo,if_neg zo,if_neg k7] at hc;by_cases k10:x.kind=10
 ·rw [if_pos k10] at hc⊢;cases hi:w.inR with
  |true=>rw [hi] at hc;exact absurd hc (by decide)
  |false=>exact D.begin I hi
 rw [if_neg k10] at hc⊢;by_cases k11:x.kind=11
 ·rw [if_pos k11] at hc⊢;have hi:w.inR=true:=by
   cases hi:w.inR with
   |true=>rfl
   |false=>
    rw [hi] at hc;split at hc
    ·exact absurd hc (by decide)
    ·split at hc
     ·exact absurd hc (by decide)
     ·exact absurd hc (by decide)
  exact ⟨fun h=>(by rw [show w.inR=false from h] at hi;cases hi),D.inn,D.wo,D.wr,D.wd⟩
 rw [if_neg k11] at hc⊢;by_cases k12:x.kind=12
 ·rw [if_pos k12];exact D.handW _
 rw [if_neg k12] at hc⊢;by_cases k13:x.kind=13
 ·rw [if_pos k13];exact .com I hT
 rw [if_neg k13];by_cases k14:x.kind=14
 ·rw [if_pos k14];rw [if_pos (.inr k14)] at hc;cases hi:w.inR with
  |true=>exact D.back I hi _
  |false=>rw [hi] at hc;exact absurd hc (by decide)
 rw [if_neg k14];by_cases k18:x.kind=18
 ·rw [if_pos k18];cases hi:w.inR with
  |true=>rw [if_pos rfl];exact D.back I hi _
  |false=>rw [if_neg (by simp),←hi];exact D.hd _
 rw [if_neg k18];exact D
theorem qx2 {ts:List ByteArray} {B:Nat} {w:Wd} (I:Wok ts B w) (hT:Ty23 ts) (D:Dur ts w) (x:Act') (deny:Int):Dur ts (actW ts w x deny).2:=by
 unfold actW;by_cases c:actC ts w x deny=0
 ·rw [if_pos c];refine qwj I hT D x ?_;unfold actC at c;split at c
  ·exact c
  ·contradiction
 ·rw [if_neg c];exact D.dm _
theorem zbl {ts:List ByteArray} {g:Gr} (R:Right ts g):Dur ts (w0 g):=by
 have f:∀v:Int,v≤(g.nodes.length:Int)→Du (Ac g.nodes.length true) v:=fun v hv h0=>by
  rw [List.getElem?_replicate,if_pos zo]
 refine ⟨fun _=>⟨fun v hv=>f v (R.roots v hv).2,fun k hk v hv=>f v ?_⟩,fun h=>(by cases h),fun h=>(by cases h),fun h=>(by cases h),fun h=>(by cases h)⟩;obtain ⟨o,s,j,h1,h2,h3,h4⟩:=hv;obtain ⟨t,s',t1,t2,t3,_,_,t4⟩:=R.obj o (Ag h1);rw [t1,Int.toNat_natCast,t2] at h2;cases h2;exact (t4 j v h4 h3).2
theorem qlx {ts:List ByteArray} {B:Nat} {w:Wd} (I:Wok ts B w) (hT:Ty23 ts) (D:Dur ts w):Right ts (saveG w):=by
 unfold saveG;cases hi:w.inR with
 |false=>exact I.safe0 hT
 |true=>
  have hl:=I.wal;have hb:=I.b;have hbb:=I.bb;have ho:=D.wo hi;have hr:=D.wr hi;refine ⟨⟨by have:=hT.n1;omega,fun s hs=>by have:=hT.z s hs;omega,by show w.he.length≤1048576;have:=I.hel;omega,by show w.wa.length≤1048576;omega,fun o h=> ?_⟩,by show w.wa.length≤400;omega,by show w.he.length≤1000;have:=I.hel;omega,fun v hv=>hr v hv,fun o h=> ?_,hT.n1⟩
  ·obtain ⟨s,g1,_,g3,_⟩:=ho o h;have:=hT.z s (Ag g1);omega
  ·obtain ⟨s,g1,g2,g3,g4⟩:=ho o h;exact ⟨o.ty.toNat,s,by omega,g1,g3,hT.z0 s (Ag g1),hT.z s (Ag g1),fun j v hv hr=>g4 j v hv (vt3 hr)⟩
theorem qmy {ts:List ByteArray} {B:Nat} {w:Wd} (I:Wok ts B w) (D:Dur ts w):plainG ts (saveG w)=plainG ts (safeG w):=by
 unfold saveG safeG;cases hi:w.inR with
 |false=>rfl
 |true=>
  rw [if_pos rfl,if_pos rfl];have C:=D.inn hi;refine Agree.plain (P:=fun k=>w.du[k]? =some true) ⟨rfl,C.s,fun k hk=>⟨D.wd hi k hk,?_,(qh4 I D hi hk).symm⟩,C.o⟩;have h2:=(Ae.1 hk).1;have h3:=I.du;show k<(backO w).length;rw [show (backO w).length=w.ob.length from vhw w _];omega
abbrev nQl (ts:List ByteArray) (w:Wd) (A:List PV):vcs:= [(0,some (.bx false [.a (.int .i64 0),.rf 3,.rf 4,.rf 5,.rf 6,.rf 7,.a (.bool false),.a (.bool false),.a (.bool false),.a (.string ⟨#[]⟩),.rf 8,.a (.int .i64 0)])),(1,some (.bx false [.sz vam (Ad eStr ts),.rf 9,.rf 10,.rf 11,.rf 12,.a (.bool w.inR),.a (.bool w.dm),.rf 13,.rf 14])),(2,some (.bx false [.a (.int .i64 0),.rf 15,.rf 16,.rf 17,.rf 18,.rf 19,.a (.bool false),.a (.bool false),.a (.bool false),.a (.string ⟨#[]⟩),.rf 20,.a (.int .i64 0)])),(3,some (.sl false 0 va6 [])),(4,some (.sl false 0 vag [])),(5,some (.sl false 0 vai [])),(6,some (.sl false 0 vag [])),(7,some (.sl false 0 vai [])),(8,some (.sl false 0 vcx [])),(9,some (.sl true 0 vai (Ad eObj w.ob))),(10,some (.sl true 0 vb8 (Ad eBl w.du))),(11,some (.sl true 0 vag (Ad vak w.sl))),(12,some (.sl true 0 vag (Ad vak w.hd))),(13,some (.sl true 0 vai (Ad eObj w.wa))),(14,some (.sl true 0 vag (Ad vak w.he))),(15,some (.sl false 0 va6 A)),(16,some (.sl false 0 vag [])),(17,some (.sl false 0 vai [])),(18,some (.sl false 0 vag [])),(19,some (.sl false 0 vai [])),(20,some (.sl false 0 vcx []))]
abbrev sQl (ts:List ByteArray) (l:List Act') (dn:List Int) (w:Wd) (A:List PV) (i:Nat):St:=⟨[(2,.sz vbv (Ad vcy l)),(3,.sz vag (Ad vak dn)),(8,.rf 0),(9,.rf 1),(10,.rf 2),(11,.a (.int .i64 (i:Nat)))],nQl ts w A,21⟩
theorem qjn {d:Nat} {ts:List ByteArray} {l:List Act'} {dn:List Int} {w w':Wd} (hl:l.length≤60) (hd:dn.length≤1048576) {i:Nat} {x:Act'} (hx:l[i]? =some x) {A:List PV} (hA:A.length≤60) {a:Ans} (h:bOf d ts w x (denyAt dn i) a w'):
  round (T (d+6)) vae [2,3,8,9,10,11] vez (sQl ts l dn w A i)=some (.nrm,sQl ts l dn w' (A++ [eAns a]) (i+1)):=by
 have hi:=(Ae.1 hx).1;have hw:=vaw i zo;have hlt:(i:Int)<l.length:=by omega
 unfold bOf at h;obtain ⟨xk,xa,xb,xc,xp,xq⟩:=x;obtain ⟨ob,du,sl,hds,ir,dm,wa,he⟩:=w;obtain ⟨ob',du',sl',hds',ir',dm',wa',he'⟩:=w';obtain ⟨ac,an⟩:=a;by_cases c:i<dn.length
 ·obtain ⟨v,hv⟩:∃v,dn[i]? =some v:=⟨_,Af c⟩
  have e:denyAt dn i=v:=by unfold denyAt;rw [hv];rfl
  have c':(i:Int)<dn.length:=by omega
  rw [e] at h;simp only [cWf,cAns] at h;unfold round vez sQl nQl;simp (maxSteps:=3000000) -implicitDefEqProofs (disch:=first|exact zd|fail) only [go_sem,Aa,Ab,hw,hlt,hx,c',hv,h,Ah]
  (show some _=some _;kernel_rfl)
 ·have e:denyAt dn i=0:=by unfold denyAt;rw [Ak zo];rfl
  have c':¬(i:Int)<dn.length:=by omega
  rw [e] at h;simp only [cWf,cAns] at h;unfold round vez sQl nQl;simp (maxSteps:=3000000) -implicitDefEqProofs (disch:=first|exact zd|fail) only [go_sem,Aa,Ab,hw,hlt,hx,c',h,Ah]
  (show some _=some _;kernel_rfl)
theorem qkh {d:Nat} {ts:List ByteArray} {B:Nat} {l:List Act'} (dn:List Int) {w:Wd} (I:Wok ts B w) (hT:Ty23 ts) (D:Dur ts w) (hB:B+60≤400) (hl:l.length≤60) {sv:Sv} (hs:SvR w sv):∀i,i≤l.length→Dur ts (plI ts l dn w i).2
 |0,_=>D
 |i+1,hi=>by
  obtain ⟨J,hlen⟩:=vrz (d:=d) dn I hT hB hl hs i zo;obtain ⟨x,hx⟩:∃x,l[i]? =some x:=⟨_,Af zo⟩
  rw [vsh hx];exact qx2 J hT (qkh (d:=d) dn I hT D hB hl hs i zo) x _
theorem qut {d:Nat} {ts:List ByteArray} {B:Nat} {l:List Act'} {dn:List Int} {w:Wd} (I:Wok ts B w) (hT:Ty23 ts) (hK:Two ts) (hB:B+60≤400) (hl:l.length≤60) (hd:dn.length≤1048576) (hs:SvR w .n):
  vbt (T (d+6)) vae [2,3,8,9,10,11] vez (sQl ts l dn w ((plI ts l dn w 0).1.map eAns) 0)=some (.ext 0,⟨[(2,.sz vbv (Ad vcy l)),(3,.sz vag (Ad vak dn)),(8,.rf 0),(9,.rf 1),(10,.rf 2),(11,.a (.int .i64 l.length)),(26,.a (.bool false))],nQl ts (plI ts l dn w l.length).2 ((plI ts l dn w l.length).1.map eAns),421⟩):=by
 refine vbx (m:=l.length) (fun i=>sQl ts l dn (plI ts l dn w i).2 ((plI ts l dn w i).1.map eAns) i) _ (va1 zo) (fun i hi=> ?_) ?_
 ·obtain ⟨J,hlen⟩:=vrz (d:=d) (l:=l) dn I hT hB hl hs i zo;obtain ⟨x,hx⟩:∃x,l[i]? =some x:=⟨_,Af zo⟩
  rw [vsh hx];dsimp only;rw [vgt];exact qjn hl hd hx (by rw [List.length_map,hlen];omega) (qur (d:=d) J hT hK zo x (denyAt dn i))
 ·have hlt:¬(l.length:Int)<l.length:=by omega
  generalize (plI ts l dn w l.length).2=w' at *;generalize (plI ts l dn w l.length).1.map eAns=A at *;clear I hs;obtain ⟨ob',du',sl',hds',ir',dm',wa',he'⟩:=w';unfold round vez sQl nQl;simp -implicitDefEqProofs (disch:=first|exact zd|fail) only [go_sem,Aa,Ab,hlt]
theorem qz3 {ts:List ByteArray} {g:Gr} (h:graphOk ts g=true):Two ts:=by
 unfold graphOk vku at h;simp only [Bool.and_eq_true,decide_eq_true_eq,Am] at h;have ht:=h.1;intro s hs j hj;have:=ht.2 s hs;unfold okType at this;simp only [Bool.and_eq_true,decide_eq_true_eq] at this;have h2:=Am.1 this.2;unfold kAt;obtain ⟨b,hb⟩:∃b,(ch s)[j]? =some b:=⟨_,Af (by rw [←vjv];exact hj)⟩
 rw [hb,Option.getD_some];have h3:=h2 b (Ag hb);unfold okC at h3;simp only [Bool.or_eq_true,decide_eq_true_eq] at h3;omega
theorem vwt {d:Nat} {ts:List ByteArray} {g:Gr} (h:Small ts g) (l:List Act') (dn:List Int) (hl:l.length≤1048576) (hd:dn.length≤1048576):
  vaf (T (d+9)) vae vfc [.sl true vam (ts.map eStr),cGr true g,.sl true vbv (l.map vcy),.sl true vag (dn.map vak)]=some ([wpC ts g l dn],[]):=by
 have hw:=zdo (d:=d+1) h l hl;unfold wpC;cases hi:isW ts g l with
 |false=>
  rw [hi] at hw;rw [if_neg (by simp)];rw [vab rfl];simp -implicitDefEqProofs (disch:=first|exact zd|fail) only [go_sem,Aa,Ab,vfc,vna,hw];rfl
 |true=>
  rw [hi] at hw;rw [if_pos rfl];obtain ⟨h1,h2,h3,h4⟩:=vz6 hi;have hT:=qdd h2;have hK:=qz3 h2;have I:=qhx h h2 h3 h4;have D:=zbl (Right.of h h2);have hn:=zhk (d:=d+7) (ts:=ts) (g:=g) zo zo fun o ho=>by
   obtain ⟨s,g1,_,g3,_⟩:=I.ob o ho;have:=hT.z s (Ag g1);omega
  have key:=qut (d:=d+3) (l:=l) (dn:=dn) I hT hK (by decide) h1 hd (fun h=>by cases h);obtain ⟨J,hA⟩:=vrz (d:=d) (sv:= .n) dn I hT (by decide) h1 (fun h=>by cases h) l.length (Al _);have DJ:=qkh (d:=d) (sv:= .n) dn I hT D (by decide) h1 (fun h=>by cases h) l.length (Al _);have t1:=zi3 (d:=d+5) (J.now hT) J.hd J.sl;have t2:=zdv (d:=d+5) (qlx J hT DJ);rw [qmy J DJ] at t2;generalize (plI ts l dn (w0 g) l.length).1=A at *;generalize (plI ts l dn (w0 g) l.length).2=w at *;rw [show (plI ts l dn (w0 g) 0).1.map eAns= [] from rfl] at key;clear I D J DJ hT hK h2;generalize plainG ts (nowG w)=p at *;generalize plainG ts (safeG w)=q at *;generalize w0 g=w1 at *;obtain ⟨pr,pn⟩:=p;obtain ⟨qr,qn⟩:=q;obtain ⟨ob,du,sl,hds,ir,dm,wa,he⟩:=w;obtain ⟨ob1,du1,sl1,hds1,ir1,dm1,wa1,he1⟩:=w1;dsimp only at *;unfold sQl nQl at key;simp only [cWf] at hn t1 t2;rw [vab rfl];simp (maxSteps:=3000000) -implicitDefEqProofs (disch:=first|exact zd|fail) only [go_sem,Aa,Ab,vfc,vna,hw,hn,va5 key,t1,t2]
