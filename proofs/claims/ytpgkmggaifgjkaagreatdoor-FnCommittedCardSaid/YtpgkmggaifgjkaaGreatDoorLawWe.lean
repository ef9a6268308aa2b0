/- Worlds of the program. -/
import Derived.Test.YtpgkmggaifgjkaaGreatDoorLawU
open List renaming getElem?_eq_some_iff->Aa,replicate->Ad,length_append->Ae,length_map->Af
open Nat renaming reduceAdd->Ab,reduceBEq->Ac
set_option linter.all false
namespace Go.Proofs.YtpgkmggaifgjkaaGreatDoor.VM
open Go Sy
variable {Φ:Nat->Option Callee} {N:Nat}
set_option maxRecDepth 100000
set_option maxHeartbeats 8000000
def thSv:Sv->Sv
 | .n=> .n
 | .a X=> .a (X.map PV.thaw)
 | .b X s=> .b (X.map PV.thaw) s
theorem vmb:thSv .n= .n:=rfl
theorem vmk {X:List PV}:thSv (.a X)= .a (X.map PV.thaw):=rfl
theorem vla {X:List PV} {s:List Int}:thSv (.b X s)= .b (X.map PV.thaw) s:=rfl
attribute [go_sem] vmb vmk vla
abbrev dOf (d:Nat) (ts:List ByteArray) (w:Wd) (x:Act') (sv:Sv) (n:Int) (w':Wd) (sv':Sv):Prop:=vag (T (d+3)) vad va9 [cWi false ts w sv,cAct true x]=some ([.a (.int .i64 n)],[cWi false ts w' sv'])
theorem qhx {d:Nat} (l:List Obj') (hl:l.length<=1001):vag (T d) vad vdx [.sl true vai (l.map eObj)]=some ([.a (.int .i64 l.length)],[]):=by
 rw [vab rfl];simp -implicitDefEqProofs (disch:=try exact zd) only [go_sem,Ab,Ac,vdx,vj4]
theorem zmm (l:List Obj') (n:Nat) (t:Int) (vs:List Int):(l.map eObj).set n (.st [.a (.int .i64 t),.sl vae (vs.map vak)])=(l.set n ⟨t,vs⟩).map eObj:=by rw [List.map_set];rfl
theorem qvl {l:List Int} (h:0<l.length):clrOk (l.map vak)=true:=by
 refine qnq (λe=> ?_) ?_
 ·have:=congrArg List.length e;rw [Af] at this;simp at this;subst this;exact absurd h (by simp)
 ·rw [List.all_map];exact List.all_eq_true.2 λ_ _=>rfl
attribute [go_sem] zmm
def setV (w:Wd) (m j:Nat) (v:Int):Wd:=match w.ob[m]? with|some o=>{w with ob:=w.ob.set m ⟨o.ty,o.vals.set j v⟩}|none=>w
theorem qi6 {d:Nat} {ts:List ByteArray} {w:Wd} (x:Act') (sv:Sv) (hk:x.kind=15):dOf d ts w x sv 0 w sv:=by
 unfold dOf;obtain ⟨xk,xa,xb,xc,xp,xq⟩:=x;obtain ⟨ob,du,sl,hd,ir,dm,wa,he⟩:=w;dsimp only at *;subst hk;cases sv<;>(rw [vab rfl];simp -implicitDefEqProofs (disch:=try exact zd) only [go_sem,Ab,Ac,va9,vbf,cWi])
theorem qim {d:Nat} {ts:List ByteArray} {w:Wd} (x:Act') (sv:Sv) (hk:x.kind=16):dOf d ts w x sv 0 w sv:=by
 unfold dOf;obtain ⟨xk,xa,xb,xc,xp,xq⟩:=x;obtain ⟨ob,du,sl,hd,ir,dm,wa,he⟩:=w;dsimp only at *;subst hk;cases sv<;>(rw [vab rfl];simp -implicitDefEqProofs (disch:=try exact zd) only [go_sem,Ab,Ac,va9,vbf,cWi])
theorem qhe {d:Nat} {ts:List ByteArray} {w:Wd} (x:Act') (sv:Sv) (hk:x.kind=17):dOf d ts w x sv 0 w sv:=by
 unfold dOf;obtain ⟨xk,xa,xb,xc,xp,xq⟩:=x;obtain ⟨ob,du,sl,hd,ir,dm,wa,he⟩:=w;dsimp only at *;subst hk;cases sv<;>(rw [vab rfl];simp -implicitDefEqProofs (disch:=try exact zd) only [go_sem,Ab,Ac,va9,vbf,cWi])
theorem qlx {d:Nat} {ts:List ByteArray} {w:Wd} (x:Act') (sv:Sv) (hk:x.kind=2) {n m:Nat} (hn:x.a=(n:Nat)) (hnm:w.hd[n]? =some ((m:Int)+1)) (hm1:m<1000) {t:Int} {vs:List Int} (ho:w.ob[m]? =some ⟨t,vs⟩) {j:Nat} {v:Int} (hj:x.b=(j:Nat)) (hv:vs[j]? =some v):dOf d ts w x sv v w sv:=by
 have t1:=vhj (d:=d+2) (ts:=ts) (thSv sv) hnm ho hv hm1;unfold dOf;obtain ⟨xk,xa,xb,xc,xp,xq⟩:=x;obtain ⟨ob,du,sl,hd,ir,dm,wa,he⟩:=w;dsimp only at *;subst hk hn hj;cases sv<;>(simp only [cWi,vmb,vmk,vla,vcd,vca,vb8] at t1;rw [vab rfl];simp -implicitDefEqProofs (disch:=try exact zd) only [go_sem,Ab,Ac,va9,vbf,cWi,t1])
theorem qn7 {d:Nat} {ts:List ByteArray} {w:Wd} (x:Act') (sv:Sv) (hk:x.kind=8) {n m:Nat} (hn:x.a=(n:Nat)) (hnm:w.hd[n]? =some ((m:Int)+1)) (hm1:m<1000) {t:Int} {vs:List Int} (ho:w.ob[m]? =some ⟨t,vs⟩):dOf d ts w x sv t w sv:=by
 have t1:=vk4 (d:=d+2) (ts:=ts) (thSv sv) hnm ho hm1;unfold dOf;obtain ⟨xk,xa,xb,xc,xp,xq⟩:=x;obtain ⟨ob,du,sl,hd,ir,dm,wa,he⟩:=w;dsimp only at *;subst hk hn;cases sv<;>(simp only [cWi,vmb,vmk,vla,vcd,vca,vb8] at t1;rw [vab rfl];simp -implicitDefEqProofs (disch:=try exact zd) only [go_sem,Ab,Ac,va9,vbf,cWi,t1])
theorem ql5 {d:Nat} {ts:List ByteArray} {w:Wd} (x:Act') (sv:Sv) (hk:x.kind=9) {n m:Nat} (hn:x.a=(n:Nat)) (hnm:w.hd[n]? =some ((m:Int)+1)) (hm1:m<1000) {u:Bool} (hu:w.du[m]? =some u):dOf d ts w x sv (if u then 1 else 0) w sv:=by
 have t1:=vii (d:=d+2) (ts:=ts) (thSv sv) hnm hu hm1;have t2:=vyj (d:=d+2) u;unfold dOf;obtain ⟨xk,xa,xb,xc,xp,xq⟩:=x;obtain ⟨ob,du,sl,hd,ir,dm,wa,he⟩:=w;dsimp only at *;subst hk hn;cases u
 ·skip
  cases sv<;>(simp only [cWi,vmb,vmk,vla,vcd,vca,vb8] at t1;rw [vab rfl];simp -implicitDefEqProofs (disch:=try exact zd) only [go_sem,Ab,Ac,va9,vbf,cWi,t1,t2])
 ·skip
  cases sv<;>(simp only [cWi,vmb,vmk,vla,vcd,vca,vb8] at t1;rw [vab rfl];simp -implicitDefEqProofs (disch:=try exact zd) only [go_sem,Ab,Ac,va9,vbf,cWi,t1,t2])
theorem qmz {d:Nat} {ts:List ByteArray} {w:Wd} (x:Act') (sv:Sv) (hk:x.kind=7) {n p:Nat} {y z:Int} (hn:x.a=(n:Nat)) (hp:x.b=(p:Nat)) (hy:w.hd[n]? =some y) (hz:w.hd[p]? =some z):dOf d ts w x sv (if y=z then 1 else 0) w sv:=by
 have t2:=vyj (d:=d+2) (decide (y=z));have l1:=(Aa.1 hy).1;have l2:=(Aa.1 hz).1;unfold dOf;obtain ⟨xk,xa,xb,xc,xp,xq⟩:=x;obtain ⟨ob,du,sl,hd,ir,dm,wa,he⟩:=w;dsimp only at *;subst hk hn hp;by_cases c:y=z
 ·rw [if_pos c];rw [decide_eq_true c] at t2;cases sv<;>(rw [vab rfl];simp -implicitDefEqProofs (disch:=try exact zd) only [go_sem,Ab,Ac,va9,vbf,cWi,hy,hz,c,t2])
 ·rw [if_neg c];rw [decide_eq_false c] at t2;cases sv<;>(rw [vab rfl];simp -implicitDefEqProofs (disch:=try exact zd) only [go_sem,Ab,Ac,va9,vbf,cWi,hy,hz,c,t2])
theorem qln {d:Nat} {ts:List ByteArray} {w:Wd} (x:Act') (sv:Sv) (hk:x.kind=6) {n:Nat} {y:Int} (hn:x.a=(n:Nat)) (hy:w.hd[n]? =some y):dOf d ts w x sv 0 {w with hd:=w.hd.set n 0} sv:=by
 have l1:=(Aa.1 hy).1;unfold dOf;obtain ⟨xk,xa,xb,xc,xp,xq⟩:=x;obtain ⟨ob,du,sl,hd,ir,dm,wa,he⟩:=w;dsimp only at *;subst hk hn;cases sv<;>(rw [vab rfl];simp -implicitDefEqProofs (disch:=try exact zd) only [go_sem,Ab,Ac,va9,vbf,cWi,hy])
theorem qle {d:Nat} {ts:List ByteArray} {w:Wd} (x:Act') (sv:Sv) (hk:x.kind=3) {n m:Nat} (hn:x.a=(n:Nat)) (hnm:w.hd[n]? =some ((m:Int)+1)) (hm1:m<1000) {t:Int} {vs:List Int} (ho:w.ob[m]? =some ⟨t,vs⟩) {j:Nat} {v:Int} (hj:x.b=(j:Nat)) (hv:vs[j]? =some v):dOf d ts w x sv 0 {w with ob:=w.ob.set m ⟨t,vs.set j x.c⟩} sv:=by
 have w1:IntKind.i64.wrap ((m:Int)+1-1)=(m:Nat):=by rw [vau]<;>omega
 have l1:=(Aa.1 hnm).1;have l2:=(Aa.1 ho).1;have l3:=(Aa.1 hv).1;unfold dOf;obtain ⟨xk,xa,xb,xc,xp,xq⟩:=x;obtain ⟨ob,du,sl,hd,ir,dm,wa,he⟩:=w;dsimp only at *;subst hk hn hj;rw [show (ob.set m ⟨t,vs.set j xc⟩)=ob.set m ⟨t,vs.set j xc⟩ from rfl];cases sv<;>(rw [vab rfl];simp -implicitDefEqProofs (disch:=try exact zd) only [go_sem,Ab,Ac,va9,vbf,cWi,hnm,ho,hv,w1])
theorem qm6 {d:Nat} {ts:List ByteArray} {w:Wd} (x:Act') (sv:Sv) (hk:x.kind=5) {n m:Nat} (hn:x.a=(n:Nat)) (hnm:w.hd[n]? =some ((m:Int)+1)) (hm1:m<1000) {t:Int} {vs:List Int} (ho:w.ob[m]? =some ⟨t,vs⟩) {j:Nat} {v:Int} (hj:x.b=(j:Nat)) (hv:vs[j]? =some v) (hl:w.hd.length=12) (hc:x.c<=11):dOf d ts w x sv 0 {w with ob:=w.ob.set m ⟨t,vs.set j (if x.c<0 then 0 else hAt w x.c)⟩} sv:=by
 have w1:IntKind.i64.wrap ((m:Int)+1-1)=(m:Nat):=by rw [vau]<;>omega
 have l1:=(Aa.1 hnm).1;have l2:=(Aa.1 ho).1;have l3:=(Aa.1 hv).1;have t1:=vua (d:=d+2) hl x.c hc;generalize (if x.c<0 then 0 else hAt w x.c)=r at *;unfold dOf;obtain ⟨xk,xa,xb,xc,xp,xq⟩:=x;obtain ⟨ob,du,sl,hd,ir,dm,wa,he⟩:=w;dsimp only at *;subst hk hn hj;cases sv<;>(rw [vab rfl];simp -implicitDefEqProofs (disch:=try exact zd) only [go_sem,Ab,Ac,va9,vbf,cWi,hnm,ho,hv,w1,t1])
theorem qhy {d:Nat} {ts:List ByteArray} {w:Wd} (x:Act') (sv:Sv) (hk:x.kind=4) {n m:Nat} (hn:x.a=(n:Nat)) (hnm:w.hd[n]? =some ((m:Int)+1)) (hm1:m<1000) {t:Int} {vs:List Int} (ho:w.ob[m]? =some ⟨t,vs⟩) {j:Nat} {v:Int} (hj:x.b=(j:Nat)) (hv:vs[j]? =some v) (hz:v=0):dOf d ts w x sv (-1) w sv:=by
 have t1:=vhj (d:=d+2) (ts:=ts) (thSv sv) hnm ho hv hm1;have t2:=vrf (d:=d+1) w.hd;unfold dOf;obtain ⟨xk,xa,xb,xc,xp,xq⟩:=x;obtain ⟨ob,du,sl,hd,ir,dm,wa,he⟩:=w;dsimp only at *;subst hk hn hj hz;cases sv<;>(simp only [cWi,vmb,vmk,vla,vcd,vca,vb8] at t1;rw [vab rfl];simp -implicitDefEqProofs (disch:=try exact zd) only [go_sem,Ab,Ac,va9,vbf,cWi,t1,t2])
theorem ql9 {d:Nat} {ts:List ByteArray} {w:Wd} (x:Act') (sv:Sv) (hk:x.kind=4) {n m:Nat} (hn:x.a=(n:Nat)) (hnm:w.hd[n]? =some ((m:Int)+1)) (hm1:m<1000) {t:Int} {vs:List Int} (ho:w.ob[m]? =some ⟨t,vs⟩) {j:Nat} {v:Int} (hj:x.b=(j:Nat)) (hv:vs[j]? =some v) (hl:w.hd.length=12) (hz:v≠0) (hf:¬plc0 w.hd<0):dOf d ts w x sv (plc0 w.hd) {w with hd:=w.hd.set (plc0 w.hd).toNat v} sv:=by
 have t1:=vhj (d:=d+2) (ts:=ts) (thSv sv) hnm ho hv hm1;have t2:=vnv (d:=d+1) w.hd hl v hz hf;generalize plc0 w.hd=p at *;unfold dOf;obtain ⟨xk,xa,xb,xc,xp,xq⟩:=x;obtain ⟨ob,du,sl,hd,ir,dm,wa,he⟩:=w;dsimp only at *;subst hk hn hj;cases sv<;>(simp only [cWi,vmb,vmk,vla,vcd,vca,vb8] at t1;rw [vab rfl];simp -implicitDefEqProofs (disch:=try exact zd) only [go_sem,Ab,Ac,va9,vbf,cWi,t1,t2])
theorem qmn {d:Nat} {ts:List ByteArray} {w:Wd} (x:Act') (sv:Sv) (hk:x.kind=1) {n:Nat} {s:ByteArray} (hn:x.a=(n:Nat)) (hs:ts[n]? =some s) (hss:s.size<=23) (hl:w.hd.length=12) (hf:¬plc0 w.hd<0) (hb:w.ob.length<=999) (hdu:w.du.length=w.ob.length):dOf d ts w x sv (plc0 w.hd) {w with ob:=w.ob++ [⟨n,Ad s.size 0⟩],du:=w.du++ [false],hd:=w.hd.set (plc0 w.hd).toNat ((w.ob.length+1:Nat):Int)} sv:=by
 have t1:=qhx (d:=d+2) (w.ob++ [⟨n,Ad s.size 0⟩]) (by rw [Ae];simp;omega);have t2:=vnv (d:=d+1) w.hd hl ((w.ob.length+1:Nat):Int) zo hf;have l1:=(Aa.1 hs).1;have e1:((w.ob++ [(⟨n,Ad s.size 0⟩:Obj')]).length:Int)=((w.ob.length+1:Nat):Int):=by rw [Ae];simp
 rw [e1] at t1;generalize plc0 w.hd=p at *;have hlo:(w.ob.map eObj).length<=999:=by simpa using hb
 have hld:(w.du.map eBl).length<=999:=by rw [Af];omega
 have ez:(Ad s.size (0:Int)).map vak=Ad s.size (.a (.int .i64 0)):=List.map_replicate;have em:(w.ob++ [(⟨n,Ad s.size 0⟩:Obj')]).map eObj=w.ob.map eObj++ [.st [.a (.int .i64 n),.sl vae (Ad s.size (.a (.int .i64 0)))]]:=by rw [vb5,vkc,ez]
 have ed:(w.du++ [false]).map eBl=w.du.map eBl++ [.a (.bool false)]:=vb5 _ _ _;rw [em] at t1;unfold dOf;rw [show cWi false ts {w with ob:=w.ob++ [⟨n,Ad s.size 0⟩],du:=w.du++ [false],hd:=w.hd.set p.toNat ((w.ob.length+1:Nat):Int)} sv= .bx false [.sl true vam (ts.map eStr),.sl false vai (w.ob.map eObj++ [.st [.a (.int .i64 n),.sl vae (Ad s.size (.a (.int .i64 0)))]]),.sl false vb3 (w.du.map eBl++ [.a (.bool false)]),.sl false vae ((w.hd.set p.toNat ((w.ob.length+1:Nat):Int)).map vak),.sl false vae (w.sl.map vak),.a (.bool w.inR),.a (.bool w.dm),cSv false sv] by rw [<-em,<-ed]];clear em ed e1 ez;obtain ⟨xk,xa,xb,xc,xp,xq⟩:=x;obtain ⟨ob,du,sl,hd,ir,dm,wa,he⟩:=w;dsimp only at *;subst hk hn;cases sv<;>(rw [vab rfl];simp -implicitDefEqProofs (disch:=try exact zd) only [go_sem,Ab,Ac,va9,vbf,cWi,hs,t1,t2,List.nil_append])
theorem qg4 {d:Nat} {ts:List ByteArray} {w:Wd} (x:Act') (sv:Sv) (hk:x.kind=10) (hb:w.ob.length<=1000) (hv:∀o∈w.ob,o.vals.length<=23) (hs:w.sl.length=8):dOf d ts w x sv 0 {w with inR:=true,wa:=w.ob,he:=w.sl} (.b (w.ob.map eObj) w.sl):=by
 have t1:=qka (d:=d+1) (ts:=ts) (w:={w with inR:=true}) hb hv hs sv;unfold dOf;obtain ⟨xk,xa,xb,xc,xp,xq⟩:=x;obtain ⟨ob,du,sl,hd,ir,dm,wa,he⟩:=w;dsimp only at *;subst hk;cases sv<;>(simp only [cWi,vmb,vmk,vla,vcd,vca,vb8] at t1;rw [vab rfl];simp -implicitDefEqProofs (disch:=try exact zd) only [go_sem,Ab,Ac,va9,vbf,cWi,t1])
theorem qjc {d:Nat} {ts:List ByteArray} {w:Wd} (x:Act') (sv:Sv) (hk:x.kind=11) {n:Nat} {y:Int} (hn:x.a=(n:Nat)) (hy:w.sl[n]? =some y) (hl:w.hd.length=12) (hc:x.b<=11):dOf d ts w x sv 0 {w with sl:=w.sl.set n (if x.b<0 then 0 else hAt w x.b)} sv:=by
 have l1:=(Aa.1 hy).1;have t1:=vua (d:=d+2) hl x.b hc;generalize (if x.b<0 then 0 else hAt w x.b)=r at *;unfold dOf;obtain ⟨xk,xa,xb,xc,xp,xq⟩:=x;obtain ⟨ob,du,sl,hd,ir,dm,wa,he⟩:=w;dsimp only at *;subst hk hn;cases sv<;>(rw [vab rfl];simp -implicitDefEqProofs (disch:=try exact zd) only [go_sem,Ab,Ac,va9,vbf,cWi,hy,t1])
theorem qge {d:Nat} {ts:List ByteArray} {w:Wd} (x:Act') (sv:Sv) (hk:x.kind=12) {n:Nat} (hn:x.a=(n:Nat)) (hy:w.sl[n]? =some 0):dOf d ts w x sv (-1) w sv:=by
 have l1:=(Aa.1 hy).1;have t2:=vrf (d:=d+1) w.hd;unfold dOf;obtain ⟨xk,xa,xb,xc,xp,xq⟩:=x;obtain ⟨ob,du,sl,hd,ir,dm,wa,he⟩:=w;dsimp only at *;subst hk hn;cases sv<;>(rw [vab rfl];simp -implicitDefEqProofs (disch:=try exact zd) only [go_sem,Ab,Ac,va9,vbf,cWi,hy,t2])
theorem qh2 {d:Nat} {ts:List ByteArray} {w:Wd} (x:Act') (sv:Sv) (hk:x.kind=12) {n:Nat} {v:Int} (hn:x.a=(n:Nat)) (hy:w.sl[n]? =some v) (hl:w.hd.length=12) (hz:v≠0) (hf:¬plc0 w.hd<0):dOf d ts w x sv (plc0 w.hd) {w with hd:=w.hd.set (plc0 w.hd).toNat v} sv:=by
 have l1:=(Aa.1 hy).1;have t2:=vnv (d:=d+1) w.hd hl v hz hf;generalize plc0 w.hd=p at *;unfold dOf;obtain ⟨xk,xa,xb,xc,xp,xq⟩:=x;obtain ⟨ob,du,sl,hd,ir,dm,wa,he⟩:=w;dsimp only at *;subst hk hn;cases sv<;>(rw [vab rfl];simp -implicitDefEqProofs (disch:=try exact zd) only [go_sem,Ab,Ac,va9,vbf,cWi,hy,t2])
theorem qhw {d:Nat} {ts:List ByteArray} {w:Wd} (x:Act') (hk:x.kind=13) (hb:w.du.length<=1000) (hdu:w.du.length=w.ob.length) (hs:w.sl.length=8) (R:Right ts (gCm w)):dOf d ts w x (.b (w.wa.map eObj) w.he) 0 {w with du:=comD ts w,inR:=false} (.b (w.wa.map eObj) w.he):=by
 have t1:=qe2 (d:=d) hb hdu hs R;unfold dOf;generalize comD ts w=D at *;obtain ⟨xk,xa,xb,xc,xp,xq⟩:=x;obtain ⟨ob,du,sl,hd,ir,dm,wa,he⟩:=w;dsimp only at *;subst hk;simp only [cWi,vb8] at t1;rw [vab rfl];simp -implicitDefEqProofs (disch:=try exact zd) only [go_sem,Ab,Ac,va9,vbf,cWi,t1]
theorem qh6 {d:Nat} {ts:List ByteArray} {w:Wd} (x:Act') (hk:x.kind=14) (hb:w.ob.length<=1000) (hdu:w.du.length=w.ob.length) (hwal:w.wa.length<=w.ob.length) (hi:w.inR=true):∃X:List PV,dOf d ts w x (.b (w.wa.map eObj) w.he) 0 ⟨backO w,w.du,w.he,w.hd,false,false,[],[]⟩ (.a X):=by
 obtain ⟨X,t1⟩:=vyi (d:=d) (ts:=ts) hb hdu hwal hi;refine ⟨X,?_⟩;unfold dOf;generalize backO w=O at *;obtain ⟨xk,xa,xb,xc,xp,xq⟩:=x;obtain ⟨ob,du,sl,hd,ir,dm,wa,he⟩:=w;dsimp only at *;subst hk hi;simp only [cWi,vca,vb8] at t1;rw [vab rfl];simp -implicitDefEqProofs (disch:=try exact zd) only [go_sem,Ab,Ac,va9,vbf,cWi,t1]
theorem qh4 {d:Nat} {ts:List ByteArray} {w:Wd} (x:Act') (hk:x.kind=18) (hl:w.hd.length=12) (hb:w.ob.length<=1000) (hdu:w.du.length=w.ob.length) (hwal:w.wa.length<=w.ob.length) (hi:w.inR=true):∃X:List PV,dOf d ts w x (.b (w.wa.map eObj) w.he) 0 ⟨backO w,w.du,w.he,Ad 12 0,false,false,[],[]⟩ (.a X):=by
 obtain ⟨X,t1⟩:=vyi (d:=d) (ts:=ts) hb hdu hwal hi;refine ⟨X,?_⟩;unfold dOf;generalize backO w=O at *;have hc:clrOk (w.hd.map vak)=true:=qvl zo;have hl2:(w.hd.map vak).length=12:=by simpa using hl
 obtain ⟨xk,xa,xb,xc,xp,xq⟩:=x;obtain ⟨ob,du,sl,hd,ir,dm,wa,he⟩:=w;dsimp only at *;subst hk hi;simp only [cWi,vca,vb8] at t1;rw [vab rfl];simp -implicitDefEqProofs (disch:=try exact zd) only [go_sem,Ab,Ac,va9,vbf,cWi,t1,hl2,hc]
theorem qf2 {d:Nat} {ts:List ByteArray} {w:Wd} (x:Act') (sv:Sv) (hk:x.kind=18) (hl:w.hd.length=12) (hi:w.inR=false):dOf d ts w x sv 0 {w with hd:=Ad 12 0,inR:=false,dm:=false} sv:=by
 have t1:=qfi (d:=d) (ts:=ts) sv hi;unfold dOf;have hc:clrOk (w.hd.map vak)=true:=qvl zo;have hl2:(w.hd.map vak).length=12:=by simpa using hl
 obtain ⟨xk,xa,xb,xc,xp,xq⟩:=x;obtain ⟨ob,du,sl,hd,ir,dm,wa,he⟩:=w;dsimp only at *;subst hk hi;cases sv<;>(simp only [cWi,vmb,vmk,vla,vcd,vca,vb8] at t1;rw [vab rfl];simp -implicitDefEqProofs (disch:=try exact zd) only [go_sem,Ab,Ac,va9,vbf,cWi,t1,hl2,hc])
