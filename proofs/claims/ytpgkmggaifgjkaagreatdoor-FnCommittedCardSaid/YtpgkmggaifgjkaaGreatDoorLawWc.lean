/- Worlds of the program. -/
import Derived.Test.YtpgkmggaifgjkaaGreatDoorLawWf
open Nat renaming reduceAdd->Aa,reduceBEq->Ab
open Int renaming reduceEq->Ac,reduceLE->Ad
set_option linter.all false
namespace Go.Proofs.YtpgkmggaifgjkaaGreatDoor.VM
open Go Sy
variable {Φ:Nat->Option Callee} {N:Nat}
set_option maxRecDepth 100000
set_option maxHeartbeats 8000000
abbrev cOf (d:Nat) (ts:List ByteArray) (w:Wd) (x:Act') (sv:Sv) (c:Int):Prop:=vag (T (d+4)) vad vas [cSit ts w,.ic vc8 (cWi true ts w sv),cAct true x]=some ([.a (.int .i64 c)],[])
theorem qko {d:Nat} (ts:List ByteArray) (hl:ts.length<=1000):vag (T d) vad veh [.sl true vam (ts.map eStr)]=some ([.a (.int .i64 ts.length)],[]):=by
 rw [vab rfl];simp -implicitDefEqProofs (disch:=try exact zd) only [go_sem,Aa,Ab,veh,vko]
theorem qaw {d:Nat} {ts:List ByteArray} {w:Wd} (x:Act') (sv:Sv) (hdm:w.dm=true) (hk:¬(14<=x.kind/\x.kind<=18)):cOf d ts w x sv 7:=by
 have hA:=vij (d:=d+3) x.kind;rw [decide_eq_false hk] at hA;unfold cOf;obtain ⟨xk,xa,xb,xc,xp,xq⟩:=x;obtain ⟨ob,du,sl,hd,ir,dm,wa,he⟩:=w;dsimp only at *;subst hdm;cases sv<;>(rw [vab rfl];simp -implicitDefEqProofs (disch:=try exact zd) only [go_sem,Aa,Ab,vas,vat,hA])
theorem qbx {d:Nat} {ts:List ByteArray} {B:Nat} {w:Wd} (I:Wok ts B w) (hT:Ty23 ts) (x:Act') (sv:Sv) (hdm:w.dm=false) (hk:x.kind=1):cOf d ts w x sv (if ¬(0<=x.a/\x.a<=(ts.length:Int)-1) then 3 else if plc0 w.hd<0 then 9 else 0):=by
 have t1:=qko (d:=d+3) ts (by have:=hT.n1;omega);have t2:=vha (Φ:=T (d+3)) (N:=vad) (a:=x.a) (b:=0) (c:=(ts.length:Int)-1);have t3:=vjt (d:=d+1) (ts:=ts) I.hd;have hn1:=hT.n1;have w1:IntKind.i64.wrap ((ts.length:Int)-1)=(ts.length:Int)-1:=by rw [vau]<;>omega
 clear I hT;unfold cOf;obtain ⟨xk,xa,xb,xc,xp,xq⟩:=x;obtain ⟨ob,du,sl,hd,ir,dm,wa,he⟩:=w;dsimp only at *;subst hk hdm;by_cases c1:0<=xa/\xa<=(ts.length:Int)-1
 ·rw [decide_eq_true c1] at t2;rw [if_neg (λh=>h c1)];by_cases c2:plc0 hd<0
  ·rw [decide_eq_true c2] at t3;rw [if_pos c2];cases sv<;>(rw [vab rfl];simp -implicitDefEqProofs (disch:=try exact zd) only [go_sem,Aa,Ab,vas,vat,t1,t2,t3,w1])
  ·rw [decide_eq_false c2] at t3;rw [if_neg c2];cases sv<;>(rw [vab rfl];simp -implicitDefEqProofs (disch:=try exact zd) only [go_sem,Aa,Ab,vas,vat,t1,t2,t3,w1])
 ·rw [decide_eq_false c1] at t2;rw [if_pos c1];cases sv<;>(rw [vab rfl];simp -implicitDefEqProofs (disch:=try exact zd) only [go_sem,Aa,Ab,vas,vat,t1,t2,t3,w1])
theorem qck {d:Nat} {ts:List ByteArray} {B:Nat} {w:Wd} (I:Wok ts B w) (hT:Ty23 ts) (x:Act') (sv:Sv) (hdm:w.dm=false) (hk:x.kind=2):cOf d ts w x sv (fldW ts w x):=by
 have t1:=vlh (d:=d) I hT x sv zo;clear I hT;unfold cOf;generalize fldW ts w x=c at *;obtain ⟨xk,xa,xb,xc,xp,xq⟩:=x;obtain ⟨ob,du,sl,hd,ir,dm,wa,he⟩:=w;dsimp only at *;subst hk hdm;cases sv<;>(simp only [cWi,vcd,vca,vb8] at t1;rw [vab rfl];simp -implicitDefEqProofs (disch:=try exact zd) only [go_sem,Aa,Ab,vas,vat,t1])
theorem qao {d:Nat} {ts:List ByteArray} {B:Nat} {w:Wd} (I:Wok ts B w) (hT:Ty23 ts) (x:Act') (sv:Sv) (hdm:w.dm=false) (hk:x.kind=3):cOf d ts w x sv (fldW ts w x):=by
 have t1:=vlh (d:=d) I hT x sv zo;clear I hT;unfold cOf;generalize fldW ts w x=c at *;obtain ⟨xk,xa,xb,xc,xp,xq⟩:=x;obtain ⟨ob,du,sl,hd,ir,dm,wa,he⟩:=w;dsimp only at *;subst hk hdm;cases sv<;>(simp only [cWi,vcd,vca,vb8] at t1;rw [vab rfl];simp -implicitDefEqProofs (disch:=try exact zd) only [go_sem,Aa,Ab,vas,vat,t1])
theorem qcm {d:Nat} {ts:List ByteArray} {B:Nat} {w:Wd} (I:Wok ts B w) (hT:Ty23 ts) (x:Act') (sv:Sv) (hdm:w.dm=false) (hk:x.kind=4):cOf d ts w x sv (fldW ts w x):=by
 have t1:=vlh (d:=d) I hT x sv zo;clear I hT;unfold cOf;generalize fldW ts w x=c at *;obtain ⟨xk,xa,xb,xc,xp,xq⟩:=x;obtain ⟨ob,du,sl,hd,ir,dm,wa,he⟩:=w;dsimp only at *;subst hk hdm;cases sv<;>(simp only [cWi,vcd,vca,vb8] at t1;rw [vab rfl];simp -implicitDefEqProofs (disch:=try exact zd) only [go_sem,Aa,Ab,vas,vat,t1])
theorem qb9 {d:Nat} {ts:List ByteArray} {B:Nat} {w:Wd} (I:Wok ts B w) (hT:Ty23 ts) (x:Act') (sv:Sv) (hdm:w.dm=false) (hk:x.kind=5):cOf d ts w x sv (fldW ts w x):=by
 have t1:=vlh (d:=d) I hT x sv zo;clear I hT;unfold cOf;generalize fldW ts w x=c at *;obtain ⟨xk,xa,xb,xc,xp,xq⟩:=x;obtain ⟨ob,du,sl,hd,ir,dm,wa,he⟩:=w;dsimp only at *;subst hk hdm;cases sv<;>(simp only [cWi,vcd,vca,vb8] at t1;rw [vab rfl];simp -implicitDefEqProofs (disch:=try exact zd) only [go_sem,Aa,Ab,vas,vat,t1])
theorem qau {d:Nat} {ts:List ByteArray} {B:Nat} {w:Wd} (I:Wok ts B w) (hT:Ty23 ts) (x:Act') (sv:Sv) (hdm:w.dm=false) (hk:x.kind=6):cOf d ts w x sv (if usedW w x.a then 0 else 2):=by
 have t1:=vc6 (d:=d+2) I.hd x.a;clear I hT;unfold cOf;generalize usedW w x.a=c at *;obtain ⟨xk,xa,xb,xc,xp,xq⟩:=x;obtain ⟨ob,du,sl,hd,ir,dm,wa,he⟩:=w;dsimp only at *;subst hk hdm;cases c
 ·rw [if_neg (by simp)];cases sv<;>(rw [vab rfl];simp -implicitDefEqProofs (disch:=try exact zd) only [go_sem,Aa,Ab,vas,vat,t1])
 ·rw [if_pos rfl];cases sv<;>(rw [vab rfl];simp -implicitDefEqProofs (disch:=try exact zd) only [go_sem,Aa,Ab,vas,vat,t1])
theorem qa2 {d:Nat} {ts:List ByteArray} {B:Nat} {w:Wd} (I:Wok ts B w) (hT:Ty23 ts) (x:Act') (sv:Sv) (hdm:w.dm=false) (hk:x.kind=8):cOf d ts w x sv (if usedW w x.a then 0 else 2):=by
 have t1:=vc6 (d:=d+2) I.hd x.a;clear I hT;unfold cOf;generalize usedW w x.a=c at *;obtain ⟨xk,xa,xb,xc,xp,xq⟩:=x;obtain ⟨ob,du,sl,hd,ir,dm,wa,he⟩:=w;dsimp only at *;subst hk hdm;cases c
 ·rw [if_neg (by simp)];cases sv<;>(rw [vab rfl];simp -implicitDefEqProofs (disch:=try exact zd) only [go_sem,Aa,Ab,vas,vat,t1])
 ·rw [if_pos rfl];cases sv<;>(rw [vab rfl];simp -implicitDefEqProofs (disch:=try exact zd) only [go_sem,Aa,Ab,vas,vat,t1])
theorem qa3 {d:Nat} {ts:List ByteArray} {B:Nat} {w:Wd} (I:Wok ts B w) (hT:Ty23 ts) (x:Act') (sv:Sv) (hdm:w.dm=false) (hk:x.kind=9):cOf d ts w x sv (if usedW w x.a then 0 else 2):=by
 have t1:=vc6 (d:=d+2) I.hd x.a;clear I hT;unfold cOf;generalize usedW w x.a=c at *;obtain ⟨xk,xa,xb,xc,xp,xq⟩:=x;obtain ⟨ob,du,sl,hd,ir,dm,wa,he⟩:=w;dsimp only at *;subst hk hdm;cases c
 ·rw [if_neg (by simp)];cases sv<;>(rw [vab rfl];simp -implicitDefEqProofs (disch:=try exact zd) only [go_sem,Aa,Ab,vas,vat,t1])
 ·rw [if_pos rfl];cases sv<;>(rw [vab rfl];simp -implicitDefEqProofs (disch:=try exact zd) only [go_sem,Aa,Ab,vas,vat,t1])
theorem qbw {d:Nat} {ts:List ByteArray} {B:Nat} {w:Wd} (I:Wok ts B w) (hT:Ty23 ts) (x:Act') (sv:Sv) (hdm:w.dm=false) (hk:x.kind=7):cOf d ts w x sv (if usedW w x.a&&usedW w x.b then 0 else 2):=by
 have t1:=vc6 (d:=d+2) I.hd x.a;have t2:=vc6 (d:=d+2) I.hd x.b;clear I hT;unfold cOf;by_cases hab:x.a=x.b
 ·rw [<-hab] at t2⊢;rw [Bool.and_self];generalize usedW w x.a=c at *;obtain ⟨xk,xa,xb,xc,xp,xq⟩:=x;obtain ⟨ob,du,sl,hd,ir,dm,wa,he⟩:=w;dsimp only at *;subst hk hdm hab;cases c
  ·rw [if_neg (by simp)];cases sv<;>(rw [vab rfl];simp -implicitDefEqProofs (disch:=try exact zd) only [go_sem,Aa,Ab,vas,vat,t1])
  ·rw [if_pos rfl];cases sv<;>(rw [vab rfl];simp -implicitDefEqProofs (disch:=try exact zd) only [go_sem,Aa,Ab,vas,vat,t1])
 ·generalize usedW w x.a=c at *;generalize usedW w x.b=e at *;obtain ⟨xk,xa,xb,xc,xp,xq⟩:=x;obtain ⟨ob,du,sl,hd,ir,dm,wa,he⟩:=w;dsimp only at *;subst hk hdm;cases c
  ·rw [if_neg (by simp)];cases sv<;>(rw [vab rfl];simp -implicitDefEqProofs (disch:=try exact zd) only [go_sem,Aa,Ab,vas,vat,t1])
  ·cases e
   ·rw [if_neg (by simp)];cases sv<;>(rw [vab rfl];simp -implicitDefEqProofs (disch:=try exact zd) only [go_sem,Aa,Ab,vas,vat,t1,t2])
   ·rw [if_pos (show (true&&true)=true from rfl)];cases sv<;>(rw [vab rfl];simp -implicitDefEqProofs (disch:=try exact zd) only [go_sem,Aa,Ab,vas,vat,t1,t2])
theorem vzy {d:Nat} {ts:List ByteArray} {B:Nat} {w:Wd} (I:Wok ts B w) (hT:Ty23 ts) (x:Act') (sv:Sv) (hdm:w.dm=false) (hk:x.kind=10):cOf d ts w x sv (if w.inR then 6 else 0):=by
 clear I hT;unfold cOf;obtain ⟨xk,xa,xb,xc,xp,xq⟩:=x;obtain ⟨ob,du,sl,hd,ir,dm,wa,he⟩:=w;dsimp only at *;subst hk hdm;cases ir
 ·rw [if_neg (by simp)];cases sv<;>(rw [vab rfl];simp -implicitDefEqProofs (disch:=try exact zd) only [go_sem,Aa,Ab,vas,vat])
 ·rw [if_pos rfl];cases sv<;>(rw [vab rfl];simp -implicitDefEqProofs (disch:=try exact zd) only [go_sem,Aa,Ab,vas,vat])
theorem vzm {d:Nat} {ts:List ByteArray} {B:Nat} {w:Wd} (I:Wok ts B w) (hT:Ty23 ts) (x:Act') (sv:Sv) (hdm:w.dm=false) (hk:x.kind=11):cOf d ts w x sv (if ¬(0<=x.a/\x.a<=7) then 8 else if x.b≠-1/\usedW w x.b=false then 2 else if w.inR then 0 else 6):=by
 have t1:=vha (Φ:=T (d+3)) (N:=vad) (a:=x.a) (b:=0) (c:=7);have t2:=vc6 (d:=d+2) I.hd x.b;clear I hT;unfold cOf;by_cases c1:0<=x.a/\x.a<=7
 case neg=>
  rw [decide_eq_false c1] at t1;rw [if_pos c1];obtain ⟨xk,xa,xb,xc,xp,xq⟩:=x;obtain ⟨ob,du,sl,hd,ir,dm,wa,he⟩:=w;dsimp only at *;subst hk hdm;cases sv<;>(rw [vab rfl];simp -implicitDefEqProofs (disch:=try exact zd) only [go_sem,Aa,Ab,vas,vat,t1])
 rw [decide_eq_true c1] at t1;rw [if_neg (λh=>h c1)];by_cases c2:x.b= -1
 ·rw [if_neg (λh=>h.1 c2)];obtain ⟨xk,xa,xb,xc,xp,xq⟩:=x;obtain ⟨ob,du,sl,hd,ir,dm,wa,he⟩:=w;dsimp only at *;subst hk hdm;cases ir
  ·rw [if_neg (by simp)];cases sv<;>(rw [vab rfl];simp -implicitDefEqProofs (disch:=try exact zd) only [go_sem,Aa,Ab,vas,vat,t1,c2])
  ·rw [if_pos rfl];cases sv<;>(rw [vab rfl];simp -implicitDefEqProofs (disch:=try exact zd) only [go_sem,Aa,Ab,vas,vat,t1,c2])
 ·generalize usedW w x.b=e at *;obtain ⟨xk,xa,xb,xc,xp,xq⟩:=x;obtain ⟨ob,du,sl,hd,ir,dm,wa,he⟩:=w;dsimp only at *;subst hk hdm;cases e
  ·rw [if_pos ⟨c2,rfl⟩];cases sv<;>(rw [vab rfl];simp -implicitDefEqProofs (disch:=try exact zd) only [go_sem,Aa,Ab,vas,vat,t1,c2,t2])
  ·rw [if_neg (by simp)];cases ir
   ·rw [if_neg (by simp)];cases sv<;>(rw [vab rfl];simp -implicitDefEqProofs (disch:=try exact zd) only [go_sem,Aa,Ab,vas,vat,t1,c2,t2])
   ·rw [if_pos rfl];cases sv<;>(rw [vab rfl];simp -implicitDefEqProofs (disch:=try exact zd) only [go_sem,Aa,Ab,vas,vat,t1,c2,t2])
theorem vzk {d:Nat} {ts:List ByteArray} {B:Nat} {w:Wd} (I:Wok ts B w) (hT:Ty23 ts) (x:Act') (sv:Sv) (hdm:w.dm=false) (hk:x.kind=12):cOf d ts w x sv (if ¬(0<=x.a/\x.a<=7) then 8 else if w.sl[x.a.toNat]?.getD 0≠0/\plc0 w.hd<0 then 9 else 0):=by
 have t1:=vha (Φ:=T (d+3)) (N:=vad) (a:=x.a) (b:=0) (c:=7);have t3:=vjt (d:=d+1) (ts:=ts) I.hd;by_cases c1:0<=x.a/\x.a<=7
 case neg=>
  rw [decide_eq_false c1] at t1;rw [if_pos c1];clear I hT;unfold cOf;obtain ⟨xk,xa,xb,xc,xp,xq⟩:=x;obtain ⟨ob,du,sl,hd,ir,dm,wa,he⟩:=w;dsimp only at *;subst hk hdm;cases sv<;>(rw [vab rfl];simp -implicitDefEqProofs (disch:=try exact zd) only [go_sem,Aa,Ab,vas,vat,t1])
 rw [decide_eq_true c1] at t1;rw [if_neg (λh=>h c1)];obtain ⟨n,hn⟩:∃n:Nat,x.a=n:=⟨x.a.toNat,zo⟩
 have hs:=I.sl;obtain ⟨v,hv⟩:∃v,w.sl[n]? =some v:=⟨_,List.getElem?_eq_getElem zo⟩
 have t2:=qe0 (d:=d+3) (ts:=ts) sv hv;clear I hT;unfold cOf;rw [hn,Int.toNat_natCast,hv,Option.getD_some];rw [hn] at t1;obtain ⟨xk,xa,xb,xc,xp,xq⟩:=x;obtain ⟨ob,du,sl,hd,ir,dm,wa,he⟩:=w;dsimp only at *;subst hk hdm hn;by_cases c3:v=0
 ·rw [if_neg (λh=>h.1 c3)];cases sv<;>(simp only [cWi,vcd,vca,vb8] at t2;rw [vab rfl];simp -implicitDefEqProofs (disch:=try exact zd) only [go_sem,Aa,Ab,vas,vat,t1,t2,c3])
 ·by_cases c4:plc0 hd<0
  ·rw [decide_eq_true c4] at t3;rw [if_pos ⟨c3,c4⟩];cases sv<;>(simp only [cWi,vcd,vca,vb8] at t2;rw [vab rfl];simp -implicitDefEqProofs (disch:=try exact zd) only [go_sem,Aa,Ab,vas,vat,t1,t2,t3,c3])
  ·rw [decide_eq_false c4] at t3;rw [if_neg (λh=>c4 h.2)];cases sv<;>(simp only [cWi,vcd,vca,vb8] at t2;rw [vab rfl];simp -implicitDefEqProofs (disch:=try exact zd) only [go_sem,Aa,Ab,vas,vat,t1,t2,t3,c3])
theorem vzj {d:Nat} {ts:List ByteArray} {B:Nat} {w:Wd} (I:Wok ts B w) (hT:Ty23 ts) (x:Act') (sv:Sv) (hdm:w.dm=false) (hk:x.kind=13):cOf d ts w x sv (if w.inR then 0 else 6):=by
 clear I hT;unfold cOf;obtain ⟨xk,xa,xb,xc,xp,xq⟩:=x;obtain ⟨ob,du,sl,hd,ir,dm,wa,he⟩:=w;dsimp only at *;subst hk hdm;cases ir
 ·rw [if_neg (by simp)];cases sv<;>(rw [vab rfl];simp -implicitDefEqProofs (disch:=try exact zd) only [go_sem,Aa,Ab,vas,vat])
 ·rw [if_pos rfl];cases sv<;>(rw [vab rfl];simp -implicitDefEqProofs (disch:=try exact zd) only [go_sem,Aa,Ab,vas,vat])
theorem vzt {d:Nat} {ts:List ByteArray} {B:Nat} {w:Wd} (I:Wok ts B w) (hT:Ty23 ts) (x:Act') (sv:Sv) (hk:x.kind=14):cOf d ts w x sv (if w.inR then 0 else 6):=by
 have hA:=vij (d:=d+3) x.kind;rw [decide_eq_true zo] at hA;clear I hT;unfold cOf;obtain ⟨xk,xa,xb,xc,xp,xq⟩:=x;obtain ⟨ob,du,sl,hd,ir,dm,wa,he⟩:=w;dsimp only at *;subst hk;cases ir
 ·rw [if_neg (by simp)];cases dm
  ·skip
   cases sv<;>(rw [vab rfl];simp -implicitDefEqProofs (disch:=try exact zd) only [go_sem,Aa,Ab,vas,vat,hA])
  ·skip
   cases sv<;>(rw [vab rfl];simp -implicitDefEqProofs (disch:=try exact zd) only [go_sem,Aa,Ab,vas,vat,hA])
 ·rw [if_pos rfl];cases dm
  ·skip
   cases sv<;>(rw [vab rfl];simp -implicitDefEqProofs (disch:=try exact zd) only [go_sem,Aa,Ab,vas,vat,hA])
  ·skip
   cases sv<;>(rw [vab rfl];simp -implicitDefEqProofs (disch:=try exact zd) only [go_sem,Aa,Ab,vas,vat,hA])
theorem vzq {d:Nat} {ts:List ByteArray} {B:Nat} {w:Wd} (I:Wok ts B w) (hT:Ty23 ts) (x:Act') (sv:Sv) (hk:x.kind=15):cOf d ts w x sv (0):=by
 have hA:=vij (d:=d+3) x.kind;rw [decide_eq_true zo] at hA;clear I hT;unfold cOf;obtain ⟨xk,xa,xb,xc,xp,xq⟩:=x;obtain ⟨ob,du,sl,hd,ir,dm,wa,he⟩:=w;dsimp only at *;subst hk;cases dm
 ·skip
  cases sv<;>(rw [vab rfl];simp -implicitDefEqProofs (disch:=try exact zd) only [go_sem,Aa,Ab,vas,vat,hA])
 ·skip
  cases sv<;>(rw [vab rfl];simp -implicitDefEqProofs (disch:=try exact zd) only [go_sem,Aa,Ab,vas,vat,hA])
theorem vzu {d:Nat} {ts:List ByteArray} {B:Nat} {w:Wd} (I:Wok ts B w) (hT:Ty23 ts) (x:Act') (sv:Sv) (hk:x.kind=16):cOf d ts w x sv (0):=by
 have hA:=vij (d:=d+3) x.kind;rw [decide_eq_true zo] at hA;clear I hT;unfold cOf;obtain ⟨xk,xa,xb,xc,xp,xq⟩:=x;obtain ⟨ob,du,sl,hd,ir,dm,wa,he⟩:=w;dsimp only at *;subst hk;cases dm
 ·skip
  cases sv<;>(rw [vab rfl];simp -implicitDefEqProofs (disch:=try exact zd) only [go_sem,Aa,Ab,vas,vat,hA])
 ·skip
  cases sv<;>(rw [vab rfl];simp -implicitDefEqProofs (disch:=try exact zd) only [go_sem,Aa,Ab,vas,vat,hA])
theorem vzi {d:Nat} {ts:List ByteArray} {B:Nat} {w:Wd} (I:Wok ts B w) (hT:Ty23 ts) (x:Act') (sv:Sv) (hk:x.kind=17):cOf d ts w x sv (0):=by
 have hA:=vij (d:=d+3) x.kind;rw [decide_eq_true zo] at hA;clear I hT;unfold cOf;obtain ⟨xk,xa,xb,xc,xp,xq⟩:=x;obtain ⟨ob,du,sl,hd,ir,dm,wa,he⟩:=w;dsimp only at *;subst hk;cases dm
 ·skip
  cases sv<;>(rw [vab rfl];simp -implicitDefEqProofs (disch:=try exact zd) only [go_sem,Aa,Ab,vas,vat,hA])
 ·skip
  cases sv<;>(rw [vab rfl];simp -implicitDefEqProofs (disch:=try exact zd) only [go_sem,Aa,Ab,vas,vat,hA])
theorem vzx {d:Nat} {ts:List ByteArray} {B:Nat} {w:Wd} (I:Wok ts B w) (hT:Ty23 ts) (x:Act') (sv:Sv) (hk:x.kind=18):cOf d ts w x sv (0):=by
 have hA:=vij (d:=d+3) x.kind;rw [decide_eq_true zo] at hA;clear I hT;unfold cOf;obtain ⟨xk,xa,xb,xc,xp,xq⟩:=x;obtain ⟨ob,du,sl,hd,ir,dm,wa,he⟩:=w;dsimp only at *;subst hk;cases dm
 ·skip
  cases sv<;>(rw [vab rfl];simp -implicitDefEqProofs (disch:=try exact zd) only [go_sem,Aa,Ab,vas,vat,hA])
 ·skip
  cases sv<;>(rw [vab rfl];simp -implicitDefEqProofs (disch:=try exact zd) only [go_sem,Aa,Ab,vas,vat,hA])
theorem qbl {d:Nat} {ts:List ByteArray} {B:Nat} {w:Wd} (I:Wok ts B w) (hT:Ty23 ts) (x:Act') (sv:Sv) (hdm:w.dm=false) (n1:x.kind≠1) (n2:x.kind≠2) (n3:x.kind≠3) (n4:x.kind≠4) (n5:x.kind≠5) (n6:x.kind≠6) (n7:x.kind≠7) (n8:x.kind≠8) (n9:x.kind≠9) (n10:x.kind≠10) (n11:x.kind≠11) (n12:x.kind≠12) (n13:x.kind≠13) (n14:x.kind≠14) (n15:x.kind≠15) (n16:x.kind≠16) (n17:x.kind≠17) (n18:x.kind≠18):cOf d ts w x sv (1):=by
 clear I hT;unfold cOf;obtain ⟨xk,xa,xb,xc,xp,xq⟩:=x;obtain ⟨ob,du,sl,hd,ir,dm,wa,he⟩:=w;dsimp only at *;subst hdm;cases sv<;>(rw [vab rfl];simp -implicitDefEqProofs (disch:=try exact zd) only [go_sem,Aa,Ab,vas,vat,n1,n2,n3,n4,n5,n6,n7,n8,n9,n10,n11,n12,n13,n14,n15,n16,n17,n18])
theorem qex {d:Nat} {ts:List ByteArray} {B:Nat} {w:Wd} (I:Wok ts B w) (hT:Ty23 ts) (x:Act') (sv:Sv):cOf d ts w x sv (codeW ts w x):=by
 unfold codeW;by_cases cd:w.dm=true/\¬(14<=x.kind/\x.kind<=18)
 ·rw [if_pos cd];exact qaw x sv cd.1 cd.2
 rw [if_neg cd];by_cases k14:x.kind=14
 ·have:=vzt (d:=d) I hT x sv k14;simp only [k14,Ac,Ad,if_false,if_true,and_true,true_and,and_false,false_and,or_false,false_or,or_true,true_or,and_self,or_self];exact this
 by_cases k15:x.kind=15
 ·have:=vzq (d:=d) I hT x sv k15;simp only [k15,Ac,Ad,if_false,if_true,and_true,true_and,and_false,false_and,or_false,false_or,or_true,true_or,and_self,or_self];exact this
 by_cases k16:x.kind=16
 ·have:=vzu (d:=d) I hT x sv k16;simp only [k16,Ac,Ad,if_false,if_true,and_true,true_and,and_false,false_and,or_false,false_or,or_true,true_or,and_self,or_self];exact this
 by_cases k17:x.kind=17
 ·have:=vzi (d:=d) I hT x sv k17;simp only [k17,Ac,Ad,if_false,if_true,and_true,true_and,and_false,false_and,or_false,false_or,or_true,true_or,and_self,or_self];exact this
 by_cases k18:x.kind=18
 ·have:=vzx (d:=d) I hT x sv k18;simp only [k18,Ac,Ad,if_false,if_true,and_true,true_and,and_false,false_and,or_false,false_or,or_true,true_or,and_self,or_self];exact this
 have hdm:w.dm=false:=by
  cases hd:w.dm with
  |false=>rfl
  |true=>exact absurd ⟨hd,zo⟩ cd
 by_cases k1:x.kind=1
 ·have:=qbx (d:=d) I hT x sv hdm k1;simp only [k1,Ac,Ad,if_false,if_true,and_true,true_and,and_false,false_and,or_false,false_or,or_true,true_or,and_self,or_self];exact this
 by_cases k2:x.kind=2
 ·have:=qck (d:=d) I hT x sv hdm k2;simp only [k2,Ac,Ad,if_false,if_true,and_true,true_and,and_false,false_and,or_false,false_or,or_true,true_or,and_self,or_self];exact this
 by_cases k3:x.kind=3
 ·have:=qao (d:=d) I hT x sv hdm k3;simp only [k3,Ac,Ad,if_false,if_true,and_true,true_and,and_false,false_and,or_false,false_or,or_true,true_or,and_self,or_self];exact this
 by_cases k4:x.kind=4
 ·have:=qcm (d:=d) I hT x sv hdm k4;simp only [k4,Ac,Ad,if_false,if_true,and_true,true_and,and_false,false_and,or_false,false_or,or_true,true_or,and_self,or_self];exact this
 by_cases k5:x.kind=5
 ·have:=qb9 (d:=d) I hT x sv hdm k5;simp only [k5,Ac,Ad,if_false,if_true,and_true,true_and,and_false,false_and,or_false,false_or,or_true,true_or,and_self,or_self];exact this
 by_cases k6:x.kind=6
 ·have:=qau (d:=d) I hT x sv hdm k6;simp only [k6,Ac,Ad,if_false,if_true,and_true,true_and,and_false,false_and,or_false,false_or,or_true,true_or,and_self,or_self];exact this
 by_cases k7:x.kind=7
 ·have:=qbw (d:=d) I hT x sv hdm k7;simp only [k7,Ac,Ad,if_false,if_true,and_true,true_and,and_false,false_and,or_false,false_or,or_true,true_or,and_self,or_self];exact this
 by_cases k8:x.kind=8
 ·have:=qa2 (d:=d) I hT x sv hdm k8;simp only [k8,Ac,Ad,if_false,if_true,and_true,true_and,and_false,false_and,or_false,false_or,or_true,true_or,and_self,or_self];exact this
 by_cases k9:x.kind=9
 ·have:=qa3 (d:=d) I hT x sv hdm k9;simp only [k9,Ac,Ad,if_false,if_true,and_true,true_and,and_false,false_and,or_false,false_or,or_true,true_or,and_self,or_self];exact this
 by_cases k10:x.kind=10
 ·have:=vzy (d:=d) I hT x sv hdm k10;simp only [k10,Ac,Ad,if_false,if_true,and_true,true_and,and_false,false_and,or_false,false_or,or_true,true_or,and_self,or_self];exact this
 by_cases k11:x.kind=11
 ·have:=vzm (d:=d) I hT x sv hdm k11;simp only [k11,Ac,Ad,if_false,if_true,and_true,true_and,and_false,false_and,or_false,false_or,or_true,true_or,and_self,or_self];exact this
 by_cases k12:x.kind=12
 ·have:=vzk (d:=d) I hT x sv hdm k12;simp only [k12,Ac,Ad,if_false,if_true,and_true,true_and,and_false,false_and,or_false,false_or,or_true,true_or,and_self,or_self];exact this
 by_cases k13:x.kind=13
 ·have:=vzj (d:=d) I hT x sv hdm k13;simp only [k13,Ac,Ad,if_false,if_true,and_true,true_and,and_false,false_and,or_false,false_or,or_true,true_or,and_self,or_self];exact this
 rw [if_neg k1,if_neg zo,if_neg zo,if_neg k7,if_neg k10,if_neg k11,if_neg k12,if_neg zo,if_neg zo];exact qbl (d:=d) I hT x sv hdm k1 k2 k3 k4 k5 k6 k7 k8 k9 k10 k11 k12 k13 k14 k15 k16 k17 k18
