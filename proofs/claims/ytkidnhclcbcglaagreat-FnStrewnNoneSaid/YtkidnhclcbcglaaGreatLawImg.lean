/- Images: the reference's. -/
import Derived.Test.YtkidnhclcbcglaaGreatLawE
open Nat renaming reduceAdd->Aa,reduceBEq->Ab
open ByteArray renaming size_extract->Ac,size_append->Ae
open Go.IntKind renaming i64->Ad
namespace Go.Proofs.YtkidnhclcbcglaaGreat.VM
open Go Sy
variable {Φ:Nat→Option Callee} {N:Nat}
set_option maxRecDepth 100000
set_option maxHeartbeats 8000000
theorem vu5 {s:ByteArray} {c:Cf} (h:readSuper s=some c):s.size=64∧c=rdCf s∧superLine c=s∧confOk c=true∧CfSm c:=by
 unfold readSuper at h;split at h
 ·rename_i hs;split at h
  ·rename_i h2;cases h;refine ⟨hs,rfl,h2,?_,vy6 s⟩;cases hk:confOk (rdCf s)
   ·unfold superLine at h2;rw [hk] at h2;simp only [Bool.false_eq_true,if_false] at h2;rw [←h2] at hs;cases hs
   ·rfl
  ·cases h
 ·cases h
theorem Conf.small {c:Cf} (h:Conf c):CfSm c:=⟨⟨by have:=h.l0;omega,by have:=h.l1;omega⟩,by have:=h.n1;omega,fun s hs=>by have:=h.ty s hs;omega⟩
def isImg (c:Cf) (s:ByteArray):Bool:=confOk c&&decide ((s.size:Int)=64 * c.lines)
theorem vxj {d:Nat} {c:Cf} (hc:CfSm c) (s:ByteArray):vaf (T (d+4)) vad vgv [cCf true c,.a (.string s)]=some ([.a (.bool (isImg c s))],[]):=by
 have h1:=vlo (d:=d) hc;rw [vag rfl];unfold isImg;cases hk:confOk c
 ·rw [hk] at h1;simp -implicitDefEqProofs (disch:=first|exact zd|fail) only [go_sem,Aa,Ab,vgv,voz,h1]
 ·rw [hk] at h1;have hC:=Conf.of hk;have l0:=hC.l0;have l1:=hC.l1;have e1:Ad.wrap (64 * c.lines)=64 * c.lines:=vai _ zo zo;simp -implicitDefEqProofs (disch:=first|exact zd|fail) only [go_sem,Aa,Ab,vgv,voz,h1,e1]
def lineAt (s:ByteArray) (n:Nat):ByteArray:=s.extract (64 * n) (64 * n+64)
theorem vw4 {s:ByteArray} {n:Nat} (h:64 * n+64≤s.size):(lineAt s n).size=64:=by unfold lineAt;rw [Ac];omega
theorem vy0 (s:ByteArray) (n:Nat) (hn:n≤1000) (h:64 * n+64≤s.size):vaf Φ N vi3 [.a (.string s),.a (.int .i64 (n:Nat))]=some ([.a (.string (lineAt s n))],[]):=by
 have e1:Ad.wrap (64 * (n:Int))=((64 * n:Nat):Int):=by rw [vai _ zo zo];omega
 have e2:Ad.wrap (((64 * n:Nat):Int)+64)=((64 * n+64:Nat):Int):=by rw [vai _ zo zo];omega
 rw [vag rfl];unfold lineAt;simp -implicitDefEqProofs (disch:=first|exact zd|fail) only [go_sem,Aa,Ab,vi3,vuj,e1,e2,Int.toNat_natCast]
def epochOf (c:Cf) (s:ByteArray):Int:=if isImg c s=true then (readEpoch (lineAt s 1)).getD (-1) else-1
theorem vxe {d:Nat} {c:Cf} (hc:CfSm c) (s:ByteArray):vaf (T (d+5)) vad vfe [cCf true c,.a (.string s)]=some ([.a (.int .i64 (epochOf c s))],[]):=by
 have h1:=vxj (d:=d) hc s;rw [vag rfl];unfold epochOf;cases hk:isImg c s
 ·rw [hk] at h1;simp -implicitDefEqProofs (disch:=first|exact zd|fail) only [go_sem,Aa,Ab,vfe,vla,h1]
 ·rw [hk] at h1;unfold isImg at hk;simp only [Bool.and_eq_true,decide_eq_true_eq] at hk;have hC:=Conf.of hk.1;have l0:=hC.l0;have h2:=vy0 (Φ:=T (d+4)) (N:=vad) s 1 zo zo;rw [show ((1:Nat):Int)=1 from rfl] at h2;have h3:=qc9 (d:=d+1) (lineAt s 1) (by rw [vw4 zo];omega);generalize lineAt s 1=x at *;cases hr:readEpoch x with
  |none=>
   rw [hr] at h3;simp -implicitDefEqProofs (disch:=first|exact zd|fail) only [go_sem,Aa,Ab,vfe,vla,h1,h2,h3];rfl
  |some e=>
   rw [hr] at h3;simp -implicitDefEqProofs (disch:=first|exact zd|fail) only [go_sem,Aa,Ab,vfe,vla,h1,h2,h3]
def isHalf (c:Cf) (h:Int):Bool:=decide (h=4)||(decide (h=5)||decide (2 * (4+c.log)≤h∧h≤2 * c.lines-1))
theorem qja {d:Nat} {c:Cf} (hc:Conf c) (h:Int):vaf (T (d+1)) vad vf8 [cCf true c,.a (.int .i64 h)]=some ([.a (.bool (isHalf c h))],[]):=by
 have l0:=hc.l0;have l1:=hc.l1;have g0:=hc.g0;have g1:=hc.g1;have e1:Ad.wrap (4+c.log)=4+c.log:=vai _ zo zo;have e2:Ad.wrap (2 * (4+c.log))=2 * (4+c.log):=vai _ zo zo;have e3:Ad.wrap (2 * c.lines)=2 * c.lines:=vai _ zo zo;have e4:Ad.wrap (2 * c.lines-1)=2 * c.lines-1:=vai _ zo zo;rw [vag rfl];unfold isHalf;by_cases c1:h=4
 ·rw [decide_eq_true c1];simp -implicitDefEqProofs (disch:=first|exact zd|fail) only [go_sem,Aa,Ab,vf8,vl7,c1,e1,e2,e3,e4]
 ·rw [decide_eq_false c1];by_cases c2:h=5
  ·rw [decide_eq_true c2];subst c2;simp -implicitDefEqProofs (disch:=first|exact zd|fail) only [go_sem,Aa,Ab,vf8,vl7,decide_eq_false c1,e1,e2,e3,e4]
  ·rw [decide_eq_false c2];simp -implicitDefEqProofs (disch:=first|exact zd|fail) only [go_sem,Aa,Ab,vf8,vl7,decide_eq_false c1,decide_eq_false c2,e1,e2,e3,e4]
def withB (s:ByteArray) (at_:Nat) (x:ByteArray):ByteArray:=s.extract 0 at_++x++s.extract (at_+x.size) s.size
theorem vk9 {s x:ByteArray} {n:Nat} (h:n+x.size≤s.size):(withB s n x).size=s.size:=by
 unfold withB;rw [Ae,Ae,Ac,Ac];omega
theorem vk6 (s x:ByteArray) (n:Nat) (hs:s.size≤1048576) (h:n+x.size≤s.size):vaf Φ N vhn [.a (.string s),.a (.int .i64 (n:Nat)),.a (.string x)]=some ([.a (.string (withB s n x))],[]):=by
 have e1:Ad.wrap ((n:Int)+x.size)=((n+x.size:Nat):Int):=by rw [vai _ zo zo];omega
 have z1:(s.extract 0 n).size=n:=by rw [Ac];omega
 have z2:(s.extract (n+x.size) s.size).size=s.size-(n+x.size):=by rw [Ac];omega
 rw [vag rfl];unfold withB;have hi:(s.extract 0 n++x).size=n+x.size:=by rw [Ae,z1]
 simp -implicitDefEqProofs (disch:=first|exact zd|fail) only [go_sem,Aa,Ab,vhn,vug,e1,Int.toNat_natCast]
def confOf (s:ByteArray):Option Cf:=if s.size<64 then none else match readSuper (s.extract 0 64) with
 |some c=>if (s.size:Int)=64 * c.lines then some c else none
 |none=>none
theorem vro {d:Nat} (s:ByteArray) (hs:s.size≤9223372036854775807):vaf (T (d+6)) vad vdw [.a (.string s)]=some ([cCf false ((confOf s).getD noCf),.a (.bool (confOf s).isSome)],[]):=by
 rw [vag rfl];unfold confOf;by_cases c:s.size<64
 ·have c':(s.size:Int)<64:=by omega
  rw [if_pos c];simp -implicitDefEqProofs (disch:=first|exact zd|fail) only [go_sem,Aa,Ab,vdw,vje,c'];rfl
 ·have c':¬(s.size:Int)<64:=by omega
  rw [if_neg c];have h1:=qc6 (d:=d) (s.extract 0 64) (by rw [Ac];omega);have n64:Int.toNat 64=64:=rfl;generalize g1:s.extract 0 64=x at *;cases hr:readSuper x with
  |none=>
   rw [hr] at h1;unfold noCf at h1;simp -implicitDefEqProofs (disch:=first|exact zd|fail) only [go_sem,Aa,Ab,vdw,vje,c',h1,n64,g1,Option.getD_none,Option.isSome_none];rfl
  |some k=>
   rw [hr] at h1;obtain ⟨_,_,_,hk,_⟩:=vu5 hr;have hC:=Conf.of hk;have l0:=hC.l0;have l1:=hC.l1;have e1:Ad.wrap (64 * k.lines)=64 * k.lines:=vai _ zo zo;dsimp only;by_cases c2:(s.size:Int)=64 * k.lines
   ·rw [if_pos c2];simp -implicitDefEqProofs (disch:=first|exact zd|fail) only [go_sem,Aa,Ab,vdw,vje,c',h1,n64,g1,e1,c2,Option.getD_some,Option.isSome_some];done
   ·rw [if_neg c2];simp -implicitDefEqProofs (disch:=first|exact zd|fail) only [go_sem,Aa,Ab,vdw,vje,c',h1,n64,g1,e1,c2,Option.getD_some,Option.isSome_some];rfl
