/- FnFoundAgain: the drawn number, and the comparisons; the law. -/
import Derived.Test.YtpnnhokaehghfaaDoorLawFa
open Nat renaming reduceAdd->Aa,reduceBEq->Ab
namespace Go.Proofs.YtpnnhokaehghfaaDoor.VM
open Go Sy
variable {Φ:Nat→Option Callee} {N:Nat}
set_option maxRecDepth 100000
set_option maxHeartbeats 8000000
theorem qda {d:Nat} {bs:List Nat} (hb:Bs bs) {p:Nat} (hp:p≤bs.length):∃(n:Int) (q:Nat),q≤bs.length∧
  vak (T (d+2)) var vbd [.bx false [.sl true vdh (bs.map eU8),.a (.int .i64 p)]]=some ([.a (.int .i64 n)],[.bx false [.sl true vdh (bs.map eU8),.a (.int .i64 q)]]):=by
 obtain ⟨v,q,hv,hq,he⟩:=vm7 (d:=d) hb hp 5 zo zo;by_cases c0:(v:Int)=0
 ·obtain ⟨u,q1,hu,hq1,he1⟩:=qba (d:=d) hb hq;refine ⟨IntKind.i64.wrap u,q1,hq1,?_⟩;rw [vb8 rfl];simp -implicitDefEqProofs (disch:=first|exact zd|fail) only [go_sem,Aa,Ab,vbd,vb4,he,c0,he1]
 ·by_cases c1:(v:Int)=1
  ·obtain ⟨u,q1,hu,hq1,he1⟩:=vm7 (d:=d) hb hq 7 zo zo;have hu7:u<7:=by omega
   match u,hu7 with
   |0,_=>
    refine ⟨0,q1,hq1,?_⟩;rw [vb8 rfl];simp -implicitDefEqProofs (disch:=first|exact zd|fail) only [go_sem,Aa,Ab,vbd,vb4,he,c0,c1,he1]
   |1,_=>
    refine ⟨-1,q1,hq1,?_⟩;rw [vb8 rfl];simp -implicitDefEqProofs (disch:=first|exact zd|fail) only [go_sem,Aa,Ab,vbd,vb4,he,c0,c1,he1]
   |2,_=>
    refine ⟨1,q1,hq1,?_⟩;rw [vb8 rfl];simp -implicitDefEqProofs (disch:=first|exact zd|fail) only [go_sem,Aa,Ab,vbd,vb4,he,c0,c1,he1]
   |3,_=>
    refine ⟨-9223372036854775808,q1,hq1,?_⟩;rw [vb8 rfl];simp -implicitDefEqProofs (disch:=first|exact zd|fail) only [go_sem,Aa,Ab,vbd,vb4,he,c0,c1,he1]
   |4,_=>
    refine ⟨9223372036854775807,q1,hq1,?_⟩;rw [vb8 rfl];simp -implicitDefEqProofs (disch:=first|exact zd|fail) only [go_sem,Aa,Ab,vbd,vb4,he,c0,c1,he1]
   |5,_=>
    refine ⟨256,q1,hq1,?_⟩;rw [vb8 rfl];simp -implicitDefEqProofs (disch:=first|exact zd|fail) only [go_sem,Aa,Ab,vbd,vb4,he,c0,c1,he1]
   |6,_=>
    refine ⟨-256,q1,hq1,?_⟩;rw [vb8 rfl];simp -implicitDefEqProofs (disch:=first|exact zd|fail) only [go_sem,Aa,Ab,vbd,vb4,he,c0,c1,he1]
  ·obtain ⟨u,q1,hu,hq1,he1⟩:=vm7 (d:=d) hb hq 400 zo zo;have w1:IntKind.i64.wrap ((u:Int)-100)=(u:Int)-100:=by rw [vif]<;>omega
   refine ⟨(u:Int)-100,q1,hq1,?_⟩;rw [vb8 rfl];simp -implicitDefEqProofs (disch:=first|exact zd|fail) only [go_sem,Aa,Ab,vbd,vb4,he,c0,c1,he1,w1]
theorem vn2 {d:Nat} {bs:List Nat} (hb:Bs bs):∃n:Int,vak (T (d+3)) var vci [.sl true vdh (bs.map eU8)]=some ([.a (.int .i64 n)],[]):=by
 obtain ⟨n,q,hq,he⟩:=qda (d:=d) hb (Nat.zero_le _)
 replace he:vak (T (d+2)) var vbd [.bx false [.sl true vdh (bs.map eU8),.a (.int .i64 0)]]=_:=he
 have h0:vak (T (d+2)) var vdm [.sl true vdh (bs.map eU8)]=some ([.bx false [.sl true vdh (bs.map eU8),.a (.int .i64 0)]],[]):=vwk (Φ:=T (d+2)) (N:=var) (bs.map eU8);refine ⟨n,?_⟩;rw [vb8 rfl];simp -implicitDefEqProofs (disch:=first|exact zd|fail) only [go_sem,Aa,Ab,vci,vhr,h0,he]
theorem vkq (x:List Int) (hx:x.length≤1048576):vak Φ var vdi [.sl true vb6 (x.map vic),.sl true vb6 (x.map vic)]=some ([.a (.bool true)],[]):=by
 have key:vp3 Φ var [0,1,5] vee ⟨[(0,.sz vb6 (x.map vic)),(1,.sz vb6 (x.map vic)),(5,.a (.int .i64 (0:Nat)))],[],0⟩=some (.ext 0,⟨[(0,.sz vb6 (x.map vic)),(1,.sz vb6 (x.map vic)),(5,.a (.int .i64 (x.length:Nat))),(14,.a (.bool false))],[],400⟩):=by
  refine vm4 (m:=x.length) (fun i=>⟨[(0,.sz vb6 (x.map vic)),(1,.sz vb6 (x.map vic)),(5,.a (.int .i64 (i:Nat)))],[],0⟩) _ (vnm zo) (fun i hi=> ?_) ?_
  ·obtain ⟨a,ha⟩:∃a,x[i]? =some a:=⟨_,List.getElem?_eq_getElem hi⟩
   have hw:=vjz i zo;unfold round vee;simp -implicitDefEqProofs (disch:=first|exact zd|fail) only [go_sem,Aa,Ab,ha,hw]
   (show some _=some _;kernel_rfl)
  ·unfold round vee;simp -implicitDefEqProofs (disch:=first|exact zd|fail) only [go_sem,Aa,Ab]
 rw [vb8 rfl];simp -implicitDefEqProofs (disch:=first|exact zd|fail) only [go_sem,Aa,Ab,vdi,vj5,vrd key]
theorem vn8 (l:List (Int×Int)) (hl:l.length≤1048576):vak Φ var vcy [.sl true vbn (l.map eAn),.sl true vbn (l.map eAn)]=some ([.a (.bool true)],[]):=by
 have key:vp3 Φ var [0,1,5] vdk ⟨[(0,.sz vbn (l.map eAn)),(1,.sz vbn (l.map eAn)),(5,.a (.int .i64 (0:Nat)))],[],0⟩=some (.ext 0,⟨[(0,.sz vbn (l.map eAn)),(1,.sz vbn (l.map eAn)),(5,.a (.int .i64 (l.length:Nat))),(14,.a (.bool false))],[],400⟩):=by
  refine vm4 (m:=l.length) (fun i=>⟨[(0,.sz vbn (l.map eAn)),(1,.sz vbn (l.map eAn)),(5,.a (.int .i64 (i:Nat)))],[],0⟩) _ (vnm zo) (fun i hi=> ?_) ?_
  ·obtain ⟨x,hx⟩:∃a,l[i]? =some a:=⟨_,List.getElem?_eq_getElem hi⟩
   have hw:=vjz i zo;obtain ⟨a,b⟩:=x;have q1:decide (a=a)=true:=decide_eq_true rfl;have q2:decide (b=b)=true:=decide_eq_true rfl;unfold round vdk;simp -implicitDefEqProofs (disch:=first|exact zd|fail) only [go_sem,Aa,Ab,hx,hw,eAn,q1,q2,Bool.and_self,Bool.not_true,if_true]
   (show some _=some _;kernel_rfl)
  ·unfold round vdk;simp -implicitDefEqProofs (disch:=first|exact zd|fail) only [go_sem,Aa,Ab]
 rw [vb8 rfl];simp -implicitDefEqProofs (disch:=first|exact zd|fail) only [go_sem,Aa,Ab,vcy,vin,vrd key]
theorem vso {d:Nat} (n:Int):vak (T (d+1)) var vdv [.st [.a (.int .i64 0),.sl true vb6 [.a (.int .i64 n),.a (.int .i64 1)]],.st [.a (.int .i64 0),.sl true vb6 [.a (.int .i64 n),.a (.int .i64 1)]]]=some ([.a (.bool true)],[]):=by
 have h:=vkq (Φ:=T d) [n,1] (by simp);simp only [List.map_cons,List.map_nil,vic] at h;rw [vb8 rfl];simp -implicitDefEqProofs (disch:=first|exact zd|fail) only [go_sem,Aa,Ab,vdv,vkw,h]
def SFG (n:Int) (i:Nat):St:=⟨[(2,.rf 0),(3,.rf 1),(5,.a (.int .i64 i))],[(0,some (.bx false [.sz vb6 rootL,.sz vc1 (objL n)])),(1,some (.bx false [.sz vb6 rootL,.sz vc1 (objL n)]))],2⟩
theorem vp5 {d:Nat} (n:Int):vak (T (d+2)) var vda [.st [.sl true vb6 rootL,.sl true vc1 (objL n)],.st [.sl true vb6 rootL,.sl true vc1 (objL n)]]=some ([.a (.bool true)],[]):=by
 have h:=vkq (Φ:=T (d+1)) [0,0,0,1,0,0,0,0] (by decide);have hr:List.map vic [0,0,0,1,0,0,0,0]=rootL:=rfl;rw [hr] at h;have h2:=vso (d:=d) n;have key:vp3 (T (d+2)) var [2,3,5] vd4 (SFG n 0)=some (.ext 0,⟨[(2,.rf 0),(3,.rf 1),(5,.a (.int .i64 (1:Nat))),(25,.a (.bool false))],[(0,some (.bx false [.sz vb6 rootL,.sz vc1 (objL n)])),(1,some (.bx false [.sz vb6 rootL,.sz vc1 (objL n)]))],502⟩):=by
  refine vm4 (m:=1) (SFG n) _ (vnm zo) (fun i hi=> ?_) ?_
  ·have h0:i=0:=by omega
   subst h0;unfold round SFG vd4;simp -implicitDefEqProofs (disch:=first|exact zd|fail) only [go_sem,Aa,Ab,objL,h2]
   (show some _=some _;kernel_rfl)
  ·unfold round SFG vd4;simp -implicitDefEqProofs (disch:=first|exact zd|fail) only [go_sem,Aa,Ab,objL]
 unfold SFG at key;rw [vb8 rfl];simp -implicitDefEqProofs (disch:=first|exact zd|fail) only [go_sem,Aa,Ab,vda,vjr,h,vrd key]
theorem vo6 {d:Nat} (bs:List Nat) (hb:∀x∈bs,x<256) (hl:bs.length<9223372036854000000):vak (T (d+15)) var vbz [.sl true vdh (bs.map eU8)]=some ([.a (.bool true)],[]):=by
 have h0:=qcf (Φ:=T (d+14)) (N:=var) (bs.map eU8) (by rw [List.length_map];omega);rw [List.length_map] at h0;rw [vb8 rfl];by_cases c:(1048576:Int)<bs.length
 ·rw [decide_eq_true c] at h0;simp -implicitDefEqProofs (disch:=first|exact zd|fail) only [go_sem,Aa,Ab,vbz,vfl,h0]
 ·rw [decide_eq_false c] at h0;obtain ⟨n,h1⟩:=vn2 (d:=d+11) (bs:=bs) ⟨by omega,hb⟩;have h2:=qc5 (d:=d+11) n;have h3:=qbj (d:=d+11) n;have h4:=vsi (d:=d+2) n;have h5:=vn8 (Φ:=T (d+14)) (ansL n) (by simp [ansL]);have h6:=vp5 (d:=d+12) n;rw [show (8:Nat)=Int.toNat 8 from rfl] at h4;unfold objL rootL at h6;unfold objL rootL at h4;simp -implicitDefEqProofs (disch:=first|exact zd|fail) only [go_sem,Aa,Ab,vbz,vfl,h0,h1,h2,h3,h4,h5,h6]
