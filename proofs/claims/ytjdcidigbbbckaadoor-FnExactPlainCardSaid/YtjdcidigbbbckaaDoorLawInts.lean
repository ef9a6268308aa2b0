/- The laws' own functions over numbers: copies, likeness, bkc. -/
import Derived.Test.YtjdcidigbbbckaaDoorLawT
import Derived.Test.YtjdcidigbbbckaaDoorCode
namespace Go.Proofs.YtjdcidigbbbckaaDoor.VM
open Go Sy
variable {Φ:Nat→Option Callee} {N:Nat}
theorem uxf (l:List Int) (hl:l.length<9223372036854775807) (hN:l.length<N) (r:List It):
 goP Φ N [0,1,5] bxb r ⟨[(0,.sz nz (l.map eInt)),(1,.sz nz (l.map eInt)),(5,.a (.int .i64 0))],[],0⟩=
 goE Φ N r 0 [(0,.sz nz (l.map eInt)),(1,.sz nz (l.map eInt)),(5,.a (.int .i64 l.length)),(14,.a (.bool false))] [] 400:=by
 refine gqe (fun i=>⟨[(0,.sz nz (l.map eInt)),(1,.sz nz (l.map eInt)),(5,.a (.int .i64 (i:Nat)))],[],0⟩) ⟨_,_,_⟩ hN (fun i hi=> ?_) ?_
 ·obtain ⟨a,ha⟩: ∃a,l[i]? =some a:=⟨_,List.getElem?_eq_getElem hi⟩
  have hw:=vz i (by omega)
  unfold ij bxb
  simp (maxSteps:=3000000) (implicitDefEqProofs:=false) (disch:=first|assumption|(refine ofR ?_;show norm _ _=_;kernel_rfl)|(refine ofR ?_;show okD _ _ _ _=true;kernel_rfl)|exact ofR (by with_unfolding_all rfl)|exact ofB (by with_unfolding_all rfl)|omega|(simp only [go_sem,bz];omega)) only [go_sem,Nat.reduceAdd,Nat.reduceBEq,ha,hw]
  rfl
 ·unfold ij bxb
  simp (maxSteps:=3000000) (implicitDefEqProofs:=false) (disch:=first|assumption|(refine ofR ?_;show norm _ _=_;kernel_rfl)|(refine ofR ?_;show okD _ _ _ _=true;kernel_rfl)|exact ofR (by with_unfolding_all rfl)|exact ofB (by with_unfolding_all rfl)|omega|(simp only [go_sem,bz];omega)) only [go_sem,Nat.reduceAdd,Nat.reduceBEq]
theorem yze (l:List Int) (hl:l.length<9223372036854775807) (hN:l.length<N):uz Φ N yjb [.sl true nz (l.map eInt),.sl true nz (l.map eInt)]=some ([.a (.bool true)],[]):=by
 rw [bq rfl]
 simp (maxSteps:=3000000) (implicitDefEqProofs:=false) (disch:=first|assumption|(refine ofR ?_;show norm _ _=_;kernel_rfl)|(refine ofR ?_;show okD _ _ _ _=true;kernel_rfl)|exact ofR (by with_unfolding_all rfl)|exact ofB (by with_unfolding_all rfl)|omega|(simp only [go_sem,bz];omega)) only [go_sem,Nat.reduceAdd,Nat.reduceBEq,yjb,ejd]
 rw [show norm _ _=(⟨[(0,.sz nz (l.map eInt)),(1,.sz nz (l.map eInt)),(5,.a (.int .i64 0))],[],0⟩:St) from rfl,uxf l hl hN]
 simp (maxSteps:=3000000) (implicitDefEqProofs:=false) (disch:=first|assumption|(refine ofR ?_;show norm _ _=_;kernel_rfl)|(refine ofR ?_;show okD _ _ _ _=true;kernel_rfl)|exact ofR (by with_unfolding_all rfl)|exact ofB (by with_unfolding_all rfl)|omega|(simp only [go_sem,bz];omega)) only [go_sem,Nat.reduceAdd,Nat.reduceBEq]
def bkc (k:Int) (n:Nat):List Int:=(List.range n).map fun (i:Nat)=>k+i
theorem gke (l:List Int) (k:Int) (h0:0≤k) (hk:k+l.length≤9223372036854775000) (hN:l.length<N) (r:List It):
 goP Φ N [0,1,5,10000] sk r ⟨[(0,.rf 0),(1,.a (.int .i64 k)),(5,.a (.int .i64 0)),(10000,.rf 0)],[(0,some (.sl false 0 nz (l.map eInt)))],1⟩=
 goE Φ N r 0 [(0,.rf 0),(1,.a (.int .i64 (k+l.length))),(5,.a (.int .i64 l.length)),(9,.a (.bool false)),(10000,.rf 0)] [(0,some (.sl false 0 nz ((bkc k l.length).map eInt)))] 401:=by
 have e0:l.map eInt=updL (fun _ x=>eInt x) (fun j _=>eInt (k+(j:Nat))) 0 l:=by rw [gxd,vjc]
 have e1:(bkc k l.length).map eInt=updL (fun _ x=>eInt x) (fun j _=>eInt (k+(j:Nat))) l.length l:=by
  rw [bqe]
  apply List.ext_getElem?
  intro j
  simp only [bkc,List.map_map,List.getElem?_map,List.getElem?_mapIdx]
  by_cases h:j<l.length
  ·simp [h]
  ·simp [h]
 rw [e0,e1]
 have:=gqe (Φ:=Φ) (N:=N) (r:=r) (live:= [0,1,5,10000]) (b:=sk) (id:=0) (fun i=>⟨[(0,.rf 0),(1,.a (.int .i64 (k+(i:Nat)))),(5,.a (.int .i64 (i:Nat))),(10000,.rf 0)],[(0,some (.sl false 0 nz (updL (fun _ x=>eInt x) (fun j _=>eInt (k+(j:Nat))) i l)))],1⟩)
  ⟨[(0,.rf 0),(1,.a (.int .i64 (k+l.length))),(5,.a (.int .i64 l.length)),(9,.a (.bool false)),(10000,.rf 0)],[(0,some (.sl false 0 nz (updL (fun _ x=>eInt x) (fun j _=>eInt (k+(j:Nat))) l.length l)))],401⟩ hN (fun i hi=> ?_) ?_
 ·simpa using this
 ·obtain ⟨a,ha⟩: ∃a,l[i]? =some a:=⟨_,List.getElem?_eq_getElem hi⟩
  have hw:=vz i (by omega)
  have hk1:IntKind.i64.wrap (k+(i:Int)+1)=k+((i+1:Nat):Int):=by rw [vzb]<;>omega
  have hg:=aqe (f:=fun _ x=>eInt x) (g:=fun j _=>eInt (k+(j:Nat))) ha
  have hs:=zje (f:=fun _ x=>eInt x) (g:=fun j _=>eInt (k+(j:Nat))) ha
  simp only [lxg] at hg hs
  unfold ij sk
  simp (maxSteps:=3000000) (implicitDefEqProofs:=false) (disch:=first|assumption|(refine ofR ?_;show norm _ _=_;kernel_rfl)|(refine ofR ?_;show okD _ _ _ _=true;kernel_rfl)|exact ofR (by with_unfolding_all rfl)|exact ofB (by with_unfolding_all rfl)|omega|(simp only [go_sem,bz];omega)) only [go_sem,Nat.reduceAdd,Nat.reduceBEq,hg,hs,hw,hk1]
  rfl
 ·unfold ij sk
  simp (maxSteps:=3000000) (implicitDefEqProofs:=false) (disch:=first|assumption|(refine ofR ?_;show norm _ _=_;kernel_rfl)|(refine ofR ?_;show okD _ _ _ _=true;kernel_rfl)|exact ofR (by with_unfolding_all rfl)|exact ofB (by with_unfolding_all rfl)|omega|(simp only [go_sem,bz];omega)) only [go_sem,Nat.reduceAdd,Nat.reduceBEq]
theorem dqd (l:List Int) (k:Int) (h0:0≤k) (hk:k+l.length≤9223372036854775000) (hN:l.length<N):
 uz Φ N azb [.sl false nz (l.map eInt),.a (.int .i64 k)]=some ([.a (.int .i64 (k+l.length))],[.sl false nz ((bkc k l.length).map eInt)]):=by
 rw [bq rfl]
 simp (maxSteps:=3000000) (implicitDefEqProofs:=false) (disch:=first|assumption|(refine ofR ?_;show norm _ _=_;kernel_rfl)|(refine ofR ?_;show okD _ _ _ _=true;kernel_rfl)|exact ofR (by with_unfolding_all rfl)|exact ofB (by with_unfolding_all rfl)|omega|(simp only [go_sem,bz];omega)) only [go_sem,Nat.reduceAdd,Nat.reduceBEq,azb,gkc]
 rw [show norm _ _=(⟨[(0,.rf 0),(1,.a (.int .i64 k)),(5,.a (.int .i64 0)),(10000,.rf 0)],[(0,some (.sl false 0 nz (l.map eInt)))],1⟩:St) from rfl,gke l k h0 hk hN]
 simp (maxSteps:=3000000) (implicitDefEqProofs:=false) (disch:=first|assumption|(refine ofR ?_;show norm _ _=_;kernel_rfl)|(refine ofR ?_;show okD _ _ _ _=true;kernel_rfl)|exact ofR (by with_unfolding_all rfl)|exact ofB (by with_unfolding_all rfl)|omega|(simp only [go_sem,bz];omega)) only [go_sem,Nat.reduceAdd,Nat.reduceBEq]
theorem pke (n:Nat) (k:Int) (h0:0≤k) (hk:k+n≤9223372036854775000) (hN:n<N) (r:List It):
 goP Φ N [0,1,5] tk r ⟨[(0,.sz nz ((bkc k n).map eInt)),(1,.a (.int .i64 k)),(5,.a (.int .i64 0))],[],0⟩=
 goE Φ N r 0 [(0,.sz nz ((bkc k n).map eInt)),(1,.a (.int .i64 (k+n))),(5,.a (.int .i64 n)),(9,.a (.bool false))] [] 400:=by
 have:=gqe (Φ:=Φ) (N:=N) (r:=r) (live:= [0,1,5]) (b:=tk) (id:=0) (m:=n) (fun i=>⟨[(0,.sz nz ((bkc k n).map eInt)),(1,.a (.int .i64 (k+(i:Nat)))),(5,.a (.int .i64 (i:Nat)))],[],0⟩)
  ⟨[(0,.sz nz ((bkc k n).map eInt)),(1,.a (.int .i64 (k+n))),(5,.a (.int .i64 n)),(9,.a (.bool false))],[],400⟩ hN (fun i hi=> ?_) ?_
 ·simpa using this
 ·have ha:(bkc k n)[i]? =some (k+i):=by simp [bkc,hi]
  have hl:(bkc k n).length=n:=by simp [bkc]
  have hw:=vz i (by omega)
  have hk1:IntKind.i64.wrap (k+(i:Int)+1)=k+((i+1:Nat):Int):=by rw [vzb]<;>omega
  unfold ij tk
  simp (maxSteps:=3000000) (implicitDefEqProofs:=false) (disch:=first|assumption|(refine ofR ?_;show norm _ _=_;kernel_rfl)|(refine ofR ?_;show okD _ _ _ _=true;kernel_rfl)|exact ofR (by with_unfolding_all rfl)|exact ofB (by with_unfolding_all rfl)|omega|(simp only [go_sem,bz];omega)) only [go_sem,Nat.reduceAdd,Nat.reduceBEq,ha,hl,hw,hk1]
  rfl
 ·have hl:(bkc k n).length=n:=by simp [bkc]
  unfold ij tk
  simp (maxSteps:=3000000) (implicitDefEqProofs:=false) (disch:=first|assumption|(refine ofR ?_;show norm _ _=_;kernel_rfl)|(refine ofR ?_;show okD _ _ _ _=true;kernel_rfl)|exact ofR (by with_unfolding_all rfl)|exact ofB (by with_unfolding_all rfl)|omega|(simp only [go_sem,bz];omega)) only [go_sem,Nat.reduceAdd,Nat.reduceBEq,hl]
theorem eqd (n:Nat) (k:Int) (h0:0≤k) (hk:k+n≤9223372036854775000) (hN:n<N):
 uz Φ N bzb [.sl true nz ((bkc k n).map eInt),.a (.int .i64 k)]=some ([.a (.int .i64 (k+n))],[]):=by
 rw [bq rfl]
 simp (maxSteps:=3000000) (implicitDefEqProofs:=false) (disch:=first|assumption|(refine ofR ?_;show norm _ _=_;kernel_rfl)|(refine ofR ?_;show okD _ _ _ _=true;kernel_rfl)|exact ofR (by with_unfolding_all rfl)|exact ofB (by with_unfolding_all rfl)|omega|(simp only [go_sem,bz];omega)) only [go_sem,Nat.reduceAdd,Nat.reduceBEq,bzb,hkc]
 rw [show norm _ _=(⟨[(0,.sz nz ((bkc k n).map eInt)),(1,.a (.int .i64 k)),(5,.a (.int .i64 0))],[],0⟩:St) from rfl,pke n k h0 hk hN]
 simp (maxSteps:=3000000) (implicitDefEqProofs:=false) (disch:=first|assumption|(refine ofR ?_;show norm _ _=_;kernel_rfl)|(refine ofR ?_;show okD _ _ _ _=true;kernel_rfl)|exact ofR (by with_unfolding_all rfl)|exact ofB (by with_unfolding_all rfl)|omega|(simp only [go_sem,bz];omega)) only [go_sem,Nat.reduceAdd,Nat.reduceBEq]
abbrev zI:PV:= .a (.int .i64 0)
theorem gqf (l:List Int) (hl:l.length≤1048576):
 mjb Φ fuel [0,3,4] zqb ⟨[(0,.sz nz (l.map eInt)),(3,.rf 0),(4,.a (.int .i64 0))],[(0,some (.sl false 0 nz (List.replicate l.length zI)))],1⟩=
 some (.ext 0,⟨[(0,.sz nz (l.map eInt)),(3,.rf 0),(4,.a (.int .i64 l.length)),(11,.a (.bool false))],[(0,some (.sl false 0 nz (l.map eInt)))],401⟩):=by
 rw [←rqe (g:=eInt)]
 refine lx (fun i=>⟨[(0,.sz nz (l.map eInt)),(3,.rf 0),(4,.a (.int .i64 (i:Nat)))],[(0,some (.sl false 0 nz (updR zI eInt i l)))],1⟩) _ (m:=l.length) (cq (by omega)) (fun i hi=> ?_) ?_
 ·obtain ⟨a,ha⟩: ∃a,l[i]? =some a:=⟨_,List.getElem?_eq_getElem hi⟩
  have hg:=eqf (z:=zI) (g:=eInt) ha
  have hs:=dqf (z:=zI) (g:=eInt) ha
  have hw:=vz i (by omega)
  rw [lxg] at hs
  unfold ij zqb
  simp (maxSteps:=3000000) (implicitDefEqProofs:=false) (disch:=first|assumption|(refine ofR ?_;show norm _ _=_;kernel_rfl)|(refine ofR ?_;show okD _ _ _ _=true;kernel_rfl)|exact ofR (by with_unfolding_all rfl)|exact ofB (by with_unfolding_all rfl)|omega|(simp only [go_sem,bz];omega)) only [go_sem,Nat.reduceAdd,Nat.reduceBEq,ha,hg,hs,hw]
  rfl
 ·unfold ij zqb
  simp (maxSteps:=3000000) (implicitDefEqProofs:=false) (disch:=first|assumption|(refine ofR ?_;show norm _ _=_;kernel_rfl)|(refine ofR ?_;show okD _ _ _ _=true;kernel_rfl)|exact ofR (by with_unfolding_all rfl)|exact ofB (by with_unfolding_all rfl)|omega|(simp only [go_sem,bz];omega)) only [go_sem,Nat.reduceAdd,Nat.reduceBEq,fqf]
theorem vze (l:List Int) (hl:l.length≤1048576):uz Φ fuel vjb [.sl true nz (l.map eInt)]=some ([.sl false nz (l.map eInt)],[]):=by
 have key:=gqf (Φ:=Φ) l hl
 rw [bq rfl]
 simp (maxSteps:=3000000) (implicitDefEqProofs:=false) (disch:=first|assumption|(refine ofR ?_;show norm _ _=_;kernel_rfl)|(refine ofR ?_;show okD _ _ _ _=true;kernel_rfl)|exact ofR (by with_unfolding_all rfl)|exact ofB (by with_unfolding_all rfl)|omega|(simp only [go_sem,bz];omega)) only [go_sem,Nat.reduceAdd,Nat.reduceBEq,vjb,ajd,dq key]
theorem wze (l:List Int) (k:Int) (h0:0≤k) (h1:k≤1048576) (hl:l.length<9223372036854000000):uz Φ N hzb [.sl true nz (l.map eInt),.a (.int .i64 k)]=some ([.a (.int .i64 (if k - l.length<0 then -1 else k - l.length))],[]):=by
 have hw:IntKind.i64.wrap (k -(l.length:Int))=k - l.length:=by rw [vzb]<;>omega
 rw [bq rfl]
 by_cases h:k -(l.length:Int)<0
 ·simp (maxSteps:=3000000) (implicitDefEqProofs:=false) (disch:=first|assumption|(refine ofR ?_;show norm _ _=_;kernel_rfl)|(refine ofR ?_;show okD _ _ _ _=true;kernel_rfl)|exact ofR (by with_unfolding_all rfl)|exact ofB (by with_unfolding_all rfl)|omega|(simp only [go_sem,bz];omega)) only [go_sem,Nat.reduceAdd,Nat.reduceBEq,hzb,xqc,hw,h]
 ·simp (maxSteps:=3000000) (implicitDefEqProofs:=false) (disch:=first|assumption|(refine ofR ?_;show norm _ _=_;kernel_rfl)|(refine ofR ?_;show okD _ _ _ _=true;kernel_rfl)|exact ofR (by with_unfolding_all rfl)|exact ofB (by with_unfolding_all rfl)|omega|(simp only [go_sem,bz];omega)) only [go_sem,Nat.reduceAdd,Nat.reduceBEq,hzb,xqc,hw,h]
end Go.Proofs.YtjdcidigbbbckaaDoor.VM
