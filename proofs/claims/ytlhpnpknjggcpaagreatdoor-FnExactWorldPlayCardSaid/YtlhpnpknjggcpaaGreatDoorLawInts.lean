/- The laws' own functions over numbers: copies, likeness, marks. -/
import Derived.Test.YtlhpnpknjggcpaaGreatDoorLawT
import Derived.Test.YtlhpnpknjggcpaaGreatDoorCode
import Derived.Test.YtlhpnpknjggcpaaGreatDoorLawU
open Nat renaming reduceAdd->Aa,reduceBEq->Ab
open List renaming getElem?_eq_getElem->Ac
namespace Go.Proofs.YtlhpnpknjggcpaaGreatDoor.VM
open Go Sy
variable {Φ:Nat→Option Callee} {N:Nat}
set_option maxRecDepth 100000
set_option maxHeartbeats 8000000
theorem qf5 (l:List Int) (hl:l.length<9223372036854775807) (hN:l.length<N) (r:List It):
  goP Φ N [0,1,5] vi3 r ⟨[(0,.sz vag (l.map vak)),(1,.sz vag (l.map vak)),(5,.a (.int .i64 0))],[],0⟩=
  goE Φ N r 0 [(0,.sz vag (l.map vak)),(1,.sz vag (l.map vak)),(5,.a (.int .i64 l.length)),(14,.a (.bool false))] [] 400:=by
 refine vpa (fun i=>⟨[(0,.sz vag (l.map vak)),(1,.sz vag (l.map vak)),(5,.a (.int .i64 (i:Nat)))],[],0⟩) ⟨_,_,_⟩ hN (fun i hi=> ?_) ?_
 ·obtain ⟨a,ha⟩:∃a,l[i]? =some a:=⟨_,Ac hi⟩
  have hw:=vaw i zo;unfold round vi3;simp -implicitDefEqProofs (disch:=first|exact zd|fail) only [go_sem,Aa,Ab,ha,hw]
  (show some _=some _;kernel_rfl)
 ·unfold round vi3;simp -implicitDefEqProofs (disch:=first|exact zd|fail) only [go_sem,Aa,Ab]
theorem vnx (l:List Int) (hl:l.length<9223372036854775807) (hN:l.length<N):vaf Φ N vhc [.sl true vag (l.map vak),.sl true vag (l.map vak)]=some ([.a (.bool true)],[]):=by
 rw [vab rfl];simp -implicitDefEqProofs (disch:=first|exact zd|fail) only [go_sem,Aa,Ab,vhc,vsv];rw [show norm _ _=(⟨[(0,.sz vag (l.map vak)),(1,.sz vag (l.map vak)),(5,.a (.int .i64 0))],[],0⟩:St) from rfl,qf5 l hl hN];simp -implicitDefEqProofs (disch:=first|exact zd|fail) only [go_sem,Aa,Ab]
def marks (k:Int) (n:Nat):List Int:=(List.range n).map fun (i:Nat)=>k+i
theorem qa0 (l:List Int) (k:Int) (h0:0≤k) (hk:k+l.length≤9223372036854775000) (hN:l.length<N) (r:List It):
  goP Φ N [0,1,5,10000] vfs r ⟨[(0,.rf 0),(1,.a (.int .i64 k)),(5,.a (.int .i64 0)),(10000,.rf 0)],[(0,some (.sl false 0 vag (l.map vak)))],1⟩=
  goE Φ N r 0 [(0,.rf 0),(1,.a (.int .i64 (k+l.length))),(5,.a (.int .i64 l.length)),(9,.a (.bool false)),(10000,.rf 0)] [(0,some (.sl false 0 vag ((marks k l.length).map vak)))] 401:=by
 have e0:l.map vak=updL (fun _ x=>vak x) (fun j _=>vak (k+(j:Nat))) 0 l:=by rw [vwg,vse]
 have e1:(marks k l.length).map vak=updL (fun _ x=>vak x) (fun j _=>vak (k+(j:Nat))) l.length l:=by
  rw [vzz];apply List.ext_getElem?;intro j;simp only [marks,List.map_map,List.getElem?_map,List.getElem?_mapIdx];by_cases h:j<l.length
  ·simp [h]
  ·simp [h]
 rw [e0,e1];have:=vpa (Φ:=Φ) (N:=N) (r:=r) (live:= [0,1,5,10000]) (b:=vfs) (id:=0) (fun i=>⟨[(0,.rf 0),(1,.a (.int .i64 (k+(i:Nat)))),(5,.a (.int .i64 (i:Nat))),(10000,.rf 0)],[(0,some (.sl false 0 vag (updL (fun _ x=>vak x) (fun j _=>vak (k+(j:Nat))) i l)))],1⟩)
  ⟨[(0,.rf 0),(1,.a (.int .i64 (k+l.length))),(5,.a (.int .i64 l.length)),(9,.a (.bool false)),(10000,.rf 0)],[(0,some (.sl false 0 vag (updL (fun _ x=>vak x) (fun j _=>vak (k+(j:Nat))) l.length l)))],401⟩ hN (fun i hi=> ?_) ?_
 ·simpa using this
 ·obtain ⟨a,ha⟩:∃a,l[i]? =some a:=⟨_,Ac hi⟩
  have hw:=vaw i zo;have hk1:IntKind.i64.wrap (k+(i:Int)+1)=k+((i+1:Nat):Int):=by rw [vay]<;>omega
  have hg:=vzn (f:=fun _ x=>vak x) (g:=fun j _=>vak (k+(j:Nat))) ha;have hs:=vzi (f:=fun _ x=>vak x) (g:=fun j _=>vak (k+(j:Nat))) ha;simp only [qce] at hg hs;unfold round vfs;simp -implicitDefEqProofs (disch:=first|exact zd|fail) only [go_sem,Aa,Ab,hg,hs,hw,hk1]
  (show some _=some _;kernel_rfl)
 ·unfold round vfs;simp -implicitDefEqProofs (disch:=first|exact zd|fail) only [go_sem,Aa,Ab]
theorem vlp (l:List Int) (k:Int) (h0:0≤k) (hk:k+l.length≤9223372036854775000) (hN:l.length<N):
  vaf Φ N vf3 [.sl false vag (l.map vak),.a (.int .i64 k)]=some ([.a (.int .i64 (k+l.length))],[.sl false vag ((marks k l.length).map vak)]):=by
 rw [vab rfl];simp -implicitDefEqProofs (disch:=first|exact zd|fail) only [go_sem,Aa,Ab,vf3,vqx];rw [show norm _ _=(⟨[(0,.rf 0),(1,.a (.int .i64 k)),(5,.a (.int .i64 0)),(10000,.rf 0)],[(0,some (.sl false 0 vag (l.map vak)))],1⟩:St) from rfl,qa0 l k h0 hk hN];simp -implicitDefEqProofs (disch:=first|exact zd|fail) only [go_sem,Aa,Ab]
theorem qar (n:Nat) (k:Int) (h0:0≤k) (hk:k+n≤9223372036854775000) (hN:n<N) (r:List It):
  goP Φ N [0,1,5] vfy r ⟨[(0,.sz vag ((marks k n).map vak)),(1,.a (.int .i64 k)),(5,.a (.int .i64 0))],[],0⟩=
  goE Φ N r 0 [(0,.sz vag ((marks k n).map vak)),(1,.a (.int .i64 (k+n))),(5,.a (.int .i64 n)),(9,.a (.bool false))] [] 400:=by
 have:=vpa (Φ:=Φ) (N:=N) (r:=r) (live:= [0,1,5]) (b:=vfy) (id:=0) (m:=n) (fun i=>⟨[(0,.sz vag ((marks k n).map vak)),(1,.a (.int .i64 (k+(i:Nat)))),(5,.a (.int .i64 (i:Nat)))],[],0⟩)
  ⟨[(0,.sz vag ((marks k n).map vak)),(1,.a (.int .i64 (k+n))),(5,.a (.int .i64 n)),(9,.a (.bool false))],[],400⟩ hN (fun i hi=> ?_) ?_
 ·simpa using this
 ·have ha:(marks k n)[i]? =some (k+i):=by simp [marks,hi]
  have hl:(marks k n).length=n:=by simp [marks]
  have hw:=vaw i zo;have hk1:IntKind.i64.wrap (k+(i:Int)+1)=k+((i+1:Nat):Int):=by rw [vay]<;>omega
  unfold round vfy;simp -implicitDefEqProofs (disch:=first|exact zd|fail) only [go_sem,Aa,Ab,ha,hl,hw,hk1]
  (show some _=some _;kernel_rfl)
 ·have hl:(marks k n).length=n:=by simp [marks]
  unfold round vfy;simp -implicitDefEqProofs (disch:=first|exact zd|fail) only [go_sem,Aa,Ab,hl]
theorem vtk (n:Nat) (k:Int) (h0:0≤k) (hk:k+n≤9223372036854775000) (hN:n<N):
  vaf Φ N vf5 [.sl true vag ((marks k n).map vak),.a (.int .i64 k)]=some ([.a (.int .i64 (k+n))],[]):=by
 rw [vab rfl];simp -implicitDefEqProofs (disch:=first|exact zd|fail) only [go_sem,Aa,Ab,vf5,vqw];rw [show norm _ _=(⟨[(0,.sz vag ((marks k n).map vak)),(1,.a (.int .i64 k)),(5,.a (.int .i64 0))],[],0⟩:St) from rfl,qar n k h0 hk hN];simp -implicitDefEqProofs (disch:=first|exact zd|fail) only [go_sem,Aa,Ab]
theorem qe9 (l:List Int) (hl:l.length≤1048576):
  vbt Φ vae [0,3,4] vi6 ⟨[(0,.sz vag (l.map vak)),(3,.rf 0),(4,.a (.int .i64 0))],[(0,some (.sl false 0 vag (List.replicate l.length zI)))],1⟩=
  some (.ext 0,⟨[(0,.sz vag (l.map vak)),(3,.rf 0),(4,.a (.int .i64 l.length)),(11,.a (.bool false))],[(0,some (.sl false 0 vag (l.map vak)))],401⟩):=by
 rw [←vs6 (g:=vak)];refine vbx (fun i=>⟨[(0,.sz vag (l.map vak)),(3,.rf 0),(4,.a (.int .i64 (i:Nat)))],[(0,some (.sl false 0 vag (updR zI vak i l)))],1⟩) _ (m:=l.length) (va1 zo) (fun i hi=> ?_) ?_
 ·obtain ⟨a,ha⟩:∃a,l[i]? =some a:=⟨_,Ac hi⟩
  have hg:=vvc (z:=zI) (g:=vak) ha;have hs:=vu8 (z:=zI) (g:=vak) ha;have hw:=vaw i zo;rw [qce] at hs;unfold round vi6;simp -implicitDefEqProofs (disch:=first|exact zd|fail) only [go_sem,Aa,Ab,ha,hg,hs,hw]
  (show some _=some _;kernel_rfl)
 ·unfold round vi6;simp -implicitDefEqProofs (disch:=first|exact zd|fail) only [go_sem,Aa,Ab,vuq]
theorem vn2 (l:List Int) (hl:l.length≤1048576):vaf Φ vae vhd [.sl true vag (l.map vak)]=some ([.sl false vag (l.map vak)],[]):=by
 have key:=qe9 (Φ:=Φ) l hl;rw [vab rfl];simp -implicitDefEqProofs (disch:=first|exact zd|fail) only [go_sem,Aa,Ab,vhd,vsw,va5 key]
theorem vrx (l:List Int) (k:Int) (h0:0≤k) (h1:k≤1048576) (hl:l.length<9223372036854000000):vaf Φ N vfx [.sl true vag (l.map vak),.a (.int .i64 k)]=some ([.a (.int .i64 (if k-l.length<0 then-1 else k-l.length))],[]):=by
 have hw:IntKind.i64.wrap (k-(l.length:Int))=k-l.length:=by rw [vay]<;>omega
 rw [vab rfl];by_cases h:k-(l.length:Int)<0
 ·simp -implicitDefEqProofs (disch:=first|exact zd|fail) only [go_sem,Aa,Ab,vfx,voc,hw,h]
 ·simp -implicitDefEqProofs (disch:=first|exact zd|fail) only [go_sem,Aa,Ab,vfx,voc,hw,h]
