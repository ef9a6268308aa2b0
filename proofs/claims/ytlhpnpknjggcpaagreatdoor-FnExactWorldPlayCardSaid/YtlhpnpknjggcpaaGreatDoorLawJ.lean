/- The laws' own functions over kinds and graphs: copies, sizes, likeness. Marks of texts and of graphs. The laws' own functions over acts and answers. The laws' own functions over plays of worlds. FnExactWorldPlay: what it computes. -/
import Derived.Test.YtlhpnpknjggcpaaGreatDoorLawT
import Derived.Test.YtlhpnpknjggcpaaGreatDoorLawInts
import Derived.Test.YtlhpnpknjggcpaaGreatDoorLawU
import Derived.Test.YtlhpnpknjggcpaaGreatDoorLawL
open Nat renaming reduceAdd->Aa,reduceBEq->Ab,zero_le->Ap,le_refl->Au
open List renaming getElem?_eq_getElem->Ac,mem_of_getElem?->Ad,length_map->Af,range->Ag,getElem?_set_self->Ah,getElem?_map->Ai,take_length->Aj,take_append_drop->Ak,mem_iff_getElem->Al,take_add_one->Am,length_cons->An,take_of_length_le->Ao,replicate->Aq,set_set->Ar,mem_map->At
open Go.IntKind renaming i64->Ae
namespace Go.Proofs.YtlhpnpknjggcpaaGreatDoor.VM
open Go Sy
variable {Φ:Nat→Option Callee} {N:Nat}
abbrev zS:PV:= .a (.string ⟨#[]⟩)
abbrev zObj:PV:= .st [zI,.sl vag []]
theorem qcr (l:List ByteArray) (hl:l.length≤1048576):
  vbt Φ vae [0,3,4] vin ⟨[(0,.sz vam (l.map eStr)),(3,.rf 0),(4,.a (.int .i64 0))],[(0,some (.sl false 0 vam (Aq l.length zS)))],1⟩=
  some (.ext 0,⟨[(0,.sz vam (l.map eStr)),(3,.rf 0),(4,.a (.int .i64 l.length)),(11,.a (.bool false))],[(0,some (.sl false 0 vam (l.map eStr)))],401⟩):=by
 rw [←vs6 (g:=eStr)];refine vbx (fun i=>⟨[(0,.sz vam (l.map eStr)),(3,.rf 0),(4,.a (.int .i64 (i:Nat)))],[(0,some (.sl false 0 vam (updR zS eStr i l)))],1⟩) _ (m:=l.length) (va1 zo) (fun i hi=> ?_) ?_
 ·obtain ⟨a,ha⟩:∃a,l[i]? =some a:=⟨_,Ac hi⟩
  have hg:=vvc (z:=zS) (g:=eStr) ha;have hs:=vu8 (z:=zS) (g:=eStr) ha;have hw:=vaw i zo;rw [qkb] at hs;unfold round vin;simp -implicitDefEqProofs (disch:=first|exact zd|fail) only [go_sem,Aa,Ab,ha,hg,hs,hw]
  (show some _=some _;kernel_rfl)
 ·unfold round vin;simp -implicitDefEqProofs (disch:=first|exact zd|fail) only [go_sem,Aa,Ab,vuq]
theorem qf3 (l:List ByteArray) (hl:l.length≤1048576):vaf Φ vae vgg [.sl true vam (l.map eStr)]=some ([.sl false vam (l.map eStr)],[]):=by
 have key:=qcr (Φ:=Φ) l hl;rw [vab rfl];simp -implicitDefEqProofs (disch:=first|exact zd|fail) only [go_sem,Aa,Ab,vgg,vrw,va5 key]
theorem qqi {d:Nat} (o:Obj') (hl:o.vals.length≤1048576):vaf (T (d+1)) vae vj5 [cObj true o]=some ([cObj false o],[]):=by
 have h:=vn2 (Φ:=T d) o.vals hl;rw [vab rfl];simp -implicitDefEqProofs (disch:=first|exact zd|fail) only [go_sem,Aa,Ab,vj5,vwb,h]
theorem qjk {d:Nat} (l:List Obj') (hl:l.length≤1048576) (hk:∀x∈l,x.vals.length≤1048576):
  vbt (T (d+2)) vae [0,3,4] vj9 ⟨[(0,.sz ve6 (l.map eObj)),(3,.rf 0),(4,.a (.int .i64 0))],[(0,some (.sl false 0 vai (Aq l.length zObj)))],1⟩=
  some (.ext 0,⟨[(0,.sz ve6 (l.map eObj)),(3,.rf 0),(4,.a (.int .i64 l.length)),(11,.a (.bool false))],[(0,some (.sl false 0 vai (l.map eObj)))],401⟩):=by
 rw [←vs6 (g:=eObj)];refine vbx (fun i=>⟨[(0,.sz ve6 (l.map eObj)),(3,.rf 0),(4,.a (.int .i64 (i:Nat)))],[(0,some (.sl false 0 vai (updR zObj eObj i l)))],1⟩) _ (m:=l.length) (va1 zo) (fun i hi=> ?_) ?_
 ·obtain ⟨a,ha⟩:∃a,l[i]? =some a:=⟨_,Ac hi⟩
  have hg:=vvc (z:=zObj) (g:=eObj) ha;have hs:=vu8 (z:=zObj) (g:=eObj) ha;rw [vln] at hs;have hc:=qqi (d:=d) a (hk a (Ad ha));have hw:=vaw i zo;unfold round vj9;simp -implicitDefEqProofs (disch:=first|exact zd|fail) only [go_sem,Aa,Ab,ha,hg,hs,hw,hc]
  (show some _=some _;kernel_rfl)
 ·unfold round vj9;simp -implicitDefEqProofs (disch:=first|exact zd|fail) only [go_sem,Aa,Ab,vuq]
theorem qme {d:Nat} (l:List Obj') (hl:l.length≤1048576) (hk:∀x∈l,x.vals.length≤1048576):vaf (T (d+2)) vae vix [.sl true ve6 (l.map eObj)]=some ([.sl false vai (l.map eObj)],[]):=by
 have key:=qjk (d:=d) l hl hk;rw [vab rfl];simp -implicitDefEqProofs (disch:=first|exact zd|fail) only [go_sem,Aa,Ab,vix,vvp,va5 key]
abbrev cGrL (g:Gr):CV:= .st [.sl true vag (g.roots.map vak),.sl true ve6 (g.nodes.map eObj)]
theorem qj1 {d:Nat} (g:Gr) (hr:g.roots.length≤1048576) (hn:g.nodes.length≤1048576) (hv:∀o∈g.nodes,o.vals.length≤1048576):vaf (T (d+3)) vae vib [cGrL g]=some ([cGr false g],[]):=by
 have h1:=vn2 (Φ:=T (d+2)) g.roots hr;have h2:=qme (d:=d) g.nodes hn hv;rw [vab rfl];simp -implicitDefEqProofs (disch:=first|exact zd|fail) only [go_sem,Aa,Ab,vib,vtw,h1,h2]
def tsum:List ByteArray→Nat
 | []=>0
 |s::l=>s.size+tsum l
theorem vyn (l m:List ByteArray):tsum (l++m)=tsum l+tsum m:=by
 induction l with
 |nil=>simp [tsum]
 |cons x l ih=>simp [tsum,ih];omega
theorem qew {l:List ByteArray} {i:Nat} {x:ByteArray} (h:l[i]? =some x):tsum (l.take (i+1))=tsum (l.take i)+x.size:=by
 rw [Am,h,vyn];simp [tsum]
theorem qkf {l:List ByteArray} {i:Nat} {x:ByteArray} (h:l[i]? =some x):tsum (l.take i)+x.size≤tsum l:=by
 rw [←qew h]
 conv=>rhs;rw [←Ak (i+1) l]
 rw [vyn];omega
theorem qwb {l:List ByteArray} {x:ByteArray} (h:x∈l):x.size≤tsum l:=by
 obtain ⟨i,hi,rfl⟩:=Al.1 h;have:=qkf (Ac hi);omega
def vsum:List Obj'→Nat
 | []=>0
 |x::l=>x.vals.length+vsum l
theorem vys (l m:List Obj'):vsum (l++m)=vsum l+vsum m:=by
 induction l with
 |nil=>simp [vsum]
 |cons x l ih=>simp [vsum,ih];omega
theorem qej {l:List Obj'} {i:Nat} {x:Obj'} (h:l[i]? =some x):vsum (l.take (i+1))=vsum (l.take i)+x.vals.length:=by
 rw [Am,h,vys];simp [vsum]
theorem qj9 {l:List Obj'} {i:Nat} {x:Obj'} (h:l[i]? =some x):vsum (l.take i)+x.vals.length≤vsum l:=by
 rw [←qej h]
 conv=>rhs;rw [←Ak (i+1) l]
 rw [vys];omega
theorem qxh {l:List Obj'} {x:Obj'} (h:x∈l):x.vals.length≤vsum l:=by
 obtain ⟨i,hi,rfl⟩:=Al.1 h;have:=qj9 (Ac hi);omega
theorem qc9 (l:List ByteArray) (k:Int) (h0:0≤k) (h1:k≤1048576) (hl:l.length≤1048576) (hk:∀x∈l,x.size<9223372036854000000):
  vbt Φ vae [0,1,5] vex ⟨[(0,.sz vam (l.map eStr)),(1,.a (.int .i64 k)),(5,.a (.int .i64 0))],[],0⟩=
  some (if k-tsum l<0 then (.ret,⟨[(4,.a (.int .i64 (-1)))],[],1500⟩) else (.ext 0,⟨[(0,.sz vam (l.map eStr)),(1,.a (.int .i64 (k-tsum l))),(5,.a (.int .i64 l.length)),(15,.a (.bool false))],[],400⟩)):=by
 have:=vc4 (Φ:=Φ) (N:=vae) (live:= [0,1,5]) (b:=vex) (fun i=>⟨[(0,.sz vam (l.map eStr)),(1,.a (.int .i64 (k-(tsum (l.take i):Nat)))),(5,.a (.int .i64 (i:Nat)))],[],0⟩)
  (if k-tsum l<0 then (.ret,⟨[(4,.a (.int .i64 (-1)))],[],1500⟩) else (.ext 0,⟨[(0,.sz vam (l.map eStr)),(1,.a (.int .i64 (k-tsum l))),(5,.a (.int .i64 l.length)),(15,.a (.bool false))],[],400⟩))
  (fun i=>0≤k-(tsum (l.take i):Nat)) (m:=l.length) (va1 zo) (by simp [tsum];exact h0) (by split<;>simp) (fun i hi hp=> ?_)
 ·simpa [tsum] using this
 by_cases hi':i<l.length
 ·obtain ⟨x,hx⟩:∃a,l[i]? =some a:=⟨_,Ac hi'⟩
  have ht:=qew hx;have hle:=qkf hx;have hw:=vaw i zo;have hxs:=hk x (Ad hx);have he:k-(tsum (l.take i):Nat)-(x.size:Nat)=k-(tsum (l.take (i+1)):Nat):=by rw [ht];omega
  have hww:Ae.wrap (k-(tsum (l.take i):Nat)-(x.size:Nat))=k-(tsum (l.take (i+1)):Nat):=by rw [←he,vay]<;>omega
  clear he;by_cases hn:k-(tsum (l.take (i+1)):Nat)<0
  ·right;rw [if_pos zo];unfold round vex;simp -implicitDefEqProofs (disch:=first|exact zd|fail) only [go_sem,Aa,Ab,hx,hww,hn]
  ·left;refine ⟨hi',?_,by omega⟩;unfold round vex;simp -implicitDefEqProofs (disch:=first|exact zd|fail) only [go_sem,Aa,Ab,hx,hww,hw,hn]
   (show some _=some _;kernel_rfl)
 ·right;obtain rfl:i=l.length:=by omega
  rw [Aj] at hp⊢;rw [if_neg zo];unfold round vex;simp -implicitDefEqProofs (disch:=first|exact zd|fail) only [go_sem,Aa,Ab]
theorem qfi (l:List ByteArray) (k:Int) (h0:0≤k) (h1:k≤1048576) (hl:l.length<9223372036854000000) (hk:∀x∈l,x.size<9223372036854000000):
  vaf Φ vae vei [.sl true vam (l.map eStr),.a (.int .i64 k)]=some ([.a (.int .i64 (if k-l.length-tsum l<0 then-1 else k-l.length-tsum l))],[]):=by
 have hw:Ae.wrap (k-(l.length:Int))=k-l.length:=by rw [vay]<;>omega
 rw [vab rfl];by_cases hn:k-(l.length:Int)<0
 ·have hn':k-(l.length:Int)-tsum l<0:=by omega
  rw [if_pos hn'];simp -implicitDefEqProofs (disch:=first|exact zd|fail) only [go_sem,Aa,Ab,vei,vkk,hw]
 ·have key:=qc9 (Φ:=Φ) l (k-l.length) zo zo zo hk;by_cases hn':k-(l.length:Int)-tsum l<0
  ·rw [if_pos hn'] at key⊢;simp -implicitDefEqProofs (disch:=first|exact zd|fail) only [go_sem,Aa,Ab,vei,vkk,hw,vgq key]
  ·rw [if_neg hn'] at key⊢;simp -implicitDefEqProofs (disch:=first|exact zd|fail) only [go_sem,Aa,Ab,vei,vkk,hw,va5 key]
theorem qof {d:Nat} (x:Obj') (k:Int) (h0:0≤k) (h1:k≤1048576) (hl:x.vals.length<9223372036854000000):vaf (T (d+1)) vae vii [cObj true x,.a (.int .i64 k)]=
  some ([.a (.int .i64 (if k-x.vals.length<0 then-1 else k-x.vals.length))],[]):=by
 have h:=vrx (Φ:=T d) (N:=vae) x.vals k h0 h1 hl;rw [vab rfl];by_cases hk:k-(x.vals.length:Int)<0
 ·rw [if_pos hk] at h⊢;simp -implicitDefEqProofs (disch:=first|exact zd|fail) only [go_sem,Aa,Ab,vii,vre,h]
 ·rw [if_neg hk] at h⊢;simp -implicitDefEqProofs (disch:=first|exact zd|fail) only [go_sem,Aa,Ab,vii,vre,h]
theorem qjt {d:Nat} (l:List Obj') (k:Int) (h0:0≤k) (h1:k≤1048576) (hl:l.length≤1048576) (hk:∀x∈l,x.vals.length<9223372036854000000):
  vbt (T (d+2)) vae [0,1,5] vgp ⟨[(0,.sz ve6 (l.map eObj)),(1,.a (.int .i64 k)),(5,.a (.int .i64 0))],[],0⟩=
  some (if k-vsum l<0 then (.ret,⟨[(4,.a (.int .i64 (-1)))],[],1400⟩) else (.ext 0,⟨[(0,.sz ve6 (l.map eObj)),(1,.a (.int .i64 (k-vsum l))),(5,.a (.int .i64 l.length)),(15,.a (.bool false))],[],400⟩)):=by
 have:=vc4 (Φ:=T (d+2)) (N:=vae) (live:= [0,1,5]) (b:=vgp) (fun i=>⟨[(0,.sz ve6 (l.map eObj)),(1,.a (.int .i64 (k-(vsum (l.take i):Nat)))),(5,.a (.int .i64 (i:Nat)))],[],0⟩)
  (if k-vsum l<0 then (.ret,⟨[(4,.a (.int .i64 (-1)))],[],1400⟩) else (.ext 0,⟨[(0,.sz ve6 (l.map eObj)),(1,.a (.int .i64 (k-vsum l))),(5,.a (.int .i64 l.length)),(15,.a (.bool false))],[],400⟩))
  (fun i=>0≤k-(vsum (l.take i):Nat)) (m:=l.length) (va1 zo) (by simp [vsum];exact h0) (by split<;>simp) (fun i hi hp=> ?_)
 ·simpa [vsum] using this
 by_cases hi':i<l.length
 ·obtain ⟨x,hx⟩:∃a,l[i]? =some a:=⟨_,Ac hi'⟩
  have ht:=qej hx;have hle:=qj9 hx;have hw:=vaw i zo;have hc:=qof (d:=d) x (k-(vsum (l.take i):Nat)) hp zo (hk x (Ad hx));have he:k-(vsum (l.take i):Nat)-(x.vals.length:Nat)=k-(vsum (l.take (i+1)):Nat):=by rw [ht];omega
  rw [he] at hc;by_cases hn:k-(vsum (l.take (i+1)):Nat)<0
  ·right;rw [if_pos hn] at hc;rw [if_pos zo];unfold round vgp;simp -implicitDefEqProofs (disch:=first|exact zd|fail) only [go_sem,Aa,Ab,hx,hc]
  ·left;rw [if_neg hn] at hc;refine ⟨hi',?_,by omega⟩;unfold round vgp;simp -implicitDefEqProofs (disch:=first|exact zd|fail) only [go_sem,Aa,Ab,hx,hc,hw]
   (show some _=some _;kernel_rfl)
 ·right;obtain rfl:i=l.length:=by omega
  rw [Aj] at hp⊢;rw [if_neg zo];unfold round vgp;simp -implicitDefEqProofs (disch:=first|exact zd|fail) only [go_sem,Aa,Ab]
theorem qls {d:Nat} (l:List Obj') (k:Int) (h0:0≤k) (h1:k≤1048576) (hl:l.length<9223372036854000000) (hk:∀x∈l,x.vals.length<9223372036854000000):
  vaf (T (d+2)) vae vf8 [.sl true ve6 (l.map eObj),.a (.int .i64 k)]=some ([.a (.int .i64 (if k-l.length-vsum l<0 then-1 else k-l.length-vsum l))],[]):=by
 have hw:Ae.wrap (k-(l.length:Int))=k-l.length:=by rw [vay]<;>omega
 rw [vab rfl];by_cases hn:k-(l.length:Int)<0
 ·have hn':k-(l.length:Int)-vsum l<0:=by omega
  rw [if_pos hn'];simp -implicitDefEqProofs (disch:=first|exact zd|fail) only [go_sem,Aa,Ab,vf8,vmh,hw]
 ·have key:=qjt (d:=d) l (k-l.length) zo zo zo hk;by_cases hn':k-(l.length:Int)-vsum l<0
  ·rw [if_pos hn'] at key⊢;simp -implicitDefEqProofs (disch:=first|exact zd|fail) only [go_sem,Aa,Ab,vf8,vmh,hw,vgq key]
  ·rw [if_neg hn'] at key⊢;simp -implicitDefEqProofs (disch:=first|exact zd|fail) only [go_sem,Aa,Ab,vf8,vmh,hw,va5 key]
def gsum (g:Gr):Nat:=g.roots.length+g.nodes.length+vsum g.nodes
theorem qi3 {d:Nat} (g:Gr) (k:Int) (h0:0≤k) (h1:k≤1048576) (hr:g.roots.length<9223372036854000000) (hl:g.nodes.length<9223372036854000000) (hk:∀x∈g.nodes,x.vals.length<9223372036854000000):
  vaf (T (d+3)) vae vfh [cGrL g,.a (.int .i64 k)]=some ([.a (.int .i64 (if k-gsum g<0 then-1 else k-gsum g))],[]):=by
 have g1:=vrx (Φ:=T (d+2)) (N:=vae) g.roots k h0 h1 hr;rw [vab rfl];unfold gsum;by_cases c1:k-(g.roots.length:Int)<0
 ·rw [if_pos c1] at g1;rw [if_pos zo];simp -implicitDefEqProofs (disch:=first|exact zd|fail) only [go_sem,Aa,Ab,vfh,vll,g1]
 ·rw [if_neg c1] at g1;have g2:=qls (d:=d) g.nodes (k-g.roots.length) zo zo hl hk;have e:k-((g.roots.length+g.nodes.length+vsum g.nodes:Nat):Int)=k-g.roots.length-g.nodes.length-vsum g.nodes:=by omega
  rw [e];by_cases c2:k-(g.roots.length:Int)-g.nodes.length-vsum g.nodes<0
  ·rw [if_pos c2] at g2⊢;simp -implicitDefEqProofs (disch:=first|exact zd|fail) only [go_sem,Aa,Ab,vfh,vll,g1,g2]
  ·rw [if_neg c2] at g2⊢;simp -implicitDefEqProofs (disch:=first|exact zd|fail) only [go_sem,Aa,Ab,vfh,vll,g1,g2]
theorem qdo (l:List ByteArray) (hl:l.length≤1048576):
  vbt Φ vae [0,1,5] vio ⟨[(0,.sz vam (l.map eStr)),(1,.sz vam (l.map eStr)),(5,.a (.int .i64 0))],[],0⟩=
  some (.ext 0,⟨[(0,.sz vam (l.map eStr)),(1,.sz vam (l.map eStr)),(5,.a (.int .i64 l.length)),(14,.a (.bool false))],[],400⟩):=by
 refine vbx (fun i=>⟨[(0,.sz vam (l.map eStr)),(1,.sz vam (l.map eStr)),(5,.a (.int .i64 (i:Nat)))],[],0⟩) _ (m:=l.length) (va1 zo) (fun i hi=> ?_) ?_
 ·obtain ⟨a,ha⟩:∃a,l[i]? =some a:=⟨_,Ac hi⟩
  have hw:=vaw i zo;unfold round vio;have hne:decide (a≠a)=false:=decide_eq_false fun h=>h rfl;simp -implicitDefEqProofs (disch:=first|exact zd|fail) only [go_sem,Aa,Ab,ha,hw,hne]
  (show some _=some _;kernel_rfl)
 ·unfold round vio;simp -implicitDefEqProofs (disch:=first|exact zd|fail) only [go_sem,Aa,Ab]
theorem qft (l:List ByteArray) (hl:l.length≤1048576):vaf Φ vae vgn [.sl true vam (l.map eStr),.sl true vam (l.map eStr)]=some ([.a (.bool true)],[]):=by
 have key:=qdo (Φ:=Φ) l hl;rw [vab rfl];simp -implicitDefEqProofs (disch:=first|exact zd|fail) only [go_sem,Aa,Ab,vgn,vr0,va5 key]
theorem qp0 {d:Nat} (x:Obj') (hl:x.vals.length≤1048576):vaf (T (d+1)) vae vjw [cObj true x,cObj true x]=some ([.a (.bool true)],[]):=by
 have h:=vnx (Φ:=T d) (N:=vae) x.vals zo (va1 zo);rw [vab rfl];simp -implicitDefEqProofs (disch:=first|exact zd|fail) only [go_sem,Aa,Ab,vjw,vxf,h]
theorem qi7 {d:Nat} (l:List Obj') (hl:l.length≤1048576) (hk:∀x∈l,x.vals.length≤1048576):
  vbt (T (d+2)) vae [0,1,5] vkj ⟨[(0,.sz vai (l.map eObj)),(1,.sz vai (l.map eObj)),(5,.a (.int .i64 0))],[],0⟩=
  some (.ext 0,⟨[(0,.sz vai (l.map eObj)),(1,.sz vai (l.map eObj)),(5,.a (.int .i64 l.length)),(14,.a (.bool false))],[],400⟩):=by
 refine vbx (fun i=>⟨[(0,.sz vai (l.map eObj)),(1,.sz vai (l.map eObj)),(5,.a (.int .i64 (i:Nat)))],[],0⟩) _ (m:=l.length) (va1 zo) (fun i hi=> ?_) ?_
 ·obtain ⟨a,ha⟩:∃a,l[i]? =some a:=⟨_,Ac hi⟩
  have hc:=qp0 (d:=d) a (hk a (Ad ha));have hw:=vaw i zo;unfold round vkj;simp -implicitDefEqProofs (disch:=first|exact zd|fail) only [go_sem,Aa,Ab,ha,hc,hw]
  (show some _=some _;kernel_rfl)
 ·unfold round vkj;simp -implicitDefEqProofs (disch:=first|exact zd|fail) only [go_sem,Aa,Ab]
theorem qly {d:Nat} (l:List Obj') (hl:l.length≤1048576) (hk:∀x∈l,x.vals.length≤1048576):vaf (T (d+2)) vae viy [.sl true vai (l.map eObj),.sl true vai (l.map eObj)]=some ([.a (.bool true)],[]):=by
 have key:=qi7 (d:=d) l hl hk;rw [vab rfl];simp -implicitDefEqProofs (disch:=first|exact zd|fail) only [go_sem,Aa,Ab,viy,vvs,va5 key]
theorem vtg {d:Nat} (g:Gr) (hr:g.roots.length≤1048576) (hn:g.nodes.length≤1048576) (hv:∀o∈g.nodes,o.vals.length≤1048576):vaf (T (d+3)) vae vh3 [cGr true g,cGr true g]=some ([.a (.bool true)],[]):=by
 have h1:=vnx (Φ:=T (d+2)) (N:=vae) g.roots zo (va1 zo);have h2:=qly (d:=d) g.nodes hn hv;rw [vab rfl];simp -implicitDefEqProofs (disch:=first|exact zd|fail) only [go_sem,Aa,Ab,vh3,vtx,h1,h2]
end Go.Proofs.YtlhpnpknjggcpaaGreatDoor.VM
namespace Go.Proofs.YtlhpnpknjggcpaaGreatDoor.VM
open Go Sy
variable {Φ:Nat→Option Callee} {N:Nat}
theorem qfx (k:Nat) (hk:k≤4000000):∃e,(∃s:ByteArray,s.size≤k∧e=⟨[(0,.a (.int .i64 (0:Nat))),(3,.a (.string s)),(7,.a (.bool false))],[],200⟩)∧vbt Φ vae [0,3] vi8 ⟨[(0,.a (.int .i64 (k:Nat))),(3,.a (.string ⟨#[]⟩))],[],0⟩=some (.ext 0,e):=by
 refine vpd (fun m t=>∃(j:Nat) (s:ByteArray),j≤m∧s.size+j≤k∧t=⟨[(0,.a (.int .i64 (j:Nat))),(3,.a (.string s))],[],0⟩) 0 _ (m:=k)
  (va1 zo) ⟨k,⟨#[]⟩,Au _,by show 0+k≤k;omega,rfl⟩ ?_
 rintro m t hm ⟨j,s,hj,hs,rfl⟩
 by_cases c:0<j
 ·left;have hc:(j:Int)>0:=by omega
  have h10:Int.tmod (j:Int) 10=((j%10:Nat):Int):=(Int.ofNat_tmod j 10).symm;have w1:Ae.wrap (48+((j%10:Nat):Int))=((48+j%10:Nat):Int):=by rw [vay]<;>omega
  have hq:Int.tdiv (j:Int) 10=((j/10:Nat):Int):=(Int.ofNat_tdiv j 10).symm;have w2:Ae.wrap ((j/10:Nat):Int)=((j/10:Nat):Int):=by rw [vay]<;>omega
  refine ⟨by omega,_,?_,j/10,⟨[UInt8.ofNat (IntKind.u8.wrap ((48+j%10:Nat):Int)).toNat].toArray⟩++s,by omega,?_,rfl⟩
  ·unfold round vi8;simp -implicitDefEqProofs (disch:=first|exact zd|fail) only [go_sem,Aa,Ab,hc,h10,w1,hq,w2]
   (show some _=some _;kernel_rfl)
  ·rw [ByteArray.size_append];show 1+s.size+j/10≤k;omega
 ·right;have:j=0:=by omega
  subst this;refine ⟨_,?_,s,by omega,rfl⟩;unfold round vi8;simp -implicitDefEqProofs (disch:=first|exact zd|fail) only [go_sem,Aa,Ab,Int.ofNat_zero]
theorem qic (k:Nat) (hk:k≤4000000):∃s:ByteArray,s.size≤4000001∧vaf Φ vae vft [.a (.int .i64 k)]=some ([.a (.string s)],[]):=by
 obtain ⟨_,⟨s,hs,rfl⟩,he⟩:=qfx (Φ:=Φ) k hk;rw [vab rfl];by_cases c:(k:Int)≤0
 ·refine ⟨⟨#[109,48]⟩,by show 2≤_;omega,?_⟩;simp -implicitDefEqProofs (disch:=first|exact zd|fail) only [go_sem,Aa,Ab,vft,vn4,c]
 ·refine ⟨⟨#[109]⟩++s,by rw [ByteArray.size_append];show 1+s.size≤_;omega,?_⟩;simp -implicitDefEqProofs (disch:=first|exact zd|fail) only [go_sem,Aa,Ab,vft,vn4,c,va5 he]
theorem vzk {d:Nat} (l:List ByteArray) (k:Nat) (hk:k+l.length≤4000000):∃e,(∃m:List ByteArray,m.length=l.length∧e=⟨[(0,.rf 0),(1,.a (.int .i64 ((k+l.length:Nat):Int))),(5,.a (.int .i64 (l.length:Nat))),(9,.a (.bool false)),(10000,.rf 0)],[(0,some (.sl false 0 vam (m.map eStr)))],401⟩)∧
  vbt (T (d+1)) vae [0,1,5,10000] vg9 ⟨[(0,.rf 0),(1,.a (.int .i64 (k:Nat))),(5,.a (.int .i64 (0:Nat))),(10000,.rf 0)],[(0,some (.sl false 0 vam (l.map eStr)))],1⟩=some (.ext 0,e):=by
 refine vpd (fun r t=>∃(i:Nat) (m:List ByteArray),i+r=l.length∧m.length=l.length∧t=⟨[(0,.rf 0),(1,.a (.int .i64 ((k+i:Nat):Int))),(5,.a (.int .i64 (i:Nat))),(10000,.rf 0)],[(0,some (.sl false 0 vam (m.map eStr)))],1⟩) 0 _ (m:=l.length)
  (va1 zo) ⟨0,l,by omega,rfl,rfl⟩ ?_
 rintro r t hr ⟨i,m,hi,hm,rfl⟩
 by_cases c:0<r
 ·left;obtain ⟨a,ha⟩:∃a,m[i]? =some a:=⟨_,Ac zo⟩
  obtain ⟨s,hs,he⟩:=qic (Φ:=T d) (k+i) zo;have hw:=vaw i zo;have hw2:=vaw (k+i) zo;have hset:(m.map eStr).set i (.a (.string s))=(m.set i s).map eStr:=by rw [List.map_set];rfl
  refine ⟨c,_,?_,i+1,m.set i s,by omega,by simp [hm],rfl⟩;unfold round vg9;simp -implicitDefEqProofs (disch:=first|exact zd|fail) only [go_sem,Aa,Ab,ha,he,hw,hw2,hset]
  (show some _=some _;kernel_rfl)
 ·right;have:i=l.length:=by omega
  subst this;refine ⟨_,?_,m,hm,rfl⟩;unfold round vg9;simp -implicitDefEqProofs (disch:=first|exact zd|fail) only [go_sem,Aa,Ab,hm]
theorem qbt {d:Nat} (l:List ByteArray) (k:Nat) (hk:k+l.length≤4000000):∃m:List ByteArray,vaf (T (d+1)) vae vfe [.sl false vam (l.map eStr),.a (.int .i64 k)]=some ([.a (.int .i64 ((k+l.length:Nat):Int))],[.sl false vam (m.map eStr)]):=by
 obtain ⟨_,⟨m,hm,rfl⟩,he⟩:=vzk (d:=d) l k hk;refine ⟨m,?_⟩;rw [vab rfl];simp -implicitDefEqProofs (disch:=first|exact zd|fail) only [go_sem,Aa,Ab,vfe,vpw,va5 he]
def mObj (k:Int) (n:Nat):PV:= .st [vak k,.sl vag ((marks (k+1) n).map vak)]
theorem qj5 (k:Int) (n:Nat):mObj k n= .st [.a (.int .i64 k),.sl vag ((marks (k+1) n).map vak)]:=rfl
def wObj (n:Nat):Nat:=1+n
def lens (l:List Obj'):List Nat:=l.map fun x=>x.vals.length
theorem qtc {l:List Obj'} {i:Nat} {x:Obj'} (h:l[i]? =some x):(lens l)[i]? =some x.vals.length:=by rw [lens,Ai,h];rfl
theorem vpu (l:List Obj'):(lens l).length=l.length:=Af _
theorem vwf (l:List Obj'):wsum wObj (lens l)=l.length+vsum l:=by
 induction l with
 |nil=>rfl
 |cons x l ih=>
  show wObj x.vals.length+wsum wObj (lens l)=_;rw [ih,vsum,An,wObj];omega
theorem qfq {d:Nat} (l:List Obj') (k:Int) (h0:0≤k) (hk:k+wsum wObj (lens l)≤9223372036854775000) (hl:l.length≤1048576) (hx:∀x∈l,x.vals.length≤1048576):
  vbt (T (d+1)) vae [0,1,5,10000] vg6 ⟨[(0,.rf 0),(1,.a (.int .i64 k)),(5,.a (.int .i64 0)),(10000,.rf 0)],[(0,some (.sl false 0 vai (l.map eObj)))],1⟩=
  some (.ext 0,⟨[(0,.rf 0),(1,.a (.int .i64 (k+wsum wObj (lens l)))),(5,.a (.int .i64 l.length)),(9,.a (.bool false)),(10000,.rf 0)],[(0,some (.sl false 0 vai (marksOf mObj wObj k (lens l))))],401⟩):=by
 have hM:(marksOf mObj wObj k (lens l)).length=(l.map eObj).length:=by rw [vo8,vpu,Af]
 have:=vbx (Φ:=T (d+1)) (N:=vae) (live:= [0,1,5,10000]) (b:=vg6) (id:=0) (fun i=>⟨[(0,.rf 0),(1,.a (.int .i64 (k+(wsum wObj ((lens l).take i):Nat)))),(5,.a (.int .i64 (i:Nat))),(10000,.rf 0)],[(0,some (.sl false 0 vai (mix (marksOf mObj wObj k (lens l)) (l.map eObj) i)))],1⟩)
  ⟨[(0,.rf 0),(1,.a (.int .i64 (k+wsum wObj (lens l)))),(5,.a (.int .i64 l.length)),(9,.a (.bool false)),(10000,.rf 0)],[(0,some (.sl false 0 vai (marksOf mObj wObj k (lens l))))],401⟩ (m:=l.length) (va1 zo) (fun i hi=> ?_) ?_
 ·simpa [qhd,wsum] using this
 ·obtain ⟨x,hx'⟩:∃a,l[i]? =some a:=⟨_,Ac hi⟩
  have hkx:=qtc hx';have hle:=qcl (w:=wObj) hkx;have ht:=vs1 (w:=wObj) hkx;have hkeep:=hx x (Ad hx');have hw:wObj x.vals.length=1+x.vals.length:=rfl;have hg:(mix (marksOf mObj wObj k (lens l)) (l.map eObj) i)[i]? =some (eObj x):=qli hM (by rw [Ai,hx'];rfl);have hs:=qk1 (i:=i) hM (vte (m:=mObj) (w:=wObj) (k:=k) hkx);have hlen:(mix (marksOf mObj wObj k (lens l)) (l.map eObj) i).length=l.length:=by rw [qbf hM,Af]
  have hlt:i<(mix (marksOf mObj wObj k (lens l)) (l.map eObj) i).length:=by rw [hlen];exact hi
  have e1:k+(wsum wObj ((lens l).take (i+1)):Nat)=k+(wsum wObj ((lens l).take i):Nat)+1+(x.vals.length:Nat):=by rw [ht,hw];omega
  rw [←hs,e1,qj5];have hK:k+(wsum wObj ((lens l).take i):Nat)+1+x.vals.length≤9223372036854775000:=by omega
  have hK0:0≤k+(wsum wObj ((lens l).take i):Nat):=by omega
  clear e1 hs hle ht hw;rw [vln] at hg;generalize k+(wsum wObj ((lens l).take i):Nat)=K at *;generalize mix (marksOf mObj wObj k (lens l)) (l.map eObj) i=Z at *;have hw:=vaw i zo;have w1:Ae.wrap (K+1)=K+1:=vay _ zo zo;have hc:=vlp (Φ:=T d) (N:=vae) x.vals (K+1) zo zo (va1 zo);unfold round vg6;simp -implicitDefEqProofs (disch:=first|exact zd|fail) only [go_sem,Aa,Ab,hg,hw,w1,hc,hlen,Ah hlt,Ar]
  (show some _=some _;kernel_rfl)
 ·rw [show (lens l).take l.length=lens l from by rw [Ao];rw [vpu];omega,qkg hM (by rw [Af])];have hl':(marksOf mObj wObj k (lens l)).length=l.length:=by rw [hM,Af]
  unfold round vg6;simp -implicitDefEqProofs (disch:=first|exact zd|fail) only [go_sem,Aa,Ab,hl']
theorem qg1 {d:Nat} (l:List Obj') (k:Int) (h0:0≤k) (hk:k+wsum wObj (lens l)≤9223372036854775000) (hl:l.length≤1048576) (hx:∀x∈l,x.vals.length≤1048576):
  vaf (T (d+1)) vae vha [.sl false vai (l.map eObj),.a (.int .i64 k)]=some ([.a (.int .i64 (k+wsum wObj (lens l)))],[.sl false vai (marksOf mObj wObj k (lens l))]):=by
 have key:=qfq (d:=d) l k h0 hk hl hx;rw [vab rfl];simp -implicitDefEqProofs (disch:=first|exact zd|fail) only [go_sem,Aa,Ab,vha,vsq,va5 key]
theorem qe6 {d:Nat} (ns:List Nat) (k:Int) (h0:0≤k) (hk:k+wsum wObj ns≤9223372036854775000) (hl:ns.length≤1048576) (hx:∀n∈ns,n≤1048576):
  vbt (T (d+1)) vae [0,1,5] vg4 ⟨[(0,.sz vai (marksOf mObj wObj k ns)),(1,.a (.int .i64 k)),(5,.a (.int .i64 0))],[],0⟩=
  some (.ext 0,⟨[(0,.sz vai (marksOf mObj wObj k ns)),(1,.a (.int .i64 (k+wsum wObj ns))),(5,.a (.int .i64 ns.length)),(9,.a (.bool false))],[],400⟩):=by
 have hM:(marksOf mObj wObj k ns).length=ns.length:=vo8;have:=vbx (Φ:=T (d+1)) (N:=vae) (live:= [0,1,5]) (b:=vg4) (id:=0) (fun i=>⟨[(0,.sz vai (marksOf mObj wObj k ns)),(1,.a (.int .i64 (k+(wsum wObj (ns.take i):Nat)))),(5,.a (.int .i64 (i:Nat)))],[],0⟩)
  ⟨[(0,.sz vai (marksOf mObj wObj k ns)),(1,.a (.int .i64 (k+wsum wObj ns))),(5,.a (.int .i64 ns.length)),(9,.a (.bool false))],[],400⟩ (m:=ns.length) (va1 zo) (fun i hi=> ?_) ?_
 ·simpa [wsum] using this
 ·obtain ⟨n,hn⟩:∃a,ns[i]? =some a:=⟨_,Ac hi⟩
  have hle:=qcl (w:=wObj) hn;have ht:=vs1 (w:=wObj) hn;have hw:wObj n=1+n:=rfl;have hn':=hx n (Ad hn);have hg:=vte (m:=mObj) (w:=wObj) (k:=k) hn;have e1:k+(wsum wObj (ns.take (i+1)):Nat)=k+(wsum wObj (ns.take i):Nat)+1+(n:Nat):=by rw [ht,hw];omega
  have hK:k+(wsum wObj (ns.take i):Nat)+1+n≤9223372036854775000:=by omega
  have hK0:0≤k+(wsum wObj (ns.take i):Nat):=by omega
  rw [e1];clear e1 hle ht hw;rw [qj5] at hg;generalize k+(wsum wObj (ns.take i):Nat)=K at *;generalize marksOf mObj wObj k ns=Z at *;have hw:=vaw i zo;have w1:Ae.wrap (K+1)=K+1:=vay _ zo zo;have hc:=vtk (Φ:=T d) (N:=vae) n (K+1) zo zo (va1 zo);have hge:¬K+1+(n:Int)<0:=by omega
  unfold round vg4;simp -implicitDefEqProofs (disch:=first|exact zd|fail) only [go_sem,Aa,Ab,hg,hw,w1,hc,hM,hge]
  (show some _=some _;kernel_rfl)
 ·rw [show ns.take ns.length=ns from Aj];unfold round vg4;simp -implicitDefEqProofs (disch:=first|exact zd|fail) only [go_sem,Aa,Ab,hM]
theorem qh3 {d:Nat} (ns:List Nat) (k:Int) (h0:0≤k) (hk:k+wsum wObj ns≤9223372036854775000) (hl:ns.length≤1048576) (hx:∀n∈ns,n≤1048576):
  vaf (T (d+1)) vae vhh [.sl true vai (marksOf mObj wObj k ns),.a (.int .i64 k)]=some ([.a (.int .i64 (k+wsum wObj ns))],[]):=by
 have key:=qe6 (d:=d) ns k h0 hk hl hx;rw [vab rfl];simp -implicitDefEqProofs (disch:=first|exact zd|fail) only [go_sem,Aa,Ab,vhh,vsn,va5 key]
def mGr (z:Bool) (k:Int) (n:Nat) (ns:List Nat):CV:= .st [.sl z vag ((marks k n).map vak),.sl z vai (marksOf mObj wObj (k+n) ns)]
theorem vqc {d:Nat} (g:Gr) (k:Int) (h0:0≤k) (hk:k+gsum g≤9223372036854774000) (hr:g.roots.length≤1048576) (hn:g.nodes.length≤1048576) (hv:∀o∈g.nodes,o.vals.length≤1048576):
  vaf (T (d+2)) vae vgz [cGr false g,.a (.int .i64 k)]=some ([.a (.int .i64 (k+gsum g))],[mGr false k g.roots.length (lens g.nodes)]):=by
 have e:=vwf g.nodes;have eg:gsum g=g.roots.length+g.nodes.length+vsum g.nodes:=rfl;have h1:=vlp (Φ:=T (d+1)) (N:=vae) g.roots k h0 zo (va1 zo);have h2:=qg1 (d:=d) g.nodes (k+g.roots.length) zo zo hn hv;rw [show k+gsum g=k+g.roots.length+wsum wObj (lens g.nodes) by omega];rw [vab rfl];simp -implicitDefEqProofs (disch:=first|exact zd|fail) only [go_sem,Aa,Ab,vgz,vsa,h1,h2,mGr]
theorem vvr {d:Nat} (n:Nat) (ns:List Nat) (k:Int) (h0:0≤k) (hk:k+n+wsum wObj ns≤9223372036854774000) (hr:n≤1048576) (hl:ns.length≤1048576) (hv:∀n∈ns,n≤1048576):
  vaf (T (d+2)) vae vgv [mGr true k n ns,.a (.int .i64 k)]=some ([.a (.int .i64 (k+n+wsum wObj ns))],[]):=by
 have h1:=vtk (Φ:=T (d+1)) (N:=vae) n k h0 zo (va1 zo);have h2:=qh3 (d:=d) ns (k+n) zo zo hl hv;have g1:¬k+(n:Int)<0:=by omega
 have g2:¬k+(n:Int)+wsum wObj ns<0:=by omega
 rw [vab rfl];simp -implicitDefEqProofs (disch:=first|exact zd|fail) only [go_sem,Aa,Ab,vgv,vri,h1,h2,mGr,g1,g2]
end Go.Proofs.YtlhpnpknjggcpaaGreatDoor.VM
namespace Go.Proofs.YtlhpnpknjggcpaaGreatDoor.VM
open Go Sy
variable {Φ:Nat→Option Callee} {N:Nat}
set_option maxRecDepth 100000
set_option maxHeartbeats 8000000
def ksum:List Act'→Nat
 | []=>0
 |x::l=>x.keep.length+ksum l
theorem vyx (l m:List Act'):ksum (l++m)=ksum l+ksum m:=by
 induction l with
 |nil=>simp [ksum]
 |cons x l ih=>simp [ksum,ih];omega
theorem qdr {l:List Act'} {i:Nat} {x:Act'} (h:l[i]? =some x):ksum (l.take (i+1))=ksum (l.take i)+x.keep.length:=by
 rw [Am,h,vyx];simp [ksum]
theorem qki {l:List Act'} {i:Nat} {x:Act'} (h:l[i]? =some x):ksum (l.take i)+x.keep.length≤ksum l:=by
 rw [←qdr h]
 conv=>rhs;rw [←Ak (i+1) l]
 rw [vyx];omega
theorem qwx {l:List Act'} {x:Act'} (h:x∈l):x.keep.length≤ksum l:=by
 obtain ⟨i,hi,rfl⟩:=Al.1 h;have:=qki (Ac hi);omega
theorem qqv {d:Nat} (x:Act') (hl:x.keep.length≤1048576):vaf (T (d+1)) vae vjx [cAct true x]=some ([cAct false x],[]):=by
 have h:=vn2 (Φ:=T d) x.keep hl;rw [vab rfl];simp -implicitDefEqProofs (disch:=first|exact zd|fail) only [go_sem,Aa,Ab,vjx,vw4,h]
theorem qi4 {d:Nat} (l:List Act') (hl:l.length≤1048576) (hk:∀x∈l,x.keep.length≤1048576):
  vbt (T (d+2)) vae [0,3,4] vki ⟨[(0,.sz ve7 (l.map vcy)),(3,.rf 0),(4,.a (.int .i64 0))],[(0,some (.sl false 0 vbv (Aq l.length zAct)))],1⟩=
  some (.ext 0,⟨[(0,.sz ve7 (l.map vcy)),(3,.rf 0),(4,.a (.int .i64 l.length)),(11,.a (.bool false))],[(0,some (.sl false 0 vbv (l.map vcy)))],401⟩):=by
 rw [←vs6 (g:=vcy)];refine vbx (fun i=>⟨[(0,.sz ve7 (l.map vcy)),(3,.rf 0),(4,.a (.int .i64 (i:Nat)))],[(0,some (.sl false 0 vbv (updR zAct vcy i l)))],1⟩) _ (m:=l.length) (va1 zo) (fun i hi=> ?_) ?_
 ·obtain ⟨a,ha⟩:∃a,l[i]? =some a:=⟨_,Ac hi⟩
  have hg:=vvc (z:=zAct) (g:=vcy) ha;have hs:=vu8 (z:=zAct) (g:=vcy) ha;rw [qdg] at hs;have hc:=qqv (d:=d) a (hk a (Ad ha));have hw:=vaw i zo;unfold round vki;simp -implicitDefEqProofs (disch:=first|exact zd|fail) only [go_sem,Aa,Ab,ha,hg,hs,hw,hc]
  (show some _=some _;kernel_rfl)
 ·unfold round vki;simp -implicitDefEqProofs (disch:=first|exact zd|fail) only [go_sem,Aa,Ab,vuq]
theorem qlw {d:Nat} (l:List Act') (hl:l.length≤1048576) (hk:∀x∈l,x.keep.length≤1048576):vaf (T (d+2)) vae vis [.sl true ve7 (l.map vcy)]=some ([.sl false vbv (l.map vcy)],[]):=by
 have key:=qi4 (d:=d) l hl hk;rw [vab rfl];simp -implicitDefEqProofs (disch:=first|exact zd|fail) only [go_sem,Aa,Ab,vis,vvh,va5 key]
theorem qq5 {d:Nat} (x:Act') (k:Int) (h0:0≤k) (h1:k≤1048576) (hl:x.keep.length<9223372036854000000):vaf (T (d+1)) vae vif [cAct true x,.a (.int .i64 k)]=
  some ([.a (.int .i64 (if k-x.keep.length<0 then-1 else k-x.keep.length))],[]):=by
 have h:=vrx (Φ:=T d) (N:=vae) x.keep k h0 h1 hl;rw [vab rfl];by_cases hk:k-(x.keep.length:Int)<0
 ·rw [if_pos hk] at h⊢;simp -implicitDefEqProofs (disch:=first|exact zd|fail) only [go_sem,Aa,Ab,vif,vr3,h]
 ·rw [if_neg hk] at h⊢;simp -implicitDefEqProofs (disch:=first|exact zd|fail) only [go_sem,Aa,Ab,vif,vr3,h]
theorem qjh {d:Nat} (l:List Act') (k:Int) (h0:0≤k) (h1:k≤1048576) (hl:l.length≤1048576) (hk:∀x∈l,x.keep.length<9223372036854000000):
  vbt (T (d+2)) vae [0,1,5] vgh ⟨[(0,.sz ve7 (l.map vcy)),(1,.a (.int .i64 k)),(5,.a (.int .i64 0))],[],0⟩=
  some (if k-ksum l<0 then (.ret,⟨[(4,.a (.int .i64 (-1)))],[],1400⟩) else (.ext 0,⟨[(0,.sz ve7 (l.map vcy)),(1,.a (.int .i64 (k-ksum l))),(5,.a (.int .i64 l.length)),(15,.a (.bool false))],[],400⟩)):=by
 have:=vc4 (Φ:=T (d+2)) (N:=vae) (live:= [0,1,5]) (b:=vgh) (fun i=>⟨[(0,.sz ve7 (l.map vcy)),(1,.a (.int .i64 (k-(ksum (l.take i):Nat)))),(5,.a (.int .i64 (i:Nat)))],[],0⟩)
  (if k-ksum l<0 then (.ret,⟨[(4,.a (.int .i64 (-1)))],[],1400⟩) else (.ext 0,⟨[(0,.sz ve7 (l.map vcy)),(1,.a (.int .i64 (k-ksum l))),(5,.a (.int .i64 l.length)),(15,.a (.bool false))],[],400⟩))
  (fun i=>0≤k-(ksum (l.take i):Nat)) (m:=l.length) (va1 zo) (by simp [ksum];exact h0) (by split<;>simp) (fun i hi hp=> ?_)
 ·simpa [ksum] using this
 by_cases hi':i<l.length
 ·obtain ⟨x,hx⟩:∃a,l[i]? =some a:=⟨_,Ac hi'⟩
  have ht:=qdr hx;have hle:=qki hx;have hw:=vaw i zo;have hc:=qq5 (d:=d) x (k-(ksum (l.take i):Nat)) hp zo (hk x (Ad hx));have he:k-(ksum (l.take i):Nat)-(x.keep.length:Nat)=k-(ksum (l.take (i+1)):Nat):=by rw [ht];omega
  rw [he] at hc;by_cases hn:k-(ksum (l.take (i+1)):Nat)<0
  ·right;rw [if_pos hn] at hc;rw [if_pos zo];unfold round vgh;simp -implicitDefEqProofs (disch:=first|exact zd|fail) only [go_sem,Aa,Ab,hx,hc]
  ·left;rw [if_neg hn] at hc;refine ⟨hi',?_,by omega⟩;unfold round vgh;simp -implicitDefEqProofs (disch:=first|exact zd|fail) only [go_sem,Aa,Ab,hx,hc,hw]
   (show some _=some _;kernel_rfl)
 ·right;obtain rfl:i=l.length:=by omega
  rw [Aj] at hp⊢;rw [if_neg zo];unfold round vgh;simp -implicitDefEqProofs (disch:=first|exact zd|fail) only [go_sem,Aa,Ab]
theorem qmi {d:Nat} (l:List Act') (k:Int) (h0:0≤k) (h1:k≤1048576) (hl:l.length<9223372036854000000) (hk:∀x∈l,x.keep.length<9223372036854000000):
  vaf (T (d+2)) vae vga [.sl true ve7 (l.map vcy),.a (.int .i64 k)]=some ([.a (.int .i64 (if k-l.length-ksum l<0 then-1 else k-l.length-ksum l))],[]):=by
 have hw:Ae.wrap (k-(l.length:Int))=k-l.length:=by rw [vay]<;>omega
 rw [vab rfl];by_cases hn:k-(l.length:Int)<0
 ·have hn':k-(l.length:Int)-ksum l<0:=by omega
  rw [if_pos hn'];simp -implicitDefEqProofs (disch:=first|exact zd|fail) only [go_sem,Aa,Ab,vga,vmm,hw]
 ·have key:=qjh (d:=d) l (k-l.length) zo zo zo hk;by_cases hn':k-(l.length:Int)-ksum l<0
  ·rw [if_pos hn'] at key⊢;simp -implicitDefEqProofs (disch:=first|exact zd|fail) only [go_sem,Aa,Ab,vga,vmm,hw,vgq key]
  ·rw [if_neg hn'] at key⊢;simp -implicitDefEqProofs (disch:=first|exact zd|fail) only [go_sem,Aa,Ab,vga,vmm,hw,va5 key]
theorem qrc {d:Nat} (x:Act') (hl:x.keep.length≤1048576):vaf (T (d+1)) vae vjt [cAct true x,cAct true x]=some ([.a (.bool true)],[]):=by
 have h:=vnx (Φ:=T d) (N:=vae) x.keep zo (va1 zo);rw [vab rfl];simp -implicitDefEqProofs (disch:=first|exact zd|fail) only [go_sem,Aa,Ab,vjt,vw0,h]
theorem qjm {d:Nat} (l:List Act') (hl:l.length≤1048576) (hk:∀x∈l,x.keep.length≤1048576):
  vbt (T (d+2)) vae [0,1,5] vkr ⟨[(0,.sz vbv (l.map vcy)),(1,.sz vbv (l.map vcy)),(5,.a (.int .i64 0))],[],0⟩=
  some (.ext 0,⟨[(0,.sz vbv (l.map vcy)),(1,.sz vbv (l.map vcy)),(5,.a (.int .i64 l.length)),(14,.a (.bool false))],[],400⟩):=by
 refine vbx (fun i=>⟨[(0,.sz vbv (l.map vcy)),(1,.sz vbv (l.map vcy)),(5,.a (.int .i64 (i:Nat)))],[],0⟩) _ (m:=l.length) (va1 zo) (fun i hi=> ?_) ?_
 ·obtain ⟨a,ha⟩:∃a,l[i]? =some a:=⟨_,Ac hi⟩
  have hc:=qrc (d:=d) a (hk a (Ad ha));have hw:=vaw i zo;unfold round vkr;simp -implicitDefEqProofs (disch:=first|exact zd|fail) only [go_sem,Aa,Ab,ha,hc,hw]
  (show some _=some _;kernel_rfl)
 ·unfold round vkr;simp -implicitDefEqProofs (disch:=first|exact zd|fail) only [go_sem,Aa,Ab]
theorem qlk {d:Nat} (l:List Act') (hl:l.length≤1048576) (hk:∀x∈l,x.keep.length≤1048576):vaf (T (d+2)) vae viv [.sl true vbv (l.map vcy),.sl true vbv (l.map vcy)]=some ([.a (.bool true)],[]):=by
 have key:=qjm (d:=d) l hl hk;rw [vab rfl];simp -implicitDefEqProofs (disch:=first|exact zd|fail) only [go_sem,Aa,Ab,viv,vvo,va5 key]
def mAct (k:Int) (n:Nat):PV:= .st [vak k,vak (k+1),vak (k+1+1),vak (k+1+1+1),vak (k+1+1+1+1),.sl vag ((marks (k+1+1+1+1+1) n).map vak)]
theorem qxd (k:Int) (n:Nat):mAct k n= .st [.a (.int .i64 k),.a (.int .i64 (k+1)),.a (.int .i64 (k+1+1)),.a (.int .i64 (k+1+1+1)),.a (.int .i64 (k+1+1+1+1)),.sl vag ((marks (k+1+1+1+1+1) n).map vak)]:=rfl
def wAct (n:Nat):Nat:=5+n
def keeps (l:List Act'):List Nat:=l.map fun x=>x.keep.length
theorem qrd {l:List Act'} {i:Nat} {x:Act'} (h:l[i]? =some x):(keeps l)[i]? =some x.keep.length:=by rw [keeps,Ai,h];rfl
theorem vxa (l:List Act'):(keeps l).length=l.length:=Af _
theorem qmt (l:List Act'):wsum wAct (keeps l)=5 * l.length+ksum l:=by
 induction l with
 |nil=>rfl
 |cons x l ih=>
  show wAct x.keep.length+wsum wAct (keeps l)=_;rw [ih,ksum,An,wAct];omega
theorem qe8 {d:Nat} (l:List Act') (k:Int) (h0:0≤k) (hk:k+wsum wAct (keeps l)≤9223372036854775000) (hl:l.length≤1048576) (hx:∀x∈l,x.keep.length≤1048576):
  vbt (T (d+1)) vae [0,1,5,10000] vg5 ⟨[(0,.rf 0),(1,.a (.int .i64 k)),(5,.a (.int .i64 0)),(10000,.rf 0)],[(0,some (.sl false 0 vbv (l.map vcy)))],1⟩=
  some (.ext 0,⟨[(0,.rf 0),(1,.a (.int .i64 (k+wsum wAct (keeps l)))),(5,.a (.int .i64 l.length)),(9,.a (.bool false)),(10000,.rf 0)],[(0,some (.sl false 0 vbv (marksOf mAct wAct k (keeps l))))],401⟩):=by
 have hM:(marksOf mAct wAct k (keeps l)).length=(l.map vcy).length:=by rw [vo8,vxa,Af]
 have:=vbx (Φ:=T (d+1)) (N:=vae) (live:= [0,1,5,10000]) (b:=vg5) (id:=0) (fun i=>⟨[(0,.rf 0),(1,.a (.int .i64 (k+(wsum wAct ((keeps l).take i):Nat)))),(5,.a (.int .i64 (i:Nat))),(10000,.rf 0)],[(0,some (.sl false 0 vbv (mix (marksOf mAct wAct k (keeps l)) (l.map vcy) i)))],1⟩)
  ⟨[(0,.rf 0),(1,.a (.int .i64 (k+wsum wAct (keeps l)))),(5,.a (.int .i64 l.length)),(9,.a (.bool false)),(10000,.rf 0)],[(0,some (.sl false 0 vbv (marksOf mAct wAct k (keeps l))))],401⟩ (m:=l.length) (va1 zo) (fun i hi=> ?_) ?_
 ·simpa [qhd,wsum] using this
 ·obtain ⟨x,hx'⟩:∃a,l[i]? =some a:=⟨_,Ac hi⟩
  have hkx:=qrd hx';have hle:=qcl (w:=wAct) hkx;have ht:=vs1 (w:=wAct) hkx;have hkeep:=hx x (Ad hx');have hw:wAct x.keep.length=5+x.keep.length:=rfl;have hg:(mix (marksOf mAct wAct k (keeps l)) (l.map vcy) i)[i]? =some (vcy x):=qli hM (by rw [Ai,hx'];rfl);have hs:=qk1 (i:=i) hM (vte (m:=mAct) (w:=wAct) (k:=k) hkx);have hlen:(mix (marksOf mAct wAct k (keeps l)) (l.map vcy) i).length=l.length:=by rw [qbf hM,Af]
  have hlt:i<(mix (marksOf mAct wAct k (keeps l)) (l.map vcy) i).length:=by rw [hlen];exact hi
  have e1:k+(wsum wAct ((keeps l).take (i+1)):Nat)=k+(wsum wAct ((keeps l).take i):Nat)+1+1+1+1+1+(x.keep.length:Nat):=by rw [ht,hw];omega
  have hK:k+(wsum wAct ((keeps l).take i):Nat)+5+x.keep.length≤9223372036854775000:=by omega
  have hK0:0≤k+(wsum wAct ((keeps l).take i):Nat):=by omega
  rw [←hs,e1,qxd];clear e1 hs hle ht hw;rw [qdg] at hg;generalize k+(wsum wAct ((keeps l).take i):Nat)=K at *;generalize mix (marksOf mAct wAct k (keeps l)) (l.map vcy) i=Z at *;have hw:=vaw i zo;have w1:Ae.wrap (K+1)=K+1:=vay _ zo zo;have w2:Ae.wrap (K+1+1)=K+1+1:=vay _ zo zo;have w3:Ae.wrap (K+1+1+1)=K+1+1+1:=vay _ zo zo;have w4:Ae.wrap (K+1+1+1+1)=K+1+1+1+1:=vay _ zo zo;have w5:Ae.wrap (K+1+1+1+1+1)=K+1+1+1+1+1:=vay _ zo zo;have hc:=vlp (Φ:=T d) (N:=vae) x.keep (K+1+1+1+1+1) zo zo (va1 zo);unfold round vg5;simp -implicitDefEqProofs (disch:=first|exact zd|fail) only [go_sem,Aa,Ab,hg,hw,w1,w2,w3,w4,w5,hc,hlen,Ah hlt,Ar]
  (show some _=some _;kernel_rfl)
 ·rw [show (keeps l).take l.length=keeps l from by rw [Ao];rw [vxa];omega,qkg hM (by rw [Af])];have hl':(marksOf mAct wAct k (keeps l)).length=l.length:=by rw [hM,Af]
  unfold round vg5;simp -implicitDefEqProofs (disch:=first|exact zd|fail) only [go_sem,Aa,Ab,hl']
theorem qin {d:Nat} (l:List Act') (k:Int) (h0:0≤k) (hk:k+wsum wAct (keeps l)≤9223372036854775000) (hl:l.length≤1048576) (hx:∀x∈l,x.keep.length≤1048576):
  vaf (T (d+1)) vae vhf [.sl false vbv (l.map vcy),.a (.int .i64 k)]=some ([.a (.int .i64 (k+wsum wAct (keeps l)))],[.sl false vbv (marksOf mAct wAct k (keeps l))]):=by
 have key:=qe8 (d:=d) l k h0 hk hl hx;rw [vab rfl];simp -implicitDefEqProofs (disch:=first|exact zd|fail) only [go_sem,Aa,Ab,vhf,vsp,va5 key]
theorem qzk (x y:Int):vaf Φ N vhe [.st [.a (.int .i64 x),.a (.int .i64 y)],.st [.a (.int .i64 x),.a (.int .i64 y)]]=some ([.a (.bool true)],[]):=by
 rw [vab rfl];simp -implicitDefEqProofs (disch:=first|exact zd|fail) only [go_sem,Aa,Ab,vhe,vsm]
attribute [go_sem] qzk
theorem qcu {d:Nat} (l:List Ans) (hl:l.length≤1048576) (r:List It):
  goP (T (d+1)) vae [0,1,5] vik r ⟨[(0,.sz va6 (l.map eAns)),(1,.sz va6 (l.map eAns)),(5,.a (.int .i64 0))],[],0⟩=
  goE (T (d+1)) vae r 0 [(0,.sz va6 (l.map eAns)),(1,.sz va6 (l.map eAns)),(5,.a (.int .i64 l.length)),(14,.a (.bool false))] [] 400:=by
 refine vpa (fun i=>⟨[(0,.sz va6 (l.map eAns)),(1,.sz va6 (l.map eAns)),(5,.a (.int .i64 (i:Nat)))],[],0⟩) ⟨_,_,_⟩ (m:=l.length) (va1 zo) (fun i hi=> ?_) ?_
 ·obtain ⟨a,ha⟩:∃a,l[i]? =some a:=⟨_,Ac hi⟩
  have hw:=vaw i zo;unfold round vik;simp -implicitDefEqProofs (disch:=first|exact zd|fail) only [go_sem,Aa,Ab,ha,hw]
  (show some _=some _;kernel_rfl)
 ·unfold round vik;simp -implicitDefEqProofs (disch:=first|exact zd|fail) only [go_sem,Aa,Ab]
theorem qff {d:Nat} (l:List Ans) (hl:l.length≤1048576):vaf (T (d+1)) vae vgo [.sl true va6 (l.map eAns),.sl true va6 (l.map eAns)]=some ([.a (.bool true)],[]):=by
 rw [vab rfl];simp -implicitDefEqProofs (disch:=first|exact zd|fail) only [go_sem,Aa,Ab,vgo,vrn];rw [show norm _ _=(⟨[(0,.sz va6 (l.map eAns)),(1,.sz va6 (l.map eAns)),(5,.a (.int .i64 0))],[],0⟩:St) from rfl,qcu l hl];simp -implicitDefEqProofs (disch:=first|exact zd|fail) only [go_sem,Aa,Ab]
def mA (k:Int) (j:Nat):PV:= .st [.a (.int .i64 (k+2 * j)),.a (.int .i64 (k+2 * j+1))]
theorem vzp (l:List Ans) (k:Int) (h0:0≤k) (hk:k+2 * l.length≤9223372036854775000) (hN:l.length<N) (r:List It):
  goP Φ N [0,1,5,10000] vfj r ⟨[(0,.rf 0),(1,.a (.int .i64 k)),(5,.a (.int .i64 0)),(10000,.rf 0)],[(0,some (.sl false 0 va6 (l.map eAns)))],1⟩=
  goE Φ N r 0 [(0,.rf 0),(1,.a (.int .i64 (k+2 * l.length))),(5,.a (.int .i64 l.length)),(9,.a (.bool false)),(10000,.rf 0)] [(0,some (.sl false 0 va6 ((Ag l.length).map (mA k))))] 401:=by
 rw [←qpb (f:=eAns) (h:=mA k),←qu5 (f:=eAns) (h:=mA k)];have:=vpa (Φ:=Φ) (N:=N) (r:=r) (live:= [0,1,5,10000]) (b:=vfj) (id:=0) (fun i=>⟨[(0,.rf 0),(1,.a (.int .i64 (k+2 * (i:Nat)))),(5,.a (.int .i64 (i:Nat))),(10000,.rf 0)],[(0,some (.sl false 0 va6 (updI eAns (mA k) i l)))],1⟩)
  ⟨[(0,.rf 0),(1,.a (.int .i64 (k+2 * l.length))),(5,.a (.int .i64 l.length)),(9,.a (.bool false)),(10000,.rf 0)],[(0,some (.sl false 0 va6 (updI eAns (mA k) l.length l)))],401⟩ hN (fun i hi=> ?_) ?_
 ·simpa using this
 ·obtain ⟨a,ha⟩:∃a,l[i]? =some a:=⟨_,Ac hi⟩
  have hw:=vaw i zo;have hk1:Ae.wrap (k+2 * (i:Int)+1)=k+2 * (i:Int)+1:=by rw [vay]<;>omega
  have hk2:Ae.wrap (k+2 * (i:Int)+1+1)=k+2 * ((i+1:Nat):Int):=by rw [vay]<;>omega
  have hlt:i<(updI eAns (mA k) i l).length:=by rw [qjb];exact hi
  have hg:=quk (f:=eAns) (h:=mA k) ha;have hs:=qts (f:=eAns) (h:=mA k) ha;simp only [qkx,mA] at hg hs;unfold round vfj;simp -implicitDefEqProofs (disch:=first|exact zd|fail) only [go_sem,Aa,Ab,hg,hs,hw,hk1,hk2,Ah hlt,Ar]
  (show some _=some _;kernel_rfl)
 ·unfold round vfj;simp -implicitDefEqProofs (disch:=first|exact zd|fail) only [go_sem,Aa,Ab]
theorem qbr (l:List Ans) (k:Int) (h0:0≤k) (hk:k+2 * l.length≤9223372036854775000) (hN:l.length<N):
  vaf Φ N vfi [.sl false va6 (l.map eAns),.a (.int .i64 k)]=some ([.a (.int .i64 (k+2 * l.length))],[.sl false va6 ((Ag l.length).map (mA k))]):=by
 rw [vab rfl];simp -implicitDefEqProofs (disch:=first|exact zd|fail) only [go_sem,Aa,Ab,vfi,vp1];rw [show norm _ _=(⟨[(0,.rf 0),(1,.a (.int .i64 k)),(5,.a (.int .i64 0)),(10000,.rf 0)],[(0,some (.sl false 0 va6 (l.map eAns)))],1⟩:St) from rfl,vzp l k h0 hk hN];simp -implicitDefEqProofs (disch:=first|exact zd|fail) only [go_sem,Aa,Ab]
theorem vz8 (n:Nat) (k:Int) (h0:0≤k) (hk:k+2 * n≤9223372036854775000) (hN:n<N):
  vbt Φ N [0,1,5] vff ⟨[(0,.sz va6 ((Ag n).map (mA k))),(1,.a (.int .i64 k)),(5,.a (.int .i64 0))],[],0⟩=
  some (.ext 0,⟨[(0,.sz va6 ((Ag n).map (mA k))),(1,.a (.int .i64 (k+2 * n))),(5,.a (.int .i64 n)),(9,.a (.bool false))],[],400⟩):=by
 have:=vbx (Φ:=Φ) (N:=N) (live:= [0,1,5]) (b:=vff) (id:=0) (m:=n) (fun i=>⟨[(0,.sz va6 ((Ag n).map (mA k))),(1,.a (.int .i64 (k+2 * (i:Nat)))),(5,.a (.int .i64 (i:Nat)))],[],0⟩)
  ⟨[(0,.sz va6 ((Ag n).map (mA k))),(1,.a (.int .i64 (k+2 * n))),(5,.a (.int .i64 n)),(9,.a (.bool false))],[],400⟩ hN (fun i hi=> ?_) ?_
 ·simpa using this
 ·have ha:((Ag n).map (mA k))[i]? =some (mA k i):=by simp [hi]
  have hl:((Ag n).map (mA k)).length=n:=by simp
  rw [mA] at ha;generalize (Ag n).map (mA k)=Z at *;have hw:=vaw i zo;have hk1:Ae.wrap (k+2 * (i:Int)+1)=k+2 * (i:Int)+1:=by rw [vay]<;>omega
  have hk2:Ae.wrap (k+2 * (i:Int)+1+1)=k+2 * ((i+1:Nat):Int):=by rw [vay]<;>omega
  unfold round vff;simp -implicitDefEqProofs (disch:=first|exact zd|fail) only [go_sem,Aa,Ab,ha,hl,hw,hk1,hk2]
  (show some _=some _;kernel_rfl)
 ·have hl:((Ag n).map (mA k)).length=n:=by simp
  generalize (Ag n).map (mA k)=Z at *;unfold round vff;simp -implicitDefEqProofs (disch:=first|exact zd|fail) only [go_sem,Aa,Ab,hl]
theorem qbu (n:Nat) (k:Int) (h0:0≤k) (hk:k+2 * n≤9223372036854775000) (hN:n<N):
  vaf Φ N vfk [.sl true va6 ((Ag n).map (mA k)),.a (.int .i64 k)]=some ([.a (.int .i64 (k+2 * n))],[]):=by
 have key:=vz8 (Φ:=Φ) n k h0 hk hN;generalize (Ag n).map (mA k)=Z at *;rw [vab rfl];simp -implicitDefEqProofs (disch:=first|exact zd|fail) only [go_sem,Aa,Ab,vfk,vpx,va5 key]
structure Ru where
 code:Int
 ans:List Ans
 now:Gr
 safe:Gr
 i:Bool
 dm:Bool
abbrev cRu (z:Bool) (r:Ru):CV:= .st [.a (.int .i64 r.code),.sl z va6 (r.ans.map eAns),.sl z vag (r.now.roots.map vak),.sl z vai (r.now.nodes.map eObj),.sl z vag (r.safe.roots.map vak),.sl z vai (r.safe.nodes.map eObj),.a (.bool r.i),.a (.bool r.dm),.a (.bool false),.a (.string ⟨#[]⟩),.sl z vcx [],.a (.int .i64 0)]
abbrev cDev (z:Bool):CV:= .st [.a (.string ⟨#[]⟩),.sl z vcx []]
theorem qo7 {d:Nat}:vaf (T (d+2)) vae vhb [cDev true,cDev true]=some ([.a (.bool true)],[]):=by
 have h1:vaf (T (d+1)) vae vj2 [.sl true vcx [],.sl true vcx []]=some ([.a (.bool true)],[]):=by kernel_rfl
 rw [vab rfl];simp -implicitDefEqProofs (disch:=first|exact zd|fail) only [go_sem,Aa,Ab,vhb,vsy,h1,ne_eq,not_true_eq_false,decide_false]
theorem qja {d:Nat} (k:Int):vaf (T (d+2)) vae vf2 [cDev false,.a (.int .i64 k)]=some ([.a (.int .i64 k)],[cDev false]):=by
 have h1:vaf (T (d+1)) vae vie [.sl false vcx [],.a (.int .i64 k)]=some ([.a (.int .i64 k)],[.sl false vcx []]):=by kernel_rfl
 rw [vab rfl];simp -implicitDefEqProofs (disch:=first|exact zd|fail) only [go_sem,Aa,Ab,vf2,vqs,h1]
theorem qi9 {d:Nat} (k:Int) (hk:¬k<0):vaf (T (d+2)) vae vf6 [cDev true,.a (.int .i64 k)]=some ([.a (.int .i64 k)],[]):=by
 have h1:vaf (T (d+1)) vae vih [.sl true vcx [],.a (.int .i64 k)]=some ([.a (.int .i64 k)],[]):=by kernel_rfl
 rw [vab rfl];simp -implicitDefEqProofs (disch:=first|exact zd|fail) only [go_sem,Aa,Ab,vf6,vqu,h1,hk,decide_false]
structure SmG (g:Gr):Prop where
 r:g.roots.length≤1048576
 n:g.nodes.length≤1048576
 v:∀o∈g.nodes,o.vals.length≤1048576
 s:gsum g≤100000000
structure SmR (r:Ru):Prop where
 a:r.ans.length≤1048576
 n:SmG r.now
 s:SmG r.safe
theorem qn3 {d:Nat} {r:Ru} (h:SmR r):vaf (T (d+4)) vae vjs [cRu true r,cRu true r]=some ([.a (.bool true)],[]):=by
 have h1:=qff (d:=d+2) r.ans h.a;have h2:=vtg (d:=d) r.now h.n.r h.n.n h.n.v;have h3:=vtg (d:=d) r.safe h.s.r h.s.n h.s.v;have h4:=qo7 (d:=d+1);clear h;obtain ⟨c,A,⟨nr,nn⟩,⟨sr,sn⟩,i,dm⟩:=r;rw [vab rfl];simp -implicitDefEqProofs (disch:=first|exact zd|fail) only [go_sem,Aa,Ab,vjs,vwd,h1,h2,h3,h4,ne_eq,not_true_eq_false,decide_false,bne_self_eq_false]
abbrev mRu (z:Bool) (r:Ru) (k:Int):CV:= .st [.a (.int .i64 r.code),.sl z va6 ((Ag r.ans.length).map (mA k)),.sl z vag ((marks (k+2 * r.ans.length) r.now.roots.length).map vak),.sl z vai (marksOf mObj wObj (k+2 * r.ans.length+r.now.roots.length) (lens r.now.nodes)),.sl z vag ((marks (k+2 * r.ans.length+gsum r.now) r.safe.roots.length).map vak),.sl z vai (marksOf mObj wObj (k+2 * r.ans.length+gsum r.now+r.safe.roots.length) (lens r.safe.nodes)),.a (.bool r.i),.a (.bool r.dm),.a (.bool false),.a (.string ⟨#[]⟩),.sl z vcx [],.a (.int .i64 0)]
theorem qjz {d:Nat} {r:Ru} (h:SmR r):vaf (T (d+3)) vae via [cRu false r,.a (.int .i64 1)]=some ([.a (.int .i64 (1+2 * r.ans.length+gsum r.now+gsum r.safe))],[mRu false r 1]):=by
 have ha:=h.a;have hn:=h.n.s;have hs:=h.s.s;have h1:=qbr (Φ:=T (d+2)) (N:=vae) r.ans 1 zo zo (va1 zo);have h2:=vqc (d:=d) r.now (1+2 * r.ans.length) zo zo h.n.r h.n.n h.n.v;have h3:=vqc (d:=d) r.safe (1+2 * r.ans.length+gsum r.now) zo zo h.s.r h.s.n h.s.v;have h4:=qja (d:=d) (1+2 * r.ans.length+gsum r.now+gsum r.safe);unfold mGr at h2 h3;clear h;obtain ⟨c,A,⟨nr,nn⟩,⟨sr,sn⟩,i,dm⟩:=r;rw [vab rfl];simp -implicitDefEqProofs (disch:=first|exact zd|fail) only [go_sem,Aa,Ab,via,vtm,h1,h2,h3,h4]
theorem qjx {d:Nat} {r:Ru} (h:SmR r):vaf (T (d+3)) vae vh1 [mRu true r 1,.a (.int .i64 1)]=some ([.a (.int .i64 (1+2 * r.ans.length+gsum r.now+gsum r.safe))],[]):=by
 have ha:=h.a;have hn:=h.n.s;have hs:=h.s.s;have en:gsum r.now=r.now.roots.length+r.now.nodes.length+vsum r.now.nodes:=rfl;have es:gsum r.safe=r.safe.roots.length+r.safe.nodes.length+vsum r.safe.nodes:=rfl;have ewn:=vwf r.now.nodes;have ews:=vwf r.safe.nodes;have h1:=qbu (Φ:=T (d+2)) (N:=vae) r.ans.length 1 zo zo (va1 zo)
 have h2:=vvr (d:=d) r.now.roots.length (lens r.now.nodes) (1+2 * r.ans.length) zo zo h.n.r (by rw [vpu];exact h.n.n) (fun n hn=>by
  obtain ⟨o,ho,rfl⟩:=At.1 hn
  exact h.n.v o ho)
 have h3:=vvr (d:=d) r.safe.roots.length (lens r.safe.nodes) (1+2 * r.ans.length+gsum r.now) zo zo h.s.r (by rw [vpu];exact h.s.n) (fun n hn=>by
  obtain ⟨o,ho,rfl⟩:=At.1 hn
  exact h.s.v o ho)
 rw [show (1:Int)+2 * r.ans.length+r.now.roots.length+wsum wObj (lens r.now.nodes)=1+2 * r.ans.length+gsum r.now by omega] at h2;rw [show (1:Int)+2 * r.ans.length+gsum r.now+r.safe.roots.length+wsum wObj (lens r.safe.nodes)=1+2 * r.ans.length+gsum r.now+gsum r.safe by omega] at h3;have h4:=qi9 (d:=d) (1+2 * r.ans.length+gsum r.now+gsum r.safe) zo;have g1:¬(1:Int)+2 * r.ans.length<0:=by omega
 have g2:¬(1:Int)+2 * r.ans.length+gsum r.now<0:=by omega
 have g3:¬(1:Int)+2 * r.ans.length+gsum r.now+gsum r.safe<0:=by omega
 unfold mGr at h2 h3;clear h en es ewn ews;obtain ⟨c,A,⟨nr,nn⟩,⟨sr,sn⟩,i,dm⟩:=r;unfold mRu;dsimp only at *;generalize gsum ⟨nr,nn⟩=G1 at *;generalize gsum ⟨sr,sn⟩=G2 at *;rw [vab rfl];simp -implicitDefEqProofs (disch:=first|exact zd|fail) only [go_sem,Aa,Ab,vh1,vtv,h1,h2,h3,h4,g1,g2,g3,decide_false]
def ruW (ts:List ByteArray) (g:Gr) (l:List Act') (dn:List Int):Ru:=
 if isW ts g l then ⟨0,(plI ts l dn (w0 g) l.length).1,plainG ts (nowG (plI ts l dn (w0 g) l.length).2),plainG ts (safeG (plI ts l dn (w0 g) l.length).2),(plI ts l dn (w0 g) l.length).2.inR,(plI ts l dn (w0 g) l.length).2.dm⟩
 else ⟨1,[],⟨[],[]⟩,⟨[],[]⟩,false,false⟩
theorem zbd (ts:List ByteArray) (g:Gr) (l:List Act') (dn:List Int):wpC ts g l dn=cRu false (ruW ts g l dn):=by
 unfold wpC ruW;split<;>rfl
theorem qdu {ts:List ByteArray} {g:Gr} (R:Right ts g):SmG (plainG ts g):=by
 obtain ⟨h1,h2,h3⟩:=qhu R;have:∀(l:List Obj'),(∀o∈l,o.vals.length≤23)→vsum l≤l.length * 23:=by
  intro l;induction l with
  |nil=>intro _;simp [vsum]
  |cons x l ih=>intro h;have h1:=h x (by simp);have h2:=ih fun o ho=>h o (by simp [ho]);simp only [vsum,An];omega
 have h4:=this _ h3;have e:gsum (plainG ts g)=(plainG ts g).roots.length+(plainG ts g).nodes.length+vsum (plainG ts g).nodes:=rfl;exact ⟨by omega,by omega,fun o ho=>by have:=h3 o ho;omega,by omega⟩
theorem qwq {ts:List ByteArray} {g:Gr} (h:Small ts g) (l:List Act') (dn:List Int):SmR (ruW ts g l dn):=by
 unfold ruW;cases hi:isW ts g l with
 |false=>
  have z:SmG ⟨[],[]⟩:=⟨Ap _,Ap _,(fun o ho=>by cases ho),Ap _⟩
  exact ⟨Ap _,z,z⟩
 |true=>
  rw [if_pos rfl];obtain ⟨h1,h2,h3,h4⟩:=vz6 hi;have hT:=qdd h2;have I:=qhx h h2 h3 h4;obtain ⟨J,hA⟩:=vrz (d:=0) (sv:= .n) dn I hT (by decide) h1 (fun h=>by cases h) l.length (Au _);refine ⟨by dsimp only;omega,qdu (J.now hT),qdu ?_⟩;show Right ts (safeG _);unfold safeG;cases hi:(plI ts l dn (w0 g) l.length).2.inR with
  |true=>exact J.safe hT hi
  |false=>exact J.safe0 hT
theorem qfo {d:Nat} (ts:List ByteArray) (g:Gr) (l:List Act') (dn:List Int) (ht:ts.length<9223372036854000000) (hts:∀s∈ts,s.size<9223372036854000000) (gr:g.roots.length<9223372036854000000) (gn:g.nodes.length<9223372036854000000) (gv:∀o∈g.nodes,o.vals.length<9223372036854000000) (hl:l.length<9223372036854000000) (hk:∀x∈l,x.keep.length<9223372036854000000) (hd:dn.length<9223372036854000000):
  vaf (T (d+10)) vae vbz [.sl true vam (ts.map eStr),cGrL g,.sl true ve7 (l.map vcy),.sl true vag (dn.map vak)]=some ([.a (.bool true)],[]):=by
 rw [vab rfl];by_cases c0:(dn.length:Int)>1048576
 ·simp -implicitDefEqProofs (disch:=first|exact zd|fail) only [go_sem,Aa,Ab,vbz,vdq,c0]
 have s1:=qfi (Φ:=T (d+9)) ts 1048576 zo zo ht hts;by_cases c1:(1048576:Int)-ts.length-tsum ts<0
 ·rw [if_pos c1] at s1;simp -implicitDefEqProofs (disch:=first|exact zd|fail) only [go_sem,Aa,Ab,vbz,vdq,c0,s1]
 rw [if_neg c1] at s1;have s2:=qi3 (d:=d+6) g (1048576-ts.length-tsum ts) zo zo gr gn gv;by_cases c2:(1048576:Int)-ts.length-tsum ts-gsum g<0
 ·rw [if_pos c2] at s2;simp -implicitDefEqProofs (disch:=first|exact zd|fail) only [go_sem,Aa,Ab,vbz,vdq,c0,s1,s2]
 rw [if_neg c2] at s2;have s3:=qmi (d:=d+7) l (1048576-ts.length-tsum ts-gsum g) zo zo hl hk;by_cases c3:(1048576:Int)-ts.length-tsum ts-gsum g-l.length-ksum l<0
 ·rw [if_pos c3] at s3;simp -implicitDefEqProofs (disch:=first|exact zd|fail) only [go_sem,Aa,Ab,vbz,vdq,c0,s1,s2,s3]
 rw [if_neg c3] at s3;have eg:gsum g=g.roots.length+g.nodes.length+vsum g.nodes:=rfl;have ek:=qmt l;have hg:Small ts g:=⟨by omega,fun s hs=>by have:=qwb hs;omega,by omega,by omega,fun o ho=>by have:=qxh ho;omega⟩
 have hkl:∀x∈l,x.keep.length≤1048576:=fun x hx=>by have:=qwx hx;omega
 have hll:l.length≤1048576:=by omega
 have hdl:dn.length≤1048576:=by omega
 have t1:=qf3 (Φ:=T (d+9)) ts hg.tl;have t2:=qj1 (d:=d+6) g hg.roots hg.nodes hg.vals;have t3:=qlw (d:=d+7) l hll hkl;have t4:=vn2 (Φ:=T (d+9)) dn hdl;have a1:=vwt (d:=d) hg l dn hll hdl;have a2:=vwc (d:=d) hg l dn hll hdl;have hR:=qwq hg l dn;rw [zbd] at a1 a2;have e0:=qn3 (d:=d+5) hR;have e1:=qft (Φ:=T (d+9)) ts hg.tl;have e2:=vtg (d:=d+6) g hg.roots hg.nodes hg.vals;have e3:=qlk (d:=d+7) l hll hkl;have e4:=vnx (Φ:=T (d+9)) (N:=vae) dn zo (va1 zo);obtain ⟨ms,m1⟩:=qbt (d:=d+8) ts 1 zo;have m2:=vqc (d:=d+7) g ((1+ts.length:Nat):Int) zo zo hg.roots hg.nodes hg.vals;have m3:=qin (d:=d+8) l (((1+ts.length:Nat):Int)+gsum g) zo zo hll hkl;have m4:=vlp (Φ:=T (d+9)) (N:=vae) dn (((1+ts.length:Nat):Int)+gsum g+wsum wAct (keeps l)) zo zo (va1 zo);have m5:=qjz (d:=d+6) hR;have m6:=qjx (d:=d+6) hR;have c4:¬((1+ts.length:Nat):Int)+gsum g+wsum wAct (keeps l)+dn.length<0:=by omega
 have c5:¬(1:Int)+2 * (ruW ts g l dn).ans.length+gsum (ruW ts g l dn).now+gsum (ruW ts g l dn).safe<0:=by omega
 rw [show ((1:Nat):Int)=1 from rfl] at m1;clear eg ek hR;generalize ruW ts g l dn=r at *;generalize (1048576:Int)-ts.length-tsum ts-gsum g-l.length-ksum l=z3 at *;generalize (1048576:Int)-ts.length-tsum ts-gsum g=z2 at *;generalize (1048576:Int)-ts.length-tsum ts=z1 at *;unfold mGr at m2;obtain ⟨rc,A,⟨nr,nn⟩,⟨sr,sn⟩,ri,rd⟩:=r;obtain ⟨rs,ns⟩:=g;dsimp only [cRu] at *;simp (maxSteps:=3000000) -implicitDefEqProofs (disch:=first|exact zd|fail) only [go_sem,Aa,Ab,vbz,vdq,c0,s1,s2,s3,t1,t2,t3,t4,a1,a2,e0,e1,e2,e3,e4,m1,m2,m3,m4,m5,m6,c1,c2,c3,c4,c5]
