/- Worlds of the reference: how they are laid out, and how one begins. Worlds of the reference: what is only read. Worlds of the reference: names and fields of objects. Worlds of the reference: acts on fields. Worlds of the reference: acts on handles alone. Worlds of the reference: regions end. -/
import Derived.Test.YtkidnhclcbcglaaGreatLawLaid
import Derived.Test.YtkidnhclcbcglaaGreatLawAct0
open Nat renaming reduceAdd->Aa,reduceBEq->Ab,le_succ->Aq
open List renaming getElem?_eq_getElem->Ac,length_set->Ad,mem_of_getElem?->Ae,getElem?_eq_some_iff->Af,replicate->Ah,mem_or_eq_of_mem_set->Ai,getElem?_set_ne->Al,map_set->Am,length_append->An,nil_append->Ao,mem_append->Ap
open Int renaming toNat_natCast->Ag
open Go.IntKind renaming i64->Aj
open Option renaming getD_some->Ak
namespace Go.Proofs.YtkidnhclcbcglaaGreat.VM
open Go Sy
variable {Φ:Nat→Option Callee} {N:Nat}
set_option maxRecDepth 100000
set_option maxHeartbeats 8000000
structure Wd where
 ob:List Obj'
 du:List Bool
 sl:List Int
 hd:List Int
 inR:Bool
 dm:Bool
 wa:List Obj'
 he:List Int
abbrev eBl (b:Bool):PV:= .a (.bool b)
theorem zgi (l:List Bool):nfzL (l.map eBl)=true:=vpc (fun _=>rfl) l
attribute [go_sem] zgi
abbrev cWs (z:Bool) (w:Wd):List CV:= [.sl z vau (w.ob.map eObj),.sl z vr1 (w.du.map eBl),.sl z vam (w.sl.map vap),.sl z vam (w.hd.map vap),.a (.bool w.inR),.a (.bool w.dm),.sl z vau (w.wa.map eObj),.sl z vam (w.he.map vap)]
abbrev cWd (z:Bool) (ts:List ByteArray) (w:Wd):CV:= .bx z (.sl z va9 (ts.map eStr)::cWs z w)
theorem qku {α:Type} {l:List α} {i:Nat} {x:α} (h:l[i]? =some x):l.take (i+1)=l.take i++ [x]:=by rw [List.take_add_one,h];rfl
theorem zlr (l:List Int):(l.map vap).map PV.cpy=l.map vap:=by rw [List.map_map];rfl
attribute [go_sem] zlr
theorem qjq (l:List Obj') (hl:l.length≤1048576) (hv:∀o∈l,o.vals.length≤1048576):va7 Φ vad [0,3,4] vjo ⟨[(0,.sz vau (l.map eObj)),(3,.rf 0),(4,.a (.int .i64 (0:Nat)))],[(0,some (.sl false 0 vau ((l.take 0).map eObj)))],1⟩=
  some (.ext 0,⟨[(0,.sz vau (l.map eObj)),(3,.rf 0),(4,.a (.int .i64 (l.length:Nat))),(9,.a (.bool false))],[(0,some (.sl false 0 vau ((l.take l.length).map eObj)))],401⟩):=by
 refine vc5 (m:=l.length) (fun i=>⟨[(0,.sz vau (l.map eObj)),(3,.rf 0),(4,.a (.int .i64 (i:Nat)))],[(0,some (.sl false 0 vau ((l.take i).map eObj)))],1⟩) _ (vay zo) (fun i hi=> ?_) ?_
 ·have hw:=vat i zo;have hlt:(i:Int)<l.length:=by omega
  obtain ⟨o,ho⟩:∃b,l[i]? =some b:=⟨_,Ac zo⟩
  rw [qku ho,vbt];have hlen:((l.take i).map eObj).length≤1048576:=by simp;omega
  generalize (l.take i).map eObj=X at *;have hvl:=hv o (Ae ho);obtain ⟨t,vs⟩:=o;dsimp only at hvl;have hvm:(vs.map vap).length≤1048576:=by simpa using hvl
  unfold round vjo;simp -implicitDefEqProofs (disch:=first|exact zd|fail) only [go_sem,Aa,Ab,hw,hlt,ho,Ao]
  (show some _=some _;kernel_rfl)
 ·have hlt:¬(l.length:Int)<l.length:=by omega
  unfold round vjo;simp -implicitDefEqProofs (disch:=first|exact zd|fail) only [go_sem,Aa,Ab,hlt]
theorem vxk (l:List Obj') (hl:l.length≤1048576) (hv:∀o∈l,o.vals.length≤1048576):vaf Φ vad vic [.sl true vau (l.map eObj)]=some ([.sl false vau (l.map eObj)],[]):=by
 have key:=qjq (Φ:=Φ) l hl hv;rw [List.take_length] at key;rw [vag rfl];simp -implicitDefEqProofs (disch:=first|exact zd|fail) only [go_sem,Aa,Ab,vic,vsq,vao key];done
abbrev w0 (g:Gr):Wd:=⟨g.nodes,Ah g.nodes.length true,g.roots,Ah 12 0,false,false,[],[]⟩
abbrev nNw (ts:List ByteArray) (g:Gr) (i:Nat):vb5:= [(0,some (.bx false [.sz vam (g.roots.map vap),.sz vau (g.nodes.map eObj)])),(1,some (.bx false [.rf 2,.rf 3,.rf 4,.rf 5,.rf 6,.a (.bool false),.a (.bool false),.rf 7,.rf 8])),(2,some (.sl false 0 va9 (List.map eStr ts))),(3,some (.sl false 0 vau (g.nodes.map eObj))),(4,some (.sl false 0 vr1 ((Ah i true).map eBl))),(5,some (.sl false 0 vam (g.roots.map vap))),(6,some (.sl false 0 vam ((Ah 12 0).map vap))),(7,some (.sl false 0 vau [])),(8,some (.sl false 0 vam []))]
theorem qnd {ts:List ByteArray} (g:Gr) (hn:g.nodes.length≤1048576):va7 Φ vad [3,5,6,10000] vka ⟨[(3,.rf 0),(5,.rf 1),(6,.a (.int .i64 (0:Nat))),(10000,.rf 2)],nNw ts g 0,9⟩=
  some (.ext 0,⟨[(3,.rf 0),(5,.rf 1),(6,.a (.int .i64 (g.nodes.length:Nat))),(28,.a (.bool false)),(10000,.rf 2)],nNw ts g g.nodes.length,509⟩):=by
 refine vc5 (m:=g.nodes.length) (fun i=>⟨[(3,.rf 0),(5,.rf 1),(6,.a (.int .i64 (i:Nat))),(10000,.rf 2)],nNw ts g i,9⟩) _ (vay zo) (fun i hi=> ?_) ?_
 ·have hw:=vat i zo;have hlt:(i:Int)<g.nodes.length:=by omega
  unfold nNw;rw [show Ah (i+1) true=Ah i true++ [true] from List.replicate_succ',vbt];have hlen:((Ah i true).map eBl).length≤1048576:=by simp;omega
  generalize (Ah i true).map eBl=X at *;obtain ⟨rs,ns⟩:=g;unfold round vka;simp -implicitDefEqProofs (disch:=first|exact zd|fail) only [go_sem,Aa,Ab,hw,hlt]
  (show some _=some _;kernel_rfl)
 ·have hlt:¬(g.nodes.length:Int)<g.nodes.length:=by omega
  obtain ⟨rs,ns⟩:=g;unfold round vka;simp -implicitDefEqProofs (disch:=first|exact zd|fail) only [go_sem,Aa,Ab,hlt]
theorem vz6 {d:Nat} {ts:List ByteArray} {g:Gr} (hn:g.nodes.length≤1048576) (hr:g.roots.length≤1048576) (hv:∀o∈g.nodes,o.vals.length≤1048576):
  vaf (T (d+1)) vad vi1 [.sl false va9 (ts.map eStr),cGr true g]=some ([.bx false (.un::cWs false (w0 g))],[.sl false va9 (ts.map eStr)]):=by
 have h1:=vxk (Φ:=T d) g.nodes hn hv;have hrl:(g.roots.map vap).length≤1048576:=by simpa using hr
 have n12:Int.toNat 12=12:=rfl;have key:=qnd (Φ:=T (d+1)) (ts:=ts) g hn;rw [vag rfl];unfold nNw at key;obtain ⟨rs,ns⟩:=g;dsimp only at *;simp -implicitDefEqProofs (disch:=first|exact zd|fail) only [go_sem,Aa,Ab,vi1,vui,h1,Ao,n12,vao key];rfl
def ObOk (ts:List ByteArray) (n:Nat) (o:Obj'):Prop:=∃s:ByteArray,ts[o.ty.toNat]? =some s∧0≤o.ty∧o.vals.length=s.size∧∀(j:Nat) v,o.vals[j]? =some v→bAt s j=114→0≤v∧v≤(n:Int)
theorem ObOk.mono {ts:List ByteArray} {n m:Nat} {o:Obj'} (h:ObOk ts n o) (hm:n≤m):ObOk ts m o:=by
 obtain ⟨s,h1,h2,h3,h4⟩:=h;exact ⟨s,h1,h2,h3,fun j v hv hb=>by have:=h4 j v hv hb;omega⟩
def Rin (n:Nat) (l:List Int):Prop:=∀x∈l,0≤x∧x≤(n:Int)
theorem Rin.mono {n m:Nat} {l:List Int} (h:Rin n l) (hm:n≤m):Rin m l:=fun x hx=>by have:=h x hx;omega
theorem Rin.get {n:Nat} {l:List Int} (h:Rin n l) {i:Nat} {x:Int} (hx:l[i]? =some x):0≤x∧x≤(n:Int):=h x (Ae hx)
theorem Rin.set {n:Nat} {l:List Int} (h:Rin n l) (i:Nat) {x:Int} (hx:0≤x∧x≤(n:Int)):Rin n (l.set i x):=fun y hy=>by
 rcases Ai hy with h1|h1
 ·exact h y h1
 ·rw [h1];exact hx
structure Ty23 (ts:List ByteArray):Prop where
 n0:1≤ts.length
 n1:ts.length≤1000
 z:∀s∈ts,s.size≤23
structure Wok (ts:List ByteArray) (B:Nat) (w:Wd):Prop where
 b:w.ob.length≤B
 bb:B≤1000
 ob:∀o∈w.ob,ObOk ts w.ob.length o
 du:w.du.length=w.ob.length
 sl:w.sl.length=8
 slr:Rin w.ob.length w.sl
 hd:w.hd.length=12
 hdr:Rin w.ob.length w.hd
 wa:∀o∈w.wa,ObOk ts w.ob.length o
 wal:w.wa.length≤w.ob.length
 he:w.inR=true→w.he.length=8
 her:Rin w.ob.length w.he
 hel:w.he.length≤8
def hAt (w:Wd) (h:Int):Int:=w.hd[h.toNat]?.getD 0
def usedW (w:Wd) (h:Int):Bool:=decide (0≤h∧h≤11)&&decide (hAt w h>0)
theorem vmp {d:Nat} {ts:List ByteArray} {w:Wd} (hd:w.hd.length=12) (h:Int):vaf (T (d+1)) vad ve2 [cWd true ts w,.a (.int .i64 h)]=some ([.a (.bool (usedW w h))],[]):=by
 have h1:=vd0 (Φ:=T d) (N:=vad) (n:=h) (lo:=0) (hi:=11);rw [vag rfl];unfold usedW hAt;obtain ⟨ob,du,sl,hs,ir,dm,wa,he⟩:=w;dsimp only at *;by_cases c:0≤h∧h≤11
 ·obtain ⟨n,rfl⟩:∃n:Nat,h=n:=⟨h.toNat,by omega⟩
  obtain ⟨x,hx⟩:∃x,hs[n]? =some x:=⟨_,Ac zo⟩
  have hlt:n<hs.length:=by omega
  rw [decide_eq_true c] at h1⊢;rw [Ag,hx,Ak,Bool.true_and];simp -implicitDefEqProofs (disch:=first|exact zd|fail) only [go_sem,Aa,Ab,ve2,vm4,h1,hx]
 ·rw [decide_eq_false c] at h1⊢;rw [Bool.false_and];simp -implicitDefEqProofs (disch:=first|exact zd|fail) only [go_sem,Aa,Ab,ve2,vm4,h1]
theorem vpf {ts:List ByteArray} {B:Nat} {w:Wd} (I:Wok ts B w) {h:Int} (hu:usedW w h=true):∃(n:Nat) (m:Nat),h=n∧n≤11∧n<12∧w.hd[n]? =some ((m:Int)+1)∧m<w.ob.length:=by
 unfold usedW hAt at hu;rw [Bool.and_eq_true,decide_eq_true_eq,decide_eq_true_eq] at hu;obtain ⟨c,h2⟩:=hu;obtain ⟨n,rfl⟩:∃n:Nat,h=n:=⟨h.toNat,by omega⟩
 have hl:=I.hd;obtain ⟨x,hx⟩:∃x,w.hd[n]? =some x:=⟨_,Ac zo⟩
 rw [Ag,hx,Ak] at h2;have:=I.hdr.get hx;exact ⟨n,(x-1).toNat,rfl,by omega,by omega,by rw [hx];congr 1;omega,by omega⟩
theorem qd9 {d:Nat} {ts:List ByteArray} {w:Wd} (hd:w.hd.length=12):vaf (T (d+1)) vad vgk [cWd true ts w]=some ([.a (.int .i64 (plcI 0 w.hd))],[]):=by
 have h1:=vl2 (Φ:=T d) w.hd 0 zo;rw [vag rfl];obtain ⟨ob,du,sl,hs,ir,dm,wa,he⟩:=w;dsimp only at *;simp -implicitDefEqProofs (disch:=first|exact zd|fail) only [go_sem,Aa,Ab,vgk,vr3,h1]
theorem qfo {d:Nat} {ts:List ByteArray} {w:Wd} (hd:w.hd.length=12) (h:Int) (hh:h≤11):vaf (T d) vad vfo [cWd true ts w,.a (.int .i64 h)]=some ([.a (.int .i64 (if h<0 then 0 else hAt w h))],[]):=by
 rw [vag rfl];unfold hAt;obtain ⟨ob,du,sl,hs,ir,dm,wa,he⟩:=w;dsimp only at *;by_cases c:h<0
 ·rw [if_pos c];simp -implicitDefEqProofs (disch:=first|exact zd|fail) only [go_sem,Aa,Ab,vfo,vno,c]
 ·rw [if_neg c];obtain ⟨n,rfl⟩:∃n:Nat,h=n:=⟨h.toNat,by omega⟩
  obtain ⟨x,hx⟩:∃x,hs[n]? =some x:=⟨_,Ac zo⟩
  have hlt:n<hs.length:=by omega
  rw [Ag,hx,Ak];simp -implicitDefEqProofs (disch:=first|exact zd|fail) only [go_sem,Aa,Ab,vfo,vno,c,hx]
theorem qgw {ts:List ByteArray} {B:Nat} {w:Wd} (I:Wok ts B w) (h:Int):0≤(if h<0 then 0 else hAt w h)∧(if h<0 then 0 else hAt w h)≤(w.ob.length:Int):=by
 unfold hAt;split
 ·omega
 ·cases hx:w.hd[h.toNat]? with
  |none=>simp
  |some x=>exact I.hdr.get hx
theorem qgz {d:Nat} (b:Bool):vaf (T d) vad ve0 [.a (.bool b)]=some ([.a (.int .i64 (if b=true then 1 else 0))],[]):=by
 rw [vag rfl];cases b
 ·simp -implicitDefEqProofs (disch:=first|exact zd|fail) only [go_sem,Aa,Ab,ve0,vqk]
 ·simp -implicitDefEqProofs (disch:=first|exact zd|fail) only [go_sem,Aa,Ab,ve0,vqk]
theorem qp7 {d:Nat} (k:Int):vaf (T (d+1)) vad vgl [.a (.int .i64 k)]=some ([.a (.bool (decide (14≤k∧k≤18)))],[]):=by
 have h1:=vd0 (Φ:=T d) (N:=vad) (n:=k) (lo:=14) (hi:=18);rw [vag rfl];simp -implicitDefEqProofs (disch:=first|exact zd|fail) only [go_sem,Aa,Ab,vgl,vst,h1];done
theorem qn7 {d:Nat} {ts:List ByteArray} {w:Wd}:vaf (T d) vad vd4 [cWd false ts w]=some ([],[cWd false ts ⟨w.ob,w.du,w.sl,w.hd,false,false,[],[]⟩]):=by
 rw [vag rfl];obtain ⟨ob,du,sl,hs,ir,dm,wa,he⟩:=w;simp -implicitDefEqProofs (disch:=first|exact zd|fail) only [go_sem,Aa,Ab,vd4,vm2];rfl
theorem qfr {h:Int} {l:List Int} (c:¬plcI h l<0):∃n:Nat,plcI h l=n∧n<l.length:=by
 unfold plcI idxOf at c⊢;cases hf:l.findIdx? (fun x=>decide (x=h)) with
 |none=>rw [hf] at c;exact absurd (by decide) c
 |some i=>exact ⟨i,rfl,(List.findIdx?_eq_some_iff_getElem.1 hf).1⟩
theorem zlj (l:List Int) (n:Nat) (x:Int):(l.map vap).set n (.a (.int .i64 x))=(l.set n x).map vap:=(Am (f:=vap)).symm
attribute [go_sem] zlj
theorem qd3 {d:Nat} {ts:List ByteArray} {B:Nat} {w:Wd} (I:Wok ts B w) {r:Int} (hr:0≤r∧r≤(w.ob.length:Int)):∃(x y:Int) (hs:List Int),Wok ts B {w with hd:=hs}∧
  vaf (T (d+2)) vad vd6 [cWd false ts w,.a (.int .i64 r)]=some ([.a (.int .i64 x),.a (.int .i64 y)],[cWd false ts {w with hd:=hs}]):=by
 have h1:=qd9 (d:=d) (ts:=ts) I.hd;have hl:=I.hd;by_cases c0:r=0
 ·refine ⟨0,-1,w.hd,I,?_⟩;rw [vag rfl];obtain ⟨ob,du,sl,hs,ir,dm,wa,he⟩:=w;dsimp only at *;simp -implicitDefEqProofs (disch:=first|exact zd|fail) only [go_sem,Aa,Ab,vd6,vkf,c0]
 ·by_cases c1:plcI 0 w.hd<0
  ·refine ⟨9,0,w.hd,I,?_⟩;rw [vag rfl];obtain ⟨ob,du,sl,hs,ir,dm,wa,he⟩:=w;dsimp only at *;generalize plcI 0 hs=p at *;simp -implicitDefEqProofs (disch:=first|exact zd|fail) only [go_sem,Aa,Ab,vd6,vkf,c0,h1,c1]
  ·obtain ⟨n,hn,hn1⟩:=qfr c1;have hn2:n<12:=by omega
   obtain ⟨x,hx⟩:∃x,w.hd[n]? =some x:=⟨_,Ac zo⟩
   refine ⟨0,plcI 0 w.hd,w.hd.set n r,⟨I.b,I.bb,I.ob,I.du,I.sl,I.slr,by rw [Ad];exact I.hd,I.hdr.set n hr,I.wa,I.wal,I.he,I.her,I.hel⟩,?_⟩;rw [vag rfl];obtain ⟨ob,du,sl,hs,ir,dm,wa,he⟩:=w;dsimp only at *;rw [hn] at c1 h1⊢;simp -implicitDefEqProofs (disch:=first|exact zd|fail) only [go_sem,Aa,Ab,vd6,vkf,c0,h1,c1,hx]
abbrev bW (ts:List ByteArray) (w:Wd):Option Node:=some (.bx true [.sz va9 (ts.map eStr),.sz vau (w.ob.map eObj),.sz vr1 (w.du.map eBl),.sz vam (w.sl.map vap),.sz vam (w.hd.map vap),.a (.bool w.inR),.a (.bool w.dm),.sz vau (w.wa.map eObj),.sz vam (w.he.map vap)])
abbrev nNm (ts:List ByteArray) (w:Wd) (o:Obj') (out:List Int):vb5:= [(0,bW ts w),(1,some (.sl false 0 vam (out.map vap))),(2,some (.bx false [.a (.int .i64 o.ty),.sz vam (o.vals.map vap)]))]
theorem qn9 {ts:List ByteArray} (w:Wd) {o:Obj'} {n:Nat} {s:ByteArray} (g1:ts[o.ty.toNat]? =some s) (g2:0≤o.ty) (g3:o.vals.length=s.size) (g4:∀(j:Nat) v,o.vals[j]? =some v→bAt s j=114→0≤v∧v≤(n:Int)) (hsz:s.size≤23):
  ∃e,(∃out:List Int,Rin n out∧out.length≤23∧e=⟨[(0,.rf 0),(5,.rf 1),(6,.rf 2),(7,.a (.int .i64 (o.vals.length:Nat))),(20,.a (.bool false))],nNm ts w o out,503⟩)∧
   va7 Φ vad [0,5,6,7] vfw ⟨[(0,.rf 0),(5,.rf 1),(6,.rf 2),(7,.a (.int .i64 (0:Nat)))],nNm ts w o [],3⟩=some (.ext 0,e):=by
 refine vdk (fun r s=>∃(i:Nat) (out:List Int),i+r=o.vals.length∧Rin n out∧out.length≤i∧s=⟨[(0,.rf 0),(5,.rf 1),(6,.rf 2),(7,.a (.int .i64 (i:Nat)))],nNm ts w o out,3⟩) 0 _ (m:=o.vals.length) (vay zo) ⟨0,[],by omega,fun x hx=>(by cases hx),by simp,rfl⟩ ?_
 rintro r _ hr ⟨i,out,hi,hR,hl,rfl⟩
 obtain ⟨t,vs⟩:=o;dsimp only at *;obtain ⟨t,rfl⟩:∃n:Nat,t=n:=⟨t.toNat,by omega⟩
 rw [Ag] at g1;have htl:=(Af.1 g1).1;by_cases hpos:0<r
 ·left;have hw:=vat i zo;have hlt:(i:Int)<vs.length:=by omega
  have hil:i<vs.length:=by omega
  obtain ⟨v,hv⟩:∃b,vs[i]? =some b:=⟨_,Ac hil⟩
  have hx:=vi9 (s:=s) (j:=i) zo;have g5:=g4 i v hv;have hol:(out.map vap).length≤23:=by simp;omega
  by_cases c1:bAt s i=114
  ·have c1':(bAt s i:Int)=114:=by omega
   refine ⟨hpos,_,?_,i+1,out++ [v],by omega,fun x hx=> ?_,by simp;omega,rfl⟩
   ·unfold round nNm vfw;rw [vbt];simp -implicitDefEqProofs (disch:=first|exact zd|fail) only [go_sem,Aa,Ab,hw,hlt,hv,g1,hx,c1']
    (show some _=some _;kernel_rfl)
   ·rcases Ap.1 hx with h|h
    ·exact hR x h
    ·simp at h;subst h;exact g5 c1
  ·have c1':¬(bAt s i:Int)=114:=by omega
   refine ⟨hpos,_,?_,i+1,out,by omega,hR,by omega,rfl⟩;unfold round nNm vfw;simp -implicitDefEqProofs (disch:=first|exact zd|fail) only [go_sem,Aa,Ab,hw,hlt,hv,g1,hx,c1']
   (show some _=some _;kernel_rfl)
 ·right;obtain rfl:i=vs.length:=by omega
  have hlt:¬(vs.length:Int)<vs.length:=by omega
  refine ⟨_,?_,out,hR,by omega,rfl⟩;unfold round nNm vfw;simp -implicitDefEqProofs (disch:=first|exact zd|fail) only [go_sem,Aa,Ab,hlt]
theorem qb5 {d:Nat} {ts:List ByteArray} {B:Nat} {w:Wd} (I:Wok ts B w) (hT:Ty23 ts) {m:Nat} (hm:m<w.ob.length):∃out:List Int,Rin w.ob.length out∧out.length≤23∧
  vaf (T d) vad vf0 [cWd true ts w,.a (.int .i64 (m:Nat))]=some ([.sl false vam (out.map vap)],[]):=by
 obtain ⟨o,ho⟩:∃o,w.ob[m]? =some o:=⟨_,Ac hm⟩
 obtain ⟨s,g1,g2,g3,g4⟩:=I.ob o (Ae ho);have hsz:=hT.z s (Ae g1);obtain ⟨_,⟨out,hR,hl,rfl⟩,key⟩:=qn9 (Φ:=T d) w g1 g2 g3 g4 hsz;refine ⟨out,hR,hl,?_⟩;rw [vag rfl];unfold nNm at key;obtain ⟨ob,du,sl,hs,ir,dm,wa,he⟩:=w;obtain ⟨t,vs⟩:=o;dsimp only at *;simp -implicitDefEqProofs (disch:=first|exact zd|fail) only [go_sem,Aa,Ab,vf0,vqr,ho,vao key]
def FldOk (ts:List ByteArray) (w:Wd) (x:Act') (k:Nat):Prop:=∃(n m j:Nat) (o:Obj') (s:ByteArray),x.a=n∧n<12∧w.hd[n]? =some ((m:Int)+1)∧m<w.ob.length∧w.ob[m]? =some o∧ts[o.ty.toNat]? =some s∧o.vals.length=s.size∧x.b=j∧j<s.size∧bAt s j=k∧(x.kind=5→x.c≤11)
theorem qj7 {d:Nat} {ts:List ByteArray} {B:Nat} {w:Wd} (I:Wok ts B w) (hT:Ty23 ts) (x:Act') (k:Nat) (hk:k<256):∃c:Int,(c=0→FldOk ts w x k)∧
  vaf (T (d+2)) vad va0 [cWd true ts w,cAct true x,.a (.int .u8 (k:Nat))]=some ([.a (.int .i64 c)],[]):=by
 have h1:=vmp (d:=d) (ts:=ts) I.hd x.a;have h2:=vmp (d:=d) (ts:=ts) I.hd x.c;cases hu:usedW w x.a with
 |false=>
  refine ⟨2,by omega,?_⟩;rw [hu] at h1;rw [vag rfl];obtain ⟨xk,xa,xb,xc,xp,xq⟩:=x;simp -implicitDefEqProofs (disch:=first|exact zd|fail) only [go_sem,Aa,Ab,va0,vbh,h1]
 |true=>
  rw [hu] at h1;obtain ⟨n,m,hn,_,hn12,hnm,hm⟩:=vpf I hu;obtain ⟨o,ho⟩:∃o,w.ob[m]? =some o:=⟨_,Ac hm⟩
  obtain ⟨s,g1,g2,g3,g4⟩:=I.ob o (Ae ho);have hsz:=hT.z s (Ae g1);have hdul:=I.du;have hdl:=I.hd;obtain ⟨u,hdu⟩:∃u,w.du[m]? =some u:=⟨_,Ac zo⟩
  have hbb:=I.bb;have hb:=I.b;have e1:Aj.wrap ((m:Int)+1-1)=(m:Nat):=by rw [vai]<;>omega
  have e2:Aj.wrap ((o.vals.length:Int)-1)=(o.vals.length:Int)-1:=by rw [vai]<;>omega
  have h3:=vd0 (Φ:=T (d+1)) (N:=vad) (n:=x.b) (lo:=0) (hi:=(o.vals.length:Int)-1);by_cases hbad:x.kind=5∧x.c≠-1∧usedW w x.c=false
  ·obtain ⟨b1,b2,b3⟩:=hbad;refine ⟨2,by omega,?_⟩;rw [b3] at h2;rw [vag rfl];obtain ⟨xk,xa,xb,xc,xp,xq⟩:=x;dsimp only at *;simp -implicitDefEqProofs (disch:=first|exact zd|fail) only [go_sem,Aa,Ab,va0,vbh,h1,b1,b2,h2]
  ·have hgo:¬x.kind=5∨x.kind=5∧¬x.c≠-1∨x.kind=5∧x.c≠-1∧usedW w x.c=true:=by
    by_cases b1:x.kind=5
    ·by_cases b2:x.c≠-1
     ·cases b3:usedW w x.c
      ·exact absurd ⟨b1,b2,b3⟩ hbad
      ·exact .inr (.inr ⟨b1,b2,rfl⟩)
     ·exact .inr (.inl ⟨b1,b2⟩)
    ·exact .inl b1
   have hc11:x.kind=5→x.c≤11:=fun h=>by
    rcases hgo with h'|⟨_,h'⟩|⟨_,_,h'⟩
    ·exact absurd h h'
    ·omega
    ·obtain ⟨q,_,h1,h2,_⟩:=vpf I h';omega
   by_cases c1:0≤x.b∧x.b≤(o.vals.length:Int)-1
   ·obtain ⟨j,hj⟩:∃j:Nat,x.b=j:=⟨x.b.toNat,by omega⟩
    have hjs:j<s.size:=by omega
    have hx:=vi9 (s:=s) (j:=j) hjs;rw [decide_eq_true c1] at h3
    have fin:∀c:Int,(c=0→bAt s j=k)→(∀v2,usedW w x.c=v2→((¬x.kind=5)∨(x.kind=5∧¬x.c≠-1)∨(x.kind=5∧x.c≠-1∧v2=true))→
      vaf (T (d+2)) vad va0 [cWd true ts w,cAct true x,.a (.int .u8 (k:Nat))]=some ([.a (.int .i64 c)],[]))→∃c:Int,(c=0→FldOk ts w x k)∧
      vaf (T (d+2)) vad va0 [cWd true ts w,cAct true x,.a (.int .u8 (k:Nat))]=some ([.a (.int .i64 c)],[]):=fun c h1 h2=>
     ⟨c,fun h=>⟨n,m,j,o,s,hn,hn12,hnm,hm,ho,g1,g3,hj,hjs,h1 h,hc11⟩,h2 _ rfl hgo⟩
    by_cases c2:bAt s j=k
    ·by_cases z:(x.kind=3∨x.kind=5)∧u=true∧w.inR=false
     ·refine fin 6 zo fun v2 hv2 hgo2=> ?_;rw [hv2] at h2;clear fin hbad hv2 hu hc11 I hgo;obtain ⟨z1,rfl,z3⟩:=z;rw [vag rfl];obtain ⟨xk,xa,xb,xc,xp,xq⟩:=x;obtain ⟨ob,du,sl,hs,ir,dm,wa,he⟩:=w;obtain ⟨t,vs⟩:=o;dsimp only at *;obtain ⟨t,rfl⟩:∃n:Nat,t=n:=⟨t.toNat,by omega⟩
      rw [Ag] at g1;have htl:=(Af.1 g1).1;subst hn z3 hj;have c2':¬(bAt s j:Int)≠(k:Int):=by omega
      rcases hgo2 with b1|⟨b1,b2⟩|⟨b1,b2,rfl⟩
      ·have b3:xk=3:=by omega
       simp -implicitDefEqProofs (disch:=first|exact zd|fail) only [go_sem,Aa,Ab,va0,vbh,h1,h2,b3,hnm,e1,ho,e2,h3,g1,hx,c2',hdu]
      ·simp -implicitDefEqProofs (disch:=first|exact zd|fail) only [go_sem,Aa,Ab,va0,vbh,h1,h2,b1,b2,hnm,e1,ho,e2,h3,g1,hx,c2',hdu]
      ·simp -implicitDefEqProofs (disch:=first|exact zd|fail) only [go_sem,Aa,Ab,va0,vbh,h1,h2,b1,b2,hnm,e1,ho,e2,h3,g1,hx,c2',hdu]
     ·refine fin 0 (fun _=>c2) fun v2 hv2 hgo2=> ?_;rw [hv2] at h2;clear fin hbad hv2 hu hc11 I hgo;rw [vag rfl];obtain ⟨xk,xa,xb,xc,xp,xq⟩:=x;obtain ⟨ob,du,sl,hs,ir,dm,wa,he⟩:=w;obtain ⟨t,vs⟩:=o;dsimp only at *;obtain ⟨t,rfl⟩:∃n:Nat,t=n:=⟨t.toNat,by omega⟩
      rw [Ag] at g1;have htl:=(Af.1 g1).1;subst hn hj;have c2':¬(bAt s j:Int)≠(k:Int):=by omega
      by_cases b3:xk=3
      ·have b4:¬xk=5:=by omega
       cases u
       ·simp -implicitDefEqProofs (disch:=first|exact zd|fail) only [go_sem,Aa,Ab,va0,vbh,h1,h2,b3,hnm,e1,ho,e2,h3,g1,hx,c2',hdu]
       ·obtain rfl:ir=true:=by cases ir<;>simp_all
        simp -implicitDefEqProofs (disch:=first|exact zd|fail) only [go_sem,Aa,Ab,va0,vbh,h1,h2,b3,hnm,e1,ho,e2,h3,g1,hx,c2',hdu]
      ·rcases hgo2 with b1|⟨b1,b2⟩|⟨b1,b2,rfl⟩
       ·simp -implicitDefEqProofs (disch:=first|exact zd|fail) only [go_sem,Aa,Ab,va0,vbh,h1,h2,b1,b3,hnm,e1,ho,e2,h3,g1,hx,c2',hdu]
       ·cases u
        ·simp -implicitDefEqProofs (disch:=first|exact zd|fail) only [go_sem,Aa,Ab,va0,vbh,h1,h2,b1,b2,hnm,e1,ho,e2,h3,g1,hx,c2',hdu]
        ·obtain rfl:ir=true:=by cases ir<;>simp_all
         simp -implicitDefEqProofs (disch:=first|exact zd|fail) only [go_sem,Aa,Ab,va0,vbh,h1,h2,b1,b2,hnm,e1,ho,e2,h3,g1,hx,c2',hdu]
       ·cases u
        ·simp -implicitDefEqProofs (disch:=first|exact zd|fail) only [go_sem,Aa,Ab,va0,vbh,h1,h2,b1,b2,hnm,e1,ho,e2,h3,g1,hx,c2',hdu]
        ·obtain rfl:ir=true:=by cases ir<;>simp_all
         simp -implicitDefEqProofs (disch:=first|exact zd|fail) only [go_sem,Aa,Ab,va0,vbh,h1,h2,b1,b2,hnm,e1,ho,e2,h3,g1,hx,c2',hdu]
    ·refine fin 5 zo fun v2 hv2 hgo2=> ?_;rw [hv2] at h2;clear fin hbad hv2 hu hc11 I hgo;rw [vag rfl];obtain ⟨xk,xa,xb,xc,xp,xq⟩:=x;obtain ⟨ob,du,sl,hs,ir,dm,wa,he⟩:=w;obtain ⟨t,vs⟩:=o;dsimp only at *;obtain ⟨t,rfl⟩:∃n:Nat,t=n:=⟨t.toNat,by omega⟩
     rw [Ag] at g1;have htl:=(Af.1 g1).1;subst hn hj;have c2':(bAt s j:Int)≠(k:Int):=by omega
     rcases hgo2 with b1|⟨b1,b2⟩|⟨b1,b2,rfl⟩
     ·simp -implicitDefEqProofs (disch:=first|exact zd|fail) only [go_sem,Aa,Ab,va0,vbh,h1,h2,b1,hnm,e1,ho,e2,h3,g1,hx,c2']
     ·simp -implicitDefEqProofs (disch:=first|exact zd|fail) only [go_sem,Aa,Ab,va0,vbh,h1,h2,b1,b2,hnm,e1,ho,e2,h3,g1,hx,c2']
     ·simp -implicitDefEqProofs (disch:=first|exact zd|fail) only [go_sem,Aa,Ab,va0,vbh,h1,h2,b1,b2,hnm,e1,ho,e2,h3,g1,hx,c2']
   ·refine ⟨4,by omega,?_⟩;rw [decide_eq_false c1] at h3;rw [vag rfl];obtain ⟨xk,xa,xb,xc,xp,xq⟩:=x;obtain ⟨ob,du,sl,hs,ir,dm,wa,he⟩:=w;obtain ⟨t,vs⟩:=o;dsimp only at *;obtain ⟨t,rfl⟩:∃n:Nat,t=n:=⟨t.toNat,by omega⟩
    rw [Ag] at g1;have htl:=(Af.1 g1).1;subst hn;rcases hgo with b1|⟨b1,b2⟩|⟨b1,b2,b3⟩
    ·simp -implicitDefEqProofs (disch:=first|exact zd|fail) only [go_sem,Aa,Ab,va0,vbh,h1,b1,hnm,e1,ho,e2,h3]
    ·simp -implicitDefEqProofs (disch:=first|exact zd|fail) only [go_sem,Aa,Ab,va0,vbh,h1,b1,b2,hnm,e1,ho,e2,h3]
    ·rw [b3] at h2;simp -implicitDefEqProofs (disch:=first|exact zd|fail) only [go_sem,Aa,Ab,va0,vbh,h1,b1,b2,h2,hnm,e1,ho,e2,h3]
theorem Wok.put {ts:List ByteArray} {B:Nat} {w:Wd} (I:Wok ts B w) {m j:Nat} {o:Obj'} {s:ByteArray} (ho:w.ob[m]? =some o) (g1:ts[o.ty.toNat]? =some s) {v:Int} (hv:bAt s j=114→0≤v∧v≤(w.ob.length:Int)):
  Wok ts B {w with ob:=w.ob.set m ⟨o.ty,o.vals.set j v⟩}:=by
 refine ⟨by rw [Ad];exact I.b,I.bb,?_,by rw [Ad];exact I.du,I.sl,by rw [Ad];exact I.slr,I.hd,by rw [Ad];exact I.hdr,by rw [Ad];exact I.wa,by rw [Ad];exact I.wal,I.he,by rw [Ad];exact I.her,I.hel⟩;intro x hx;rw [Ad];rcases Ai hx with h|rfl
 ·exact I.ob x h
 ·obtain ⟨s',h1,h2,h3,h4⟩:=I.ob o (Ae ho);rw [g1] at h1;cases h1;refine ⟨s,g1,h2,by rw [Ad];exact h3,fun i y hy hb=> ?_⟩;by_cases hij:j=i
  ·subst hij;have hl:=(Af.1 hy).1;rw [Ad] at hl;rw [List.getElem?_set_self hl] at hy;cases hy;exact hv hb
  ·rw [Al hij] at hy;exact h4 i y hy hb
theorem qfe (l:List Obj') (m:Nat) (t:Int) (vs:List Int):(l.map eObj).set m (.st [.a (.int .i64 t),.sl vam (vs.map vap)])=(l.set m ⟨t,vs⟩).map eObj:=by
 show (l.map eObj).set m (eObj ⟨t,vs⟩)=_;exact (Am (f:=eObj)).symm
theorem qh8 {d:Nat} {ts:List ByteArray} {B:Nat} {w:Wd} (I:Wok ts B w) (hT:Ty23 ts) (x:Act') (hk:2≤x.kind∧x.kind≤5):∃(a b:Int) (w':Wd),Wok ts B w'∧
  vaf (T (d+3)) vad vb9 [cWd false ts w,cAct true x]=some ([.a (.int .i64 a),.a (.int .i64 b)],[cWd false ts w']):=by
 obtain ⟨k,hk1,hk2⟩:∃k:Nat,k<256∧((¬x.kind=4∧¬x.kind=5∧k=105)∨(x.kind=4∧k=114)∨(x.kind=5∧¬x.kind=4∧k=114)):=by
  by_cases h4:x.kind=4
  ·exact ⟨114,by omega,.inr (.inl ⟨h4,rfl⟩)⟩
  ·by_cases h5:x.kind=5
   ·exact ⟨114,by omega,.inr (.inr ⟨h5,h4,rfl⟩)⟩
   ·exact ⟨105,by omega,.inl ⟨h4,h5,rfl⟩⟩
 obtain ⟨c,hc,h1⟩:=qj7 (d:=d) I hT x k hk1;by_cases c0:c=0
 ·obtain ⟨n,m,j,o,s,f1,f2,f3,f4,f5,f6,f7,f8,f9,f10,f11⟩:=hc c0;have hdl:=I.hd;have hbb:=I.bb;have hb:=I.b;obtain ⟨v,hv⟩:∃v,o.vals[j]? =some v:=⟨_,Ac zo⟩
  have e1:Aj.wrap ((m:Int)+1-1)=(m:Nat):=by rw [vai]<;>omega
  by_cases k2:x.kind=2
  ·refine ⟨0,v,w,I,?_⟩;subst c0;clear hc;rw [vag rfl];obtain ⟨xk,xa,xb,xc,xp,xq⟩:=x;obtain ⟨ob,du,sl,hs,ir,dm,wa,he⟩:=w;obtain ⟨t,vs⟩:=o;dsimp only at *;subst k2 f1 f8;obtain rfl:k=105:=by omega
   rw [show ((105:Nat):Int)=105 from rfl] at h1;simp -implicitDefEqProofs (disch:=first|exact zd|fail) only [go_sem,Aa,Ab,vb9,vdi,h1,f3,e1,f5,hv];done
  ·by_cases k3:x.kind=3
   ·have I':=I.put (j:=j) (v:=x.c) f5 f6 (fun h=>by omega);refine ⟨0,0,_,I',?_⟩;subst c0;clear hc;rw [vag rfl];obtain ⟨xk,xa,xb,xc,xp,xq⟩:=x;obtain ⟨ob,du,sl,hs,ir,dm,wa,he⟩:=w;obtain ⟨t,vs⟩:=o;dsimp only at *;subst k3 f1 f8;obtain rfl:k=105:=by omega
    rw [show ((105:Nat):Int)=105 from rfl] at h1;simp -implicitDefEqProofs (disch:=first|exact zd|fail) only [go_sem,Aa,Ab,vb9,vdi,h1,f3,e1,f5,hv,qfe];done
   ·by_cases k4:x.kind=4
    ·obtain ⟨s',p1,p2,p3,p4⟩:=I.ob o (Ae f5);rw [f6] at p1;cases p1;obtain ⟨a,b,hs',I',h2⟩:=qd3 (d:=d) I (p4 j v hv zo);refine ⟨a,b,_,I',?_⟩;subst c0;clear hc;rw [vag rfl];obtain ⟨xk,xa,xb,xc,xp,xq⟩:=x;obtain ⟨ob,du,sl,hs,ir,dm,wa,he⟩:=w;obtain ⟨t,vs⟩:=o;dsimp only at *;subst k4 f1 f8;obtain rfl:k=114:=by omega
     rw [show ((114:Nat):Int)=114 from rfl] at h1;simp -implicitDefEqProofs (disch:=first|exact zd|fail) only [go_sem,Aa,Ab,vb9,vdi,h1,f3,e1,f5,hv,h2];done
    ·have k5:x.kind=5:=by omega
     have h2:=qfo (d:=d+2) (ts:=ts) I.hd x.c (f11 k5);have hr:=qgw I x.c;have I':=I.put (j:=j) (v:=if x.c<0 then 0 else hAt w x.c) f5 f6 (fun _=>hr);refine ⟨0,0,_,I',?_⟩;generalize (if x.c<0 then 0 else hAt w x.c)=y at *;subst c0;clear hc;rw [vag rfl];obtain ⟨xk,xa,xb,xc,xp,xq⟩:=x;obtain ⟨ob,du,sl,hs,ir,dm,wa,he⟩:=w;obtain ⟨t,vs⟩:=o;dsimp only at *;subst k5 f1 f8;obtain rfl:k=114:=by omega
     rw [show ((114:Nat):Int)=114 from rfl] at h1;simp -implicitDefEqProofs (disch:=first|exact zd|fail) only [go_sem,Aa,Ab,vb9,vdi,h1,f3,e1,f5,hv,h2,qfe];done
 ·refine ⟨c,0,w,I,?_⟩;have c0':c≠0:=c0;rw [vag rfl];obtain ⟨xk,xa,xb,xc,xp,xq⟩:=x;obtain ⟨ob,du,sl,hs,ir,dm,wa,he⟩:=w;dsimp only at *;rcases hk2 with ⟨b1,b2,rfl⟩|⟨b1,rfl⟩|⟨b1,b2,rfl⟩
  ·rw [show ((105:Nat):Int)=105 from rfl] at h1;simp -implicitDefEqProofs (disch:=first|exact zd|fail) only [go_sem,Aa,Ab,vb9,vdi,h1,b1,b2,c0']
  ·rw [show ((114:Nat):Int)=114 from rfl] at h1;subst b1;simp -implicitDefEqProofs (disch:=first|exact zd|fail) only [go_sem,Aa,Ab,vb9,vdi,h1,c0']
  ·rw [show ((114:Nat):Int)=114 from rfl] at h1;subst b1;simp -implicitDefEqProofs (disch:=first|exact zd|fail) only [go_sem,Aa,Ab,vb9,vdi,h1,b2,c0']
theorem Wok.mono {ts:List ByteArray} {B C:Nat} {w:Wd} (I:Wok ts B w) (h:B≤C) (hC:C≤1000):Wok ts C w:=⟨by have:=I.b;omega,hC,I.ob,I.du,I.sl,I.slr,I.hd,I.hdr,I.wa,I.wal,I.he,I.her,I.hel⟩
theorem Wok.new {ts:List ByteArray} {B:Nat} {w:Wd} (I:Wok ts B w) (hB:B+1≤1000) {t n:Nat} {s:ByteArray} (ht:ts[t]? =some s):
  Wok ts (B+1) {w with ob:=w.ob++ [⟨(t:Int),Ah s.size 0⟩],du:=w.du++ [false],hd:=w.hd.set n ((w.ob.length:Int)+1)}:=by
 have hl:(w.ob++ [(⟨(t:Int),Ah s.size 0⟩:Obj')]).length=w.ob.length+1:=by simp
 have h1:w.ob.length≤w.ob.length+1:=by omega
 refine ⟨by show (w.ob++ [_]).length≤_;rw [hl];have:=I.b;omega,hB,?_,by show (w.du++ [false]).length=(w.ob++ [_]).length;rw [hl,An,I.du];rfl,I.sl,by show Rin (w.ob++ [_]).length _;rw [hl];exact I.slr.mono h1,by rw [Ad];exact I.hd,by show Rin (w.ob++ [_]).length _;rw [hl];exact (I.hdr.mono h1).set n zo,
  fun o ho=>by show ObOk ts (w.ob++ [_]).length o;rw [hl];exact (I.wa o ho).mono h1,by show _≤(w.ob++ [_]).length;rw [hl];have:=I.wal;show w.wa.length≤_;omega,I.he,by show Rin (w.ob++ [_]).length _;rw [hl];exact I.her.mono h1,I.hel⟩
 intro x hx;show ObOk ts (w.ob++ [_]).length x;rw [hl];rcases Ap.1 hx with h|h
 ·exact (I.ob x h).mono h1
 ·simp at h;subst h;refine ⟨s,by rw [Ag];exact ht,by simp,by simp,fun j v hv _=> ?_⟩;dsimp only at hv;rw [List.getElem?_replicate] at hv;split at hv
  ·cases hv;omega
  ·cases hv
theorem qof {d:Nat} {ts:List ByteArray} {B:Nat} {w:Wd} (I:Wok ts B w) (hB:B+1≤1000) (hT:Ty23 ts) (x:Act'):∃(a b:Int) (w':Wd),Wok ts (B+1) w'∧
  vaf (T (d+2)) vad vb2 [cWd false ts w,cAct true x]=some ([.a (.int .i64 a),.a (.int .i64 b)],[cWd false ts w']):=by
 have I1:=I.mono (Aq B) hB;have h0:=qd9 (d:=d) (ts:=ts) I.hd;have h1:=vmp (d:=d) (ts:=ts) I.hd x.a;have h2:=vmp (d:=d) (ts:=ts) I.hd x.b;have hn0:=hT.n0;have hn1:=hT.n1;have hdl:=I.hd;have hdul:=I.du;have hbb:=I.bb;have hb:=I.b;by_cases k1:x.kind=1
 ·have e1:Aj.wrap ((ts.length:Int)-1)=(ts.length:Int)-1:=by rw [vai]<;>omega
  have h3:=vd0 (Φ:=T (d+1)) (N:=vad) (n:=x.a) (lo:=0) (hi:=(ts.length:Int)-1);by_cases c1:0≤x.a∧x.a≤(ts.length:Int)-1
  ·rw [decide_eq_true c1] at h3;by_cases c2:plcI 0 w.hd<0
   ·refine ⟨9,0,w,I1,?_⟩;rw [vag rfl];obtain ⟨xk,xa,xb,xc,xp,xq⟩:=x;obtain ⟨ob,du,sl,hs,ir,dm,wa,he⟩:=w;dsimp only at *;generalize plcI 0 hs=p at *;simp -implicitDefEqProofs (disch:=first|exact zd|fail) only [go_sem,Aa,Ab,vb2,vcv,k1,e1,h3,h0,c2]
   ·obtain ⟨n,hn,hn1⟩:=qfr c2;obtain ⟨z,hz⟩:∃z,w.hd[n]? =some z:=⟨_,Ac zo⟩
    obtain ⟨t,ht⟩:∃t:Nat,x.a=t:=⟨x.a.toNat,by omega⟩
    obtain ⟨s,hts⟩:∃s,ts[t]? =some s:=⟨_,Ac zo⟩
    have hsz:=hT.z s (Ae hts);refine ⟨0,plcI 0 w.hd,_,I.new hB (n:=n) hts,?_⟩;rw [hn] at h0 c2⊢;rw [vag rfl];obtain ⟨xk,xa,xb,xc,xp,xq⟩:=x;obtain ⟨ob,du,sl,hs,ir,dm,wa,he⟩:=w;dsimp only at *;subst ht;have htl:=(Af.1 hts).1;simp -implicitDefEqProofs (disch:=first|exact zd|fail) only [go_sem,Aa,Ab,vb2,vcv,k1,e1,h3,h0,c2,hts,hz,An,List.length_map];simp [eObj,vap]
  ·refine ⟨3,0,w,I1,?_⟩;rw [decide_eq_false c1] at h3;rw [vag rfl];obtain ⟨xk,xa,xb,xc,xp,xq⟩:=x;obtain ⟨ob,du,sl,hs,ir,dm,wa,he⟩:=w;dsimp only at *;simp -implicitDefEqProofs (disch:=first|exact zd|fail) only [go_sem,Aa,Ab,vb2,vcv,k1,e1,h3]
 ·cases hu:usedW w x.a with
  |false=>
   refine ⟨2,0,w,I1,?_⟩;rw [hu] at h1;rw [vag rfl];obtain ⟨xk,xa,xb,xc,xp,xq⟩:=x;obtain ⟨ob,du,sl,hs,ir,dm,wa,he⟩:=w;dsimp only at *;simp -implicitDefEqProofs (disch:=first|exact zd|fail) only [go_sem,Aa,Ab,vb2,vcv,k1,h1]
  |true=>
   rw [hu] at h1;obtain ⟨n,m,hn,_,hn12,hnm,hm⟩:=vpf I hu;have hr:Aj.wrap ((m:Int)+1-1)=(m:Nat):=by rw [vai]<;>omega
   by_cases k7:x.kind=7
   ·cases hu2:usedW w x.b with
    |false=>
     refine ⟨2,0,w,I1,?_⟩;rw [hu2] at h2;rw [vag rfl];obtain ⟨xk,xa,xb,xc,xp,xq⟩:=x;obtain ⟨ob,du,sl,hs,ir,dm,wa,he⟩:=w;dsimp only at *;simp -implicitDefEqProofs (disch:=first|exact zd|fail) only [go_sem,Aa,Ab,vb2,vcv,k1,h1,k7,h2]
    |true=>
     rw [hu2] at h2;obtain ⟨n2,m2,hn2,_,hn122,hnm2,hm2⟩:=vpf I hu2;obtain ⟨y,h4⟩:∃y:Int,vaf (T (d+1)) vad ve0 [.a (.bool (decide ((m:Int)+1=(m2:Int)+1)))]=some ([.a (.int .i64 y)],[]):=⟨_,qgz _⟩
     refine ⟨0,y,w,I1,?_⟩;rw [vag rfl];obtain ⟨xk,xa,xb,xc,xp,xq⟩:=x;obtain ⟨ob,du,sl,hs,ir,dm,wa,he⟩:=w;dsimp only at *;subst hn hn2;simp -implicitDefEqProofs (disch:=first|exact zd|fail) only [go_sem,Aa,Ab,vb2,vcv,k1,h1,k7,h2,hnm,hnm2,h4];done
   ·by_cases k6:x.kind=6
    ·refine ⟨0,0,_,(show Wok ts B {w with hd:=w.hd.set n 0} from ⟨I.b,I.bb,I.ob,I.du,I.sl,I.slr,by rw [Ad];exact I.hd,I.hdr.set n zo,I.wa,I.wal,I.he,I.her,I.hel⟩).mono (Aq B) hB,?_⟩;rw [vag rfl];obtain ⟨xk,xa,xb,xc,xp,xq⟩:=x;obtain ⟨ob,du,sl,hs,ir,dm,wa,he⟩:=w;dsimp only at *;subst hn;simp -implicitDefEqProofs (disch:=first|exact zd|fail) only [go_sem,Aa,Ab,vb2,vcv,k1,h1,k7,k6,hnm];done
    ·by_cases k8:x.kind=8
     ·obtain ⟨o,ho⟩:∃o,w.ob[m]? =some o:=⟨_,Ac hm⟩
      refine ⟨0,o.ty,w,I1,?_⟩;obtain ⟨t,vs⟩:=o;rw [vag rfl];obtain ⟨xk,xa,xb,xc,xp,xq⟩:=x;obtain ⟨ob,du,sl,hs,ir,dm,wa,he⟩:=w;dsimp only at *;subst hn;simp -implicitDefEqProofs (disch:=first|exact zd|fail) only [go_sem,Aa,Ab,vb2,vcv,k1,h1,k7,k6,k8,hnm,hr,ho];done
     ·by_cases k9:x.kind=9
      ·obtain ⟨u,hdu⟩:∃u,w.du[m]? =some u:=⟨_,Ac zo⟩
       obtain ⟨y,h4⟩:∃y:Int,vaf (T (d+1)) vad ve0 [.a (.bool u)]=some ([.a (.int .i64 y)],[]):=⟨_,qgz _⟩
       refine ⟨0,y,w,I1,?_⟩;rw [vag rfl];obtain ⟨xk,xa,xb,xc,xp,xq⟩:=x;obtain ⟨ob,du,sl,hs,ir,dm,wa,he⟩:=w;dsimp only at *;subst hn;simp -implicitDefEqProofs (disch:=first|exact zd|fail) only [go_sem,Aa,Ab,vb2,vcv,k1,h1,k7,k6,k8,k9,hnm,hr,hdu,h4];done
      ·refine ⟨0,0,w,I1,?_⟩;rw [vag rfl];obtain ⟨xk,xa,xb,xc,xp,xq⟩:=x;obtain ⟨ob,du,sl,hs,ir,dm,wa,he⟩:=w;dsimp only at *;subst hn;simp -implicitDefEqProofs (disch:=first|exact zd|fail) only [go_sem,Aa,Ab,vb2,vcv,k1,h1,k7,k6,k8,k9,hnm];done
abbrev bWd (w:Wd) (k:Nat):Option Node:=some (.bx false [.rf k,.rf (k+1),.rf (k+2),.rf (k+3),.rf (k+4),.a (.bool w.inR),.a (.bool w.dm),.rf (k+5),.rf (k+6)])
abbrev nWd (k:Nat) (ts:List ByteArray) (w:Wd) (X:List PV):vb5:= [(k,some (.sl false 0 va9 (ts.map eStr))),(k+1,some (.sl false 0 vau (w.ob.map eObj))),(k+2,some (.sl false 0 vr1 (w.du.map eBl))),(k+3,some (.sl false 0 vam (w.sl.map vap))),(k+4,some (.sl false 0 vam (w.hd.map vap))),(k+5,some (.sl false 0 vau X)),(k+6,some (.sl false 0 vam (w.he.map vap)))]
theorem Wok.back1 {ts:List ByteArray} {B:Nat} {w:Wd} (I:Wok ts B w) {i:Nat} {o:Obj'} (ho:ObOk ts w.ob.length o):Wok ts B {w with ob:=w.ob.set i o}:=by
 refine ⟨by rw [Ad];exact I.b,I.bb,?_,by rw [Ad];exact I.du,I.sl,by rw [Ad];exact I.slr,I.hd,by rw [Ad];exact I.hdr,by rw [Ad];exact I.wa,by rw [Ad];exact I.wal,I.he,by rw [Ad];exact I.her,I.hel⟩;intro x hx;rw [Ad];rcases Ai hx with h|rfl
 ·exact I.ob x h
 ·exact ho
def Rest (wa:List Obj') (i:Nat) (X:List PV):Prop:=X.length=wa.length∧∀j,i≤j→X[j]? =(wa.map eObj)[j]?
theorem qtp {ts:List ByteArray} {B:Nat} {w:Wd} (I:Wok ts B w):∃e,(∃(O:List Obj') (X:List PV),Wok ts B {w with ob:=O}∧e=⟨[(0,.rf 0),(2,.a (.int .i64 (w.wa.length:Nat))),(9,.a (.bool false)),(10000,.rf 0)],(0,bWd w 1)::nWd 1 ts {w with ob:=O} X,708⟩)∧
  va7 Φ vad [0,2,10000] vgg ⟨[(0,.rf 0),(2,.a (.int .i64 (0:Nat))),(10000,.rf 0)],(0,bWd w 1)::nWd 1 ts w (w.wa.map eObj),8⟩=some (.ext 0,e):=by
 have hbb:=I.bb;have hb:=I.b;have hwal:=I.wal;have hdul:=I.du;refine vdk (fun r s=>∃(i:Nat) (O:List Obj') (X:List PV),i+r=w.wa.length∧O.length=w.ob.length∧Wok ts B {w with ob:=O}∧Rest w.wa i X∧s=⟨[(0,.rf 0),(2,.a (.int .i64 (i:Nat))),(10000,.rf 0)],(0,bWd w 1)::nWd 1 ts {w with ob:=O} X,8⟩) 0 _ (m:=w.wa.length) (vay zo) ⟨0,w.ob,_,by omega,rfl,I,⟨by simp,fun _ _=>rfl⟩,rfl⟩ ?_
 rintro r _ hr ⟨i,O,X,hi,hO,J,⟨hX,hXj⟩,rfl⟩
 by_cases hpos:0<r
 ·left;have hw:=vat i zo;have hlt:(i:Int)<X.length:=by omega
  obtain ⟨o,ho⟩:∃b,w.wa[i]? =some b:=⟨_,Ac zo⟩
  have hx:X[i]? =some (eObj o):=by rw [hXj i (Nat.le_refl _),List.getElem?_map,ho];rfl
  obtain ⟨o2,ho2⟩:∃b,O[i]? =some b:=⟨_,Ac zo⟩
  obtain ⟨u,hu⟩:∃b,w.du[i]? =some b:=⟨_,Ac zo⟩
  have h1:i<w.du.length:=by omega
  have h2:i<X.length:=by omega
  have h3:i<O.length:=by omega
  cases u with
  |false=>
   refine ⟨hpos,_,?_,i+1,O,X,by omega,hO,J,⟨hX,fun j hj=>hXj j zo⟩,rfl⟩;clear I J hXj ho;obtain ⟨ob,du,sl,hs,ir,dm,wa,he⟩:=w;dsimp only at *;unfold round vgg;simp -implicitDefEqProofs (disch:=first|exact zd|fail) only [go_sem,Aa,Ab,hx,hu,hw,hlt]
   (show some _=some _;kernel_rfl)
  |true=>
   have J':=J.back1 (i:=i) (by have:=I.wa o (Ae ho);rw [←hO] at this;exact this);refine ⟨hpos,_,?_,i+1,O.set i o,X.set i (.st [.a (.int .i64 o.ty),.un]),by omega,by rw [Ad];exact hO,J',⟨by rw [Ad];exact hX,fun j hj=>by rw [Al zo];exact hXj j zo⟩,rfl⟩;clear I J hXj ho J';obtain ⟨ob,du,sl,hs,ir,dm,wa,he⟩:=w;obtain ⟨t,vs⟩:=o;dsimp only at *;rw [qg2] at hx;unfold nWd;dsimp only;rw [show (O.set i ⟨t,vs⟩).map eObj=(O.map eObj).set i (eObj ⟨t,vs⟩) from Am];unfold round vgg;simp -implicitDefEqProofs (disch:=first|exact zd|fail) only [go_sem,Aa,Ab,hx,hu,ho2,hw,hlt]
   (show some _=some _;kernel_rfl)
 ·right;obtain rfl:i=w.wa.length:=by omega
  have hlt:¬((w.wa.length:Nat):Int)<X.length:=by omega
  refine ⟨_,?_,O,X,J,rfl⟩;clear I J hXj;obtain ⟨ob,du,sl,hs,ir,dm,wa,he⟩:=w;dsimp only at *;unfold round vgg;simp -implicitDefEqProofs (disch:=first|exact zd|fail) only [go_sem,Aa,Ab,hlt]
theorem qma {d:Nat} {ts:List ByteArray} {w:Wd} {X:List PV}:vaf (T d) vad vd4 [.bx false [.sl false va9 (ts.map eStr),.sl false vau (w.ob.map eObj),.sl false vr1 (w.du.map eBl),.sl false vam (w.sl.map vap),.sl false vam (w.hd.map vap),.a (.bool w.inR),.a (.bool w.dm),.sl false vau X,.un]]=
  some ([],[cWd false ts ⟨w.ob,w.du,w.sl,w.hd,false,false,[],[]⟩]):=by
 rw [vag rfl];obtain ⟨ob,du,sl,hs,ir,dm,wa,he⟩:=w;simp -implicitDefEqProofs (disch:=first|exact zd|fail) only [go_sem,Aa,Ab,vd4,vm2];rfl
theorem qfg {d:Nat} {ts:List ByteArray} {B:Nat} {w:Wd} (I:Wok ts B w) (hi:w.inR=true):∃w':Wd,Wok ts B w'∧vaf (T (d+1)) vad vgp [cWd false ts w]=some ([],[cWd false ts w']):=by
 obtain ⟨_,⟨O,X,J,rfl⟩,key⟩:=qtp (Φ:=T (d+1)) I;have h1:=qma (d:=d) (ts:=ts) (X:=X) (w:=⟨O,w.du,w.he,w.hd,w.inR,w.dm,w.wa,[]⟩);refine ⟨⟨O,w.du,w.he,w.hd,false,false,[],[]⟩,⟨J.b,J.bb,J.ob,J.du,I.he hi,J.her,J.hd,J.hdr,fun _ h=>(by cases h),by simp,by simp,fun _ h=>(by cases h),by simp⟩,?_⟩;rw [vag rfl];obtain ⟨ob,du,sl,hs,ir,dm,wa,he⟩:=w;dsimp only at *;simp -implicitDefEqProofs (disch:=first|exact zd|fail) only [go_sem,Aa,Ab,vgp,vrh,vao key,h1];rfl
