/- Drawn types and graphs. -/
import Derived.Test.YtkidnhclcbcglaaGreatLawRead
import Derived.Test.YtkidnhclcbcglaaGreatLawT
open Nat renaming reduceAdd->Aa,reduceBEq->Ab
open List renaming mem_append->Ac,length_append->Ae,getElem?_eq_some_iff->Af,getElem?_eq_getElem->Ag
open Go.IntKind renaming i64->Ad
namespace Go.Proofs.YtkidnhclcbcglaaGreat.VM
open Go Sy
variable {Φ:Nat→Option Callee} {N:Nat}
set_option maxRecDepth 100000
set_option maxHeartbeats 8000000
abbrev cRd (bs:List Nat) (p:Nat):CV:= .bx false [.sl true vcd (bs.map eU8),.a (.int .i64 p)]
abbrev nRd (bs:List Nat) (p:Nat):Option Node:=some (.bx false [.sz vcd (bs.map eU8),.a (.int .i64 p)])
theorem qqg {d:Nat} {bs:List Nat} (hb:Bs bs) {p:Nat} (hp:p≤bs.length) (most:Int) (h0:1≤most) (h1:most≤1000):∃(v q:Nat),1≤v∧(v:Int)≤most∧q≤bs.length∧
  vaf (T (d+2)) vad ve3 [cRd bs p,.a (.int .i64 4),.a (.int .i64 most)]=some ([.a (.int .i64 v)],[cRd bs q]):=by
 have hl:=hb.len;have e1:Int.tdiv (bs.length:Int) 4=((bs.length/4:Nat):Int):=(Int.ofNat_tdiv bs.length 4).symm;have e2:Ad.wrap ((bs.length/4:Nat):Int)=((bs.length/4:Nat):Int):=by rw [vai]<;>omega
 have e3:Ad.wrap (1+((bs.length/4:Nat):Int))=((bs.length/4+1:Nat):Int):=by rw [vai]<;>omega
 by_cases c:((bs.length/4+1:Nat):Int)>most
 ·obtain ⟨v,q,hv,hq,he⟩:=va5 (d:=d) hb hp most zo zo;have e4:Ad.wrap (1+(v:Int))=((v+1:Nat):Int):=by rw [vai]<;>omega
  refine ⟨v+1,q,by omega,by omega,hq,?_⟩;rw [vag rfl];simp -implicitDefEqProofs (disch:=first|exact zd|fail) only [go_sem,Aa,Ab,ve3,vmz,he,e1,e2,e3,e4,c]
 ·obtain ⟨v,q,hv,hq,he⟩:=va5 (d:=d) hb hp ((bs.length/4+1:Nat):Int) zo zo;have e4:Ad.wrap (1+(v:Int))=((v+1:Nat):Int):=by rw [vai]<;>omega
  refine ⟨v+1,q,by omega,by omega,hq,?_⟩;rw [vag rfl];simp -implicitDefEqProofs (disch:=first|exact zd|fail) only [go_sem,Aa,Ab,ve3,vmz,he,e1,e2,e3,e4,c]
theorem qdo {s:ByteArray} (h:(ch s).all okC=true) (b:UInt8) (hb:okC b=true):(ch (s++⟨#[b]⟩)).all okC=true:=by
 have:ch (s++⟨#[b]⟩)=ch s++ [b]:=by unfold ch;simp
 rw [this,List.all_append,h];simp [hb]
theorem qjd {d:Nat} {bs:List Nat} (hb:Bs bs) {p:Nat} (hp:p≤bs.length) (v:Nat) (h0:1≤v) (h1:v≤1000):∃e,(∃(s:ByteArray) (q:Nat),s.size=v∧(ch s).all okC=true∧q≤bs.length∧e=⟨[(0,.rf 0),(5,.a (.string s)),(6,.a (.int .i64 (0:Nat))),(12,.a (.bool false)),(10000,.rf 0)],[(0,nRd bs q)],201⟩)∧
  va7 (T (d+2)) vad [0,5,6,10000] vfm ⟨[(0,.rf 0),(5,.a (.string ⟨#[]⟩)),(6,.a (.int .i64 (v:Nat))),(10000,.rf 0)],[(0,nRd bs p)],1⟩=some (.ext 0,e):=by
 refine vdk (fun r t=>∃(s:ByteArray) (q:Nat),s.size+r=v∧(ch s).all okC=true∧q≤bs.length∧t=⟨[(0,.rf 0),(5,.a (.string s)),(6,.a (.int .i64 (r:Nat))),(10000,.rf 0)],[(0,nRd bs q)],1⟩) 0 _ (m:=v) (vay zo) ⟨⟨#[]⟩,p,by show 0+v=v;omega,rfl,hp,rfl⟩ ?_
 rintro r t hr ⟨s,q,hs,hk,hq,rfl⟩
 cases r with
 |zero=>
  right;refine ⟨_,?_,s,q,by omega,hk,hq,rfl⟩;unfold round vfm;simp -implicitDefEqProofs (disch:=first|exact zd|fail) only [go_sem,Aa,Ab,Int.ofNat_zero]
 |succ k=>
  left;obtain ⟨u,q1,hu,hq1,he⟩:=va5 (d:=d) hb hq 2 zo zo;have hw:Ad.wrap (((k+1:Nat):Int)-1)=k:=by rw [vai]<;>omega
  have hpos:(0:Int)<((k+1:Nat):Int):=by omega
  have hz1:(ByteArray.mk #[105]).size=1:=rfl;have hz2:(ByteArray.mk #[114]).size=1:=rfl
  match u,(show u<2 by omega) with
  |0,_=>
   refine ⟨by omega,_,?_,s++⟨#[105]⟩,q1,by rw [ByteArray.size_append];show s.size+1+k=v;omega,qdo hk _ (by decide),hq1,rfl⟩;unfold round vfm;simp -implicitDefEqProofs (disch:=first|exact zd|fail) only [go_sem,Aa,Ab,he,hw,hpos]
   (show some _=some _;kernel_rfl)
  |1,_=>
   refine ⟨by omega,_,?_,s++⟨#[114]⟩,q1,by rw [ByteArray.size_append];show s.size+1+k=v;omega,qdo hk _ (by decide),hq1,rfl⟩;unfold round vfm;simp -implicitDefEqProofs (disch:=first|exact zd|fail) only [go_sem,Aa,Ab,he,hw,hpos]
   (show some _=some _;kernel_rfl)
theorem qce {d:Nat} {bs:List Nat} (hb:Bs bs) {p:Nat} (hp:p≤bs.length) (most:Int) (h0:1≤most) (h1:most≤999):∃(s:ByteArray) (q:Nat),1≤s.size∧(s.size:Int)≤most∧(ch s).all okC=true∧q≤bs.length∧
  vaf (T (d+2)) vad vf1 [cRd bs p,.a (.int .i64 most)]=some ([.a (.string s)],[cRd bs q]):=by
 obtain ⟨v,q,hv,hq,he⟩:=va5 (d:=d) hb hp most zo zo;obtain ⟨_,⟨s,q1,hs,hk,hq1,rfl⟩,key⟩:=qjd (d:=d) hb hq (v+1) zo zo;have e4:Ad.wrap (1+(v:Int))=((v+1:Nat):Int):=by rw [vai]<;>omega
 refine ⟨s,q1,by omega,by omega,hk,hq1,?_⟩;rw [vag rfl];simp -implicitDefEqProofs (disch:=first|exact zd|fail) only [go_sem,Aa,Ab,vf1,vqp,he,e4,vao key]
structure DT (ts:List ByteArray):Prop where
 ne:1≤ts.length
 le:ts.length≤3
 lo:∀s∈ts,1≤s.size
 hi:∀s∈ts,s.size≤23
 oc:∀s∈ts,(ch s).all okC=true
theorem DT.ok {ts:List ByteArray} (h:DT ts):∀s∈ts,okType s=true:=fun s hs=>by
 unfold okType;rw [h.oc s hs,decide_eq_true ⟨h.lo s hs,h.hi s hs⟩];rfl
theorem qh2 {d:Nat} {bs:List Nat} (hb:Bs bs) {p:Nat} (hp:p≤bs.length) {t0:ByteArray} (l0:1≤t0.size) (l1:t0.size≤23) (l2:(ch t0).all okC=true) (v:Nat) (h1:v≤2):∃e,(∃(ts:List ByteArray) (q:Nat),DT ts∧q≤bs.length∧e=⟨[(0,.rf 0),(3,.rf 1),(4,.a (.int .i64 (0:Nat))),(15,.a (.bool false)),(10000,.rf 0)],[(0,nRd bs q),(1,some (.sl false 0 va9 (ts.map eStr)))],202⟩)∧
  va7 (T (d+3)) vad [0,3,4,10000] vfp ⟨[(0,.rf 0),(3,.rf 1),(4,.a (.int .i64 (v:Nat))),(10000,.rf 0)],[(0,nRd bs p),(1,some (.sl false 0 va9 [eStr t0]))],2⟩=some (.ext 0,e):=by
 refine vdk (fun r t=>∃(ts:List ByteArray) (q:Nat),(1≤ts.length∧ts.length+r≤3∧(∀s∈ts,1≤s.size)∧(∀s∈ts,s.size≤23)∧∀s∈ts,(ch s).all okC=true)∧q≤bs.length∧t=⟨[(0,.rf 0),(3,.rf 1),(4,.a (.int .i64 (r:Nat))),(10000,.rf 0)],[(0,nRd bs q),(1,some (.sl false 0 va9 (ts.map eStr)))],2⟩) 0 _ (m:=v) (vay zo) ⟨[t0],p,⟨by simp,by simp;omega,by simpa using l0,by simpa using l1,fun s hs=>by simp at hs;subst hs;exact l2⟩,hp,rfl⟩ ?_
 rintro r t hr ⟨ts,q,⟨a1,a2,a3,a4,a5⟩,hq,rfl⟩
 cases r with
 |zero=>
  right;refine ⟨_,?_,ts,q,⟨a1,by omega,a3,a4,a5⟩,hq,rfl⟩;unfold round vfp;simp -implicitDefEqProofs (disch:=first|exact zd|fail) only [go_sem,Aa,Ab,Int.ofNat_zero]
 |succ k=>
  left;obtain ⟨u,q1,hq1,he⟩:=vce (d:=d) hb hq 4 zo zo;have hw:Ad.wrap (((k+1:Nat):Int)-1)=k:=by rw [vai]<;>omega
  have hpos:(0:Int)<((k+1:Nat):Int):=by omega
  cases u with
  |false=>
   obtain ⟨s,q2,b1,b2,b3,hq2,he2⟩:=qce (d:=d) hb hq1 5 zo zo;refine ⟨by omega,_,?_,ts++ [s],q2,⟨by simp,by simp;omega,fun x hx=> ?_,fun x hx=> ?_,fun x hx=> ?_⟩,hq2,rfl⟩
   ·rw [vbt];unfold round vfp;simp -implicitDefEqProofs (disch:=first|exact zd|fail) only [go_sem,Aa,Ab,he,hw,hpos,he2]
    (show some _=some _;kernel_rfl)
   ·rcases Ac.1 hx with h|h
    ·exact a3 x h
    ·simp at h;subst h;exact b1
   ·rcases Ac.1 hx with h|h
    ·exact a4 x h
    ·simp at h;subst h;omega
   ·rcases Ac.1 hx with h|h
    ·exact a5 x h
    ·simp at h;subst h;exact b3
  |true=>
   obtain ⟨s,q2,b1,b2,b3,hq2,he2⟩:=qce (d:=d) hb hq1 23 zo zo;refine ⟨by omega,_,?_,ts++ [s],q2,⟨by simp,by simp;omega,fun x hx=> ?_,fun x hx=> ?_,fun x hx=> ?_⟩,hq2,rfl⟩
   ·rw [vbt];unfold round vfp;simp -implicitDefEqProofs (disch:=first|exact zd|fail) only [go_sem,Aa,Ab,he,hw,hpos,he2]
    (show some _=some _;kernel_rfl)
   ·rcases Ac.1 hx with h|h
    ·exact a3 x h
    ·simp at h;subst h;exact b1
   ·rcases Ac.1 hx with h|h
    ·exact a4 x h
    ·simp at h;subst h;omega
   ·rcases Ac.1 hx with h|h
    ·exact a5 x h
    ·simp at h;subst h;exact b3
theorem qj0 {d:Nat} {bs:List Nat} (hb:Bs bs) {p:Nat} (hp:p≤bs.length):∃(ts:List ByteArray) (q:Nat),DT ts∧q≤bs.length∧
  vaf (T (d+3)) vad vc0 [cRd bs p]=some ([.sl false va9 (ts.map eStr)],[cRd bs q]):=by
 obtain ⟨u,q1,hu,hq1,he1⟩:=va5 (d:=d+1) hb hp 4 zo zo;obtain ⟨v,q,hv,hq,he⟩:=va5 (d:=d+1) hb hq1 3 zo zo;have fin (t0:ByteArray) (l0:1≤t0.size) (l1:t0.size≤23) (l2:(ch t0).all okC=true) (hx:([.string ⟨#[105,114]⟩,.string ⟨#[114,114,105]⟩,.string ⟨#[114,105]⟩,.string ⟨#[105,114,114]⟩]:List Value)[u]? =some (.string t0)):∃(ts:List ByteArray) (q:Nat),DT ts∧q≤bs.length∧
  vaf (T (d+3)) vad vc0 [cRd bs p]=some ([.sl false va9 (ts.map eStr)],[cRd bs q]):=by
  obtain ⟨_,⟨ts,q1,hs,hq1,rfl⟩,key⟩:=qh2 (d:=d) hb hq l0 l1 l2 v zo;refine ⟨ts,q1,hs,hq1,?_⟩;rw [vag rfl]
  match u,(show u<4 by omega) with
  |0,_=>cases hx;simp -implicitDefEqProofs (disch:=first|exact zd|fail) only [go_sem,Aa,Ab,vc0,vhv,he,he1,vao key]
  |1,_=>cases hx;simp -implicitDefEqProofs (disch:=first|exact zd|fail) only [go_sem,Aa,Ab,vc0,vhv,he,he1,vao key]
  |2,_=>cases hx;simp -implicitDefEqProofs (disch:=first|exact zd|fail) only [go_sem,Aa,Ab,vc0,vhv,he,he1,vao key]
  |3,_=>cases hx;simp -implicitDefEqProofs (disch:=first|exact zd|fail) only [go_sem,Aa,Ab,vc0,vhv,he,he1,vao key]
 match u,(show u<4 by omega) with
 |0,_=>exact fin ⟨#[105,114]⟩ (by decide) (by decide) (by decide) rfl
 |1,_=>exact fin ⟨#[114,114,105]⟩ (by decide) (by decide) (by decide) rfl
 |2,_=>exact fin ⟨#[114,105]⟩ (by decide) (by decide) (by decide) rfl
 |3,_=>exact fin ⟨#[105,114,114]⟩ (by decide) (by decide) (by decide) rfl
def GSh (ts:List ByteArray) (l:List Obj'):Prop:=∀o∈l,∃(t:Nat) (s:ByteArray),o.ty=(t:Int)∧ts[t]? =some s∧o.vals.length=s.size∧∀(j:Nat) v,o.vals[j]? =some v→refAt s j=true→0≤v
theorem GSh.snoc {ts:List ByteArray} {l:List Obj'} (h:GSh ts l) {o:Obj'} {t:Nat} {s:ByteArray} (h1:o.ty=(t:Int)) (h2:ts[t]? =some s) (h3:o.vals.length=s.size∧∀(j:Nat) v,o.vals[j]? =some v→refAt s j=true→0≤v):GSh ts (l++ [o]):=fun x hx=>by
 rcases Ac.1 hx with hx|hx
 ·exact h x hx
 ·simp at hx;subst hx;exact ⟨t,s,h1,h2,h3⟩
abbrev nG (bs:List Nat) (ts:List ByteArray) (q:Nat) (X:List Int) (L:List Obj'):vb5:= [(0,nRd bs q),(1,some (.sl true 0 va9 (ts.map eStr))),(2,some (.bx false [.rf 4,.rf 5])),(3,some (.bx false [.rf 6,.rf 7])),(4,some (.sl false 0 vam [])),(5,some (.sl false 0 vau [])),(6,some (.sl false 0 vam (X.map vap))),(7,some (.sl false 0 vau (L.map eObj)))]
def SG0 (bs:List Nat) (ts:List ByteArray) (q k v:Nat) (X:List Int) (i:Nat):St:=⟨[(0,.rf 0),(1,.rf 1),(2,.a (.int .i64 k)),(8,.rf 2),(9,.rf 3),(10,.a (.int .i64 v)),(11,.a (.int .i64 i)),(10000,.rf 0),(10001,.rf 1)],nG bs ts q X [],8⟩
theorem qpc {d:Nat} {bs:List Nat} (hb:Bs bs) (ts:List ByteArray) {p:Nat} (hp:p≤bs.length) (k v:Nat) (h0:k≤1000) (h1:1≤v∧v≤1000):∃e,(∃(X:List Int) (q:Nat),(X.length=k∧∀x∈X,0≤x)∧q≤bs.length∧e=⟨[(0,.rf 0),(1,.rf 1),(2,.a (.int .i64 k)),(8,.rf 2),(9,.rf 3),(10,.a (.int .i64 v)),(11,.a (.int .i64 X.length)),(23,.a (.bool false)),(10000,.rf 0),(10001,.rf 1)],nG bs ts q X [],308⟩)∧
  va7 (T (d+3)) vad [0,1,2,8,9,10,11,10000,10001] vfl (SG0 bs ts p k v [] 0)=some (.ext 0,e):=by
 refine vdk (fun r t=>∃(X:List Int) (q:Nat),(X.length+r=k∧∀x∈X,0≤x)∧q≤bs.length∧t=SG0 bs ts q k v X X.length) 0 _ (m:=k) (vay zo) ⟨[],p,⟨by simp,by simp⟩,hp,rfl⟩ ?_
 rintro r t hr ⟨X,q,⟨hX,hX0⟩,hq,rfl⟩
 by_cases hpos:0<r
 ·left;obtain ⟨u,q1,hq1,he⟩:=vce (d:=d) hb hq 2 zo zo;have hw:=vat X.length zo;have hlt:(X.length:Int)<k:=by omega
  cases u with
  |false=>
   refine ⟨hpos,_,?_,X++ [0],q1,⟨by simp;omega,fun x hx=>by rcases Ac.1 hx with h|h;exact hX0 x h;simp at h;omega⟩,hq1,rfl⟩;rw [SG0,SG0,Ae];unfold nG;rw [vbt];unfold round vfl;simp -implicitDefEqProofs (disch:=first|exact zd|fail) only [go_sem,Aa,Ab,he,hw,hlt]
   (show some _=some _;kernel_rfl)
  |true=>
   obtain ⟨w,q2,b1,hq2,he2⟩:=va5 (d:=d+1) hb hq1 v zo zo;have e4:Ad.wrap (1+(w:Int))=((w+1:Nat):Int):=by rw [vai]<;>omega
   refine ⟨hpos,_,?_,X++ [((w+1:Nat):Int)],q2,⟨by simp;omega,fun x hx=>by rcases Ac.1 hx with h|h;exact hX0 x h;simp at h;omega⟩,hq2,rfl⟩;rw [SG0,SG0,Ae];unfold nG;rw [vbt];unfold round vfl;simp -implicitDefEqProofs (disch:=first|exact zd|fail) only [go_sem,Aa,Ab,he,hw,he2,hlt,e4]
   (show some _=some _;kernel_rfl)
 ·right;have hlt:¬(X.length:Int)<k:=by omega
  have hk:X.length=k:=by omega
  refine ⟨_,?_,X,q,⟨hk,hX0⟩,hq,rfl⟩;unfold round SG0 nG vfl;simp -implicitDefEqProofs (disch:=first|exact zd|fail) only [go_sem,Aa,Ab,hlt]
abbrev nG2 (bs:List Nat) (ts:List ByteArray) (q:Nat) (X:List Int) (L:List Obj') (t:Nat) (V:List Int):vb5:= [(0,nRd bs q),(1,some (.sl true 0 va9 (ts.map eStr))),(2,some (.bx false [.rf 5,.rf 6])),(3,some (.bx false [.rf 7,.rf 8])),(4,some (.bx false [.a (.int .i64 t),.rf 9])),(5,some (.sl false 0 vam [])),(6,some (.sl false 0 vau [])),(7,some (.sl false 0 vam (X.map vap))),(8,some (.sl false 0 vau (L.map eObj))),(9,some (.sl false 0 vam (V.map vap)))]
def SG2 (bs:List Nat) (ts:List ByteArray) (q v:Nat) (X:List Int) (L:List Obj') (t:Nat) (V:List Int) (i j:Nat):St:=⟨[(0,.rf 0),(1,.rf 1),(8,.rf 2),(9,.rf 3),(10,.a (.int .i64 v)),(13,.a (.int .i64 i)),(14,.rf 4),(15,.a (.int .i64 j)),(10000,.rf 0),(10001,.rf 1)],nG2 bs ts q X L t V,10⟩
theorem qhe {s:ByteArray} {V:List Int} (h:∀(j:Nat) v,V[j]? =some v→refAt s j=true→0≤v) {x:Int} (hx:refAt s V.length=true→0≤x):∀(j:Nat) v,(V++ [x])[j]? =some v→refAt s j=true→0≤v:=by
 intro j v hj hr;by_cases hjl:j<V.length
 ·rw [List.getElem?_append_left hjl] at hj;exact h j v hj hr
 ·have h1:=(Af.1 hj).1;rw [Ae,List.length_singleton] at h1;obtain rfl:j=V.length:=by omega
  rw [List.getElem?_append_right (Nat.le_refl _),Nat.sub_self] at hj;cases hj;exact hx hr
theorem qpr {d:Nat} {bs:List Nat} (hb:Bs bs) (ts:List ByteArray) {p:Nat} (hp:p≤bs.length) (v:Nat) (h1:1≤v∧v≤1000) (X:List Int) (L:List Obj') (i t:Nat) {s:ByteArray} (hs:ts[t]? =some s) (hz:s.size≤1000):∃e,(∃(V:List Int) (q:Nat),(V.length=s.size∧∀(j:Nat) v,V[j]? =some v→refAt s j=true→0≤v)∧q≤bs.length∧e=⟨[(0,.rf 0),(1,.rf 1),(8,.rf 2),(9,.rf 3),(10,.a (.int .i64 v)),(13,.a (.int .i64 i)),(14,.rf 4),(15,.a (.int .i64 V.length)),(55,.a (.bool false)),(10000,.rf 0),(10001,.rf 1)],nG2 bs ts q X L t V,810⟩)∧
  va7 (T (d+3)) vad [0,1,8,9,10,13,14,15,10000,10001] vfx (SG2 bs ts p v X L t [] i 0)=some (.ext 4,e):=by
 have htl:t<ts.length:=(Af.1 hs).1;refine vdk (fun r w=>∃(V:List Int) (q:Nat),(V.length+r=s.size∧∀(j:Nat) v,V[j]? =some v→refAt s j=true→0≤v)∧q≤bs.length∧w=SG2 bs ts q v X L t V i V.length) 4 _ (m:=s.size) (vay zo) ⟨[],p,⟨by simp,by simp⟩,hp,rfl⟩ ?_
 rintro r w hr ⟨V,q,⟨hV,hV0⟩,hq,rfl⟩
 by_cases hpos:0<r
 ·left;obtain ⟨u,q1,hu,hq1,he⟩:=va5 (d:=d+1) hb hq 100 zo zo;have e0:Ad.wrap ((u:Int)-20)=(u:Int)-20:=by rw [vai]<;>omega
  obtain ⟨w,q2,b1,hq2,he2⟩:=va5 (d:=d+1) hb hq1 ((v:Int)+3) zo zo;have e1:Ad.wrap ((v:Int)+3)=(v:Int)+3:=by rw [vai]<;>omega
  have e2:Ad.wrap ((w:Int)-2)=(w:Int)-2:=by rw [vai]<;>omega
  have hw:=vat V.length zo;have hlt:(V.length:Int)<s.size:=by omega
  obtain ⟨b,hb⟩:∃b,(ch s)[V.length]? =some b:=⟨_,Ag (by rw [←ved];omega)⟩
  have hx:=vn2 hb;by_cases c:(b.toNat:Int)=114
  ·obtain ⟨m,hm⟩:∃m,ext2 true ((w:Int)-2) 0=m:=⟨_,rfl⟩
   refine ⟨hpos,_,?_,V++ [m],q2,⟨by simp;omega,qhe hV0 fun _=>by subst hm;unfold ext2;simp;omega⟩,hq2,rfl⟩;rw [SG2,SG2,Ae];unfold nG2;rw [vbt];unfold round vfx;simp -implicitDefEqProofs (disch:=first|exact zd|fail) only [go_sem,Aa,Ab,he,hw,hlt,hs,hx,c,e0,e1,e2,he2,hm]
   (show some _=some _;kernel_rfl)
  ·refine ⟨hpos,_,?_,V++ [(u:Int)-20],q1,⟨by simp;omega,qhe hV0 fun h=>by unfold refAt at h;rw [hb] at h;exact absurd (of_decide_eq_true h) c⟩,hq1,rfl⟩;rw [SG2,SG2,Ae];unfold nG2;rw [vbt];unfold round vfx;simp -implicitDefEqProofs (disch:=first|exact zd|fail) only [go_sem,Aa,Ab,he,hw,hlt,hs,hx,c,e0]
   (show some _=some _;kernel_rfl)
 ·right;have hlt:¬(V.length:Int)<s.size:=by omega
  refine ⟨_,?_,V,q,⟨by omega,hV0⟩,hq,rfl⟩;unfold round SG2 nG2 vfx;simp -implicitDefEqProofs (disch:=first|exact zd|fail) only [go_sem,Aa,Ab,hlt,hs]
def SG1 (bs:List Nat) (ts:List ByteArray) (q v:Nat) (X:List Int) (L:List Obj') (i:Nat):St:=⟨[(0,.rf 0),(1,.rf 1),(8,.rf 2),(9,.rf 3),(10,.a (.int .i64 v)),(13,.a (.int .i64 i)),(10000,.rf 0),(10001,.rf 1)],nG bs ts q X L,8⟩
theorem qnz {d:Nat} {bs:List Nat} (hb:Bs bs) {ts:List ByteArray} (ht:DT ts) {p:Nat} (hp:p≤bs.length) (v:Nat) (h1:1≤v∧v≤1000) (X:List Int):∃e,(∃(L:List Obj') (q:Nat),L.length=v∧GSh ts L∧q≤bs.length∧e=⟨[(0,.rf 0),(1,.rf 1),(8,.rf 2),(9,.rf 3),(10,.a (.int .i64 v)),(13,.a (.int .i64 L.length)),(40,.a (.bool false)),(10000,.rf 0),(10001,.rf 1)],nG bs ts q X L,308⟩)∧
  va7 (T (d+3)) vad [0,1,8,9,10,13,10000,10001] vh3 (SG1 bs ts p v X [] 0)=some (.ext 2,e):=by
 refine vdk (fun r w=>∃(L:List Obj') (q:Nat),L.length+r=v∧GSh ts L∧q≤bs.length∧w=SG1 bs ts q v X L L.length) 2 _ (m:=v) (vay zo) ⟨[],p,by simp,fun o ho=>by simp at ho,hp,rfl⟩ ?_
 rintro r w hr ⟨L,q,hL,hG,hq,rfl⟩
 have hne:=ht.ne;have hle:=ht.le;by_cases hpos:0<r
 ·left;obtain ⟨t,q1,hu,hq1,he⟩:=va5 (d:=d+1) hb hq ts.length zo zo;obtain ⟨s,hs⟩:∃s,ts[t]? =some s:=⟨_,Ag zo⟩
  have hsz:=ht.hi s (List.mem_of_getElem? hs);obtain ⟨_,⟨V,q2,hV,hq2,rfl⟩,key⟩:=qpr (d:=d) hb ts hq1 v h1 X L L.length t hs zo;unfold SG2 nG2 at key;have hw:=vat L.length zo;have hlt:(L.length:Int)<v:=by omega
  refine ⟨hpos,_,?_,L++ [⟨t,V⟩],q2,by simp;omega,hG.snoc rfl hs hV,hq2,rfl⟩;rw [SG1,SG1,Ae];unfold nG;rw [vbt];unfold round vh3;simp -implicitDefEqProofs (disch:=first|exact zd|fail) only [go_sem,Aa,Ab,he,hw,hlt,vao key]
  (show some _=some _;kernel_rfl)
 ·right;have hlt:¬(L.length:Int)<v:=by omega
  refine ⟨_,?_,L,q,by omega,hG,hq,rfl⟩;unfold round SG1 nG vh3;simp -implicitDefEqProofs (disch:=first|exact zd|fail) only [go_sem,Aa,Ab,hlt]
theorem qk7 {d:Nat} {bs:List Nat} (hb:Bs bs) {ts:List ByteArray} (ht:DT ts) {p:Nat} (hp:p≤bs.length) (k:Nat) (h0:k≤1000) (most:Int) (hm0:1≤most) (hm1:most≤1000):∃(g:Gr) (q:Nat),(g.roots.length=k∧∀x∈g.roots,0≤x)∧1≤g.nodes.length∧(g.nodes.length:Int)≤most∧GSh ts g.nodes∧q≤bs.length∧
  vaf (T (d+3)) vad vf3 [cRd bs p,.sl false va9 (ts.map eStr),.a (.int .i64 k),.a (.int .i64 most)]=some ([cGr false g],[cRd bs q,.sl false va9 (ts.map eStr)]):=by
 obtain ⟨v,q,hv0,hv1,hq,he⟩:=qqg (d:=d) hb hp most hm0 hm1;obtain ⟨_,⟨X,q1,hX,hq1,rfl⟩,k1⟩:=qpc (d:=d) hb ts hq k v h0 ⟨hv0,by omega⟩;obtain ⟨_,⟨L,q2,hL,hG,hq2,rfl⟩,k2⟩:=qnz (d:=d) hb ht hq1 v ⟨hv0,by omega⟩ X;unfold SG0 nG at k1;unfold SG1 nG at k2;refine ⟨⟨X,L⟩,q2,hX,by show 1≤L.length;omega,by show (L.length:Int)≤most;omega,hG,hq2,?_⟩;rw [vag rfl];simp -implicitDefEqProofs (disch:=first|exact zd|fail) only [go_sem,Aa,Ab,vf3,vqq,he,vao k1,vao k2]
