/- Drawn acts. Lists of drawn acts. Lists of drawn acts of which the first ones make an object durable. -/
import Derived.Test.YtkidnhclcbcglaaGreatLawX
open Nat renaming reduceAdd->Aa,reduceBEq->Ab
open List renaming nil_append->Ac,cons_append->Ad,getElem?_eq_getElem->Af,length_map->Ag
open Go.IntKind renaming i64->Ae
namespace Go.Proofs.YtkidnhclcbcglaaGreat.VM
open Go Sy
variable {Φ:Nat→Option Callee} {N:Nat}
set_option maxRecDepth 100000
set_option maxHeartbeats 8000000
theorem vyn {d:Nat} {bs:List Nat} (hb:Bs bs) {p:Nat} (hp:p≤bs.length) {ts:List ByteArray} {B:Nat} {w:Wd} (I:Wok ts B w) (hT:Ty23 ts):∃(y:Act') (q:Nat),y.keep.length≤100∧q≤bs.length∧
  vaf (T (d+6)) vad vcm [cRd bs p,cWd false ts w]=some ([cAct false y],[cRd bs q,cWd false ts w]):=by
 obtain ⟨h,q1,hq1,h1⟩:=vtr (d:=d+1) hb hp (ts:=ts) I.hd;have h2:=vmp (d:=d+4) (ts:=ts) I.hd h;generalize usedW w h=uv at h2;obtain ⟨oa,qa,hqa,ha⟩:=vce (d:=d+3) hb hq1 6 zo zo;by_cases cA:uv=false∧oa=false
 ·obtain ⟨rfl,rfl⟩:=cA;obtain ⟨v,q2,hv,hq2,h3⟩:=va5 (d:=d+4) hb hqa 3 zo zo;obtain ⟨k,hk⟩:∃k:Int,([PV.a (.int .i64 1),PV.a (.int .i64 1),PV.a (.int .i64 12)]:List PV)[v]? =some (PV.a (.int .i64 k)):=by
   have:v=0∨v=1∨v=2:=by omega
   rcases this with rfl|rfl|rfl<;>exact ⟨_,rfl⟩
  have hv3:v<3:=by omega
  obtain ⟨y,qz,u,hy,hqz,hu,h9⟩:=vky (d:=d) hb hq2 I hT k (-1) h;refine ⟨y,qz,hy,hqz,?_⟩;clear I;rw [vag rfl];obtain ⟨ob,du,sl,hs,ir,dm,wa,he⟩:=w;simp (maxSteps:=3000000) -implicitDefEqProofs (disch:=first|exact zd|fail) only [go_sem,Aa,Ab,vcm,vdx,h1,h2,ha,h3,hk,h9]
 obtain ⟨qA,hqA,A⟩:∃qA,qA≤bs.length∧(uv=true∧qA=q1∧true=true∨uv=false∧vaf (T (d+5)) vad vb7 [cRd bs q1,.a (.int .i64 6)]=some ([.a (.bool true)],[cRd bs qA])):=by
  cases uv
  ·cases oa
   ·exact absurd ⟨rfl,rfl⟩ cA
   ·exact ⟨qa,hqa,.inr ⟨rfl,ha⟩⟩
  ·exact ⟨q1,hq1,.inl ⟨rfl,rfl,rfl⟩⟩
 clear cA ha;obtain ⟨ob2,qb,hqb,hb2⟩:=vce (d:=d+3) hb hqA 3 zo zo;by_cases cB:w.dm=true∧ob2=false
 ·obtain ⟨hdm,rfl⟩:=cB;obtain ⟨y,qz,u,hy,hqz,hu,h9⟩:=vky (d:=d) hb hqb I hT 14 (-1) h;refine ⟨y,qz,hy,hqz,?_⟩;clear I;rw [vag rfl];obtain ⟨ob,du,sl,hs,ir,dm,wa,he⟩:=w;dsimp only at *;subst hdm
  (rcases A with ⟨rfl,rfl,hA'⟩|⟨rfl,hA'⟩)<;>simp (maxSteps:=3000000) -implicitDefEqProofs (disch:=first|exact zd|fail) only [go_sem,Aa,Ab,vcm,vdx,h1,h2,hA',hb2,h9]
 obtain ⟨qB,hqB,Bd⟩:∃qB,qB≤bs.length∧(w.dm=false∧qB=qA∧true=true∨w.dm=true∧vaf (T (d+5)) vad vb7 [cRd bs qA,.a (.int .i64 3)]=some ([.a (.bool true)],[cRd bs qB])):=by
  cases hdm:w.dm
  ·exact ⟨qA,hqA,.inl ⟨rfl,rfl,rfl⟩⟩
  ·cases ob2
   ·exact absurd ⟨hdm,rfl⟩ cB
   ·exact ⟨qb,hqb,.inr ⟨rfl,hb2⟩⟩
 clear cB hb2;obtain ⟨o3,q3,hq3,h3⟩:=vce (d:=d+3) hb hqB 6 zo zo;obtain ⟨o4,q4,hq4,h4⟩:=vce (d:=d+3) hb hq3 3 zo zo;obtain ⟨o5,q5,hq5,h5⟩:=vce (d:=d+3) hb hqB 5 zo zo;by_cases cC:w.inR=true∧o3=true
 ·obtain ⟨hin,rfl⟩:=cC;obtain ⟨v,q6,hv,hq6,h6⟩:=va5 (d:=d+4) hb hq3 4 zo zo;obtain ⟨k,hk⟩:∃k:Int,([PV.a (.int .i64 13),PV.a (.int .i64 13),PV.a (.int .i64 13),PV.a (.int .i64 14)]:List PV)[v]? =some (PV.a (.int .i64 k)):=by
   have:v=0∨v=1∨v=2∨v=3:=by omega
   rcases this with rfl|rfl|rfl|rfl<;>exact ⟨_,rfl⟩
  have hv3:v<4:=by omega
  obtain ⟨y,qz,u,hy,hqz,hu,h9⟩:=vky (d:=d) hb hq6 I hT k (-1) h;refine ⟨y,qz,hy,hqz,?_⟩;clear I;rw [vag rfl];obtain ⟨ob,du,sl,hs,ir,dm,wa,he⟩:=w;dsimp only at *;subst hin
  (rcases A with ⟨rfl,rfl,hA'⟩|⟨rfl,hA'⟩<;>rcases Bd with ⟨rfl,rfl,hBd'⟩|⟨rfl,hBd'⟩)<;>simp (maxSteps:=3000000) -implicitDefEqProofs (disch:=first|exact zd|fail) only [go_sem,Aa,Ab,vcm,vdx,h1,h2,hA',hBd',h3,h6,hk,h9]
 by_cases cD:w.inR=true∧o4=true
 ·obtain ⟨hin,rfl⟩:=cD;obtain rfl:o3=false:=by cases o3;rfl;exact absurd ⟨hin,rfl⟩ cC
  obtain ⟨y,qz,u,hy,hqz,hu,h9⟩:=vky (d:=d) hb hq4 I hT 11 (-1) h;refine ⟨y,qz,hy,hqz,?_⟩;clear I;rw [vag rfl];obtain ⟨ob,du,sl,hs,ir,dm,wa,he⟩:=w;dsimp only at *;subst hin
  (rcases A with ⟨rfl,rfl,hA'⟩|⟨rfl,hA'⟩<;>rcases Bd with ⟨rfl,rfl,hBd'⟩|⟨rfl,hBd'⟩)<;>simp (maxSteps:=3000000) -implicitDefEqProofs (disch:=first|exact zd|fail) only [go_sem,Aa,Ab,vcm,vdx,h1,h2,hA',hBd',h3,h4,h9]
 by_cases cE:w.inR=false∧o5=true
 ·obtain ⟨hin,rfl⟩:=cE;obtain ⟨y,qz,u,hy,hqz,hu,h9⟩:=vky (d:=d) hb hq5 I hT 10 (-1) h;refine ⟨y,qz,hy,hqz,?_⟩;clear I;rw [vag rfl];obtain ⟨ob,du,sl,hs,ir,dm,wa,he⟩:=w;dsimp only at *;subst hin
  (rcases A with ⟨rfl,rfl,hA'⟩|⟨rfl,hA'⟩<;>rcases Bd with ⟨rfl,rfl,hBd'⟩|⟨rfl,hBd'⟩)<;>simp (maxSteps:=3000000) -implicitDefEqProofs (disch:=first|exact zd|fail) only [go_sem,Aa,Ab,vcm,vdx,h1,h2,hA',hBd',h5,h9]
 obtain ⟨qC,hqC,C⟩:∃qC,qC≤bs.length∧((w.inR=false∧true=true∧vaf (T (d+5)) vad vb7 [cRd bs qB,.a (.int .i64 5)]=some ([.a (.bool false)],[cRd bs qC]))∨(w.inR=true∧vaf (T (d+5)) vad vb7 [cRd bs qB,.a (.int .i64 6)]=some ([.a (.bool false)],[cRd bs q3])∧vaf (T (d+5)) vad vb7 [cRd bs q3,.a (.int .i64 3)]=some ([.a (.bool false)],[cRd bs qC]))):=by
  cases hin:w.inR
  ·cases o5
   ·exact ⟨q5,hq5,.inl ⟨rfl,rfl,h5⟩⟩
   ·exact absurd ⟨hin,rfl⟩ cE
  ·cases o3
   ·cases o4
    ·exact ⟨q4,hq4,.inr ⟨rfl,h3,h4⟩⟩
    ·exact absurd ⟨hin,rfl⟩ cD
   ·exact absurd ⟨hin,rfl⟩ cC
 clear cC cD cE h3 h4 h5;obtain ⟨o6,q6,hq6,h6⟩:=vce (d:=d+3) hb hqC 30 zo zo;cases o6 with
 |true=>
  obtain ⟨k,q7,_,_,hq7,h7⟩:=vi2 (d:=d+2) hb hq6 1 18 zo zo zo;obtain ⟨y,qz,u,hy,hqz,hu,h9⟩:=vky (d:=d) hb hq7 I hT k (-1) h;refine ⟨y,qz,hy,hqz,?_⟩;clear I;rw [vag rfl];obtain ⟨ob,du,sl,hs,ir,dm,wa,he⟩:=w;dsimp only at *
  (rcases A with ⟨rfl,rfl,hA'⟩|⟨rfl,hA'⟩<;>rcases Bd with ⟨rfl,rfl,hB'⟩|⟨rfl,hB'⟩<;>rcases C with ⟨rfl,h3,h4⟩|⟨rfl,h3,h4⟩)<;>simp (maxSteps:=3000000) -implicitDefEqProofs (disch:=first|exact zd|fail) only [go_sem,Aa,Ab,vcm,vdx,h1,h2,hA',hB',h3,h4,h6,h7,h9]
 |false=>
  obtain ⟨o7,q7,hq7,h7⟩:=vce (d:=d+3) hb hq6 24 zo zo;cases o7 with
  |true=>
   obtain ⟨y,qz,u,hy,hqz,hu,h9⟩:=vky (d:=d) hb hq7 I hT 18 (-1) h;refine ⟨y,qz,hy,hqz,?_⟩;clear I;rw [vag rfl];obtain ⟨ob,du,sl,hs,ir,dm,wa,he⟩:=w;dsimp only at *
   (rcases A with ⟨rfl,rfl,hA'⟩|⟨rfl,hA'⟩<;>rcases Bd with ⟨rfl,rfl,hB'⟩|⟨rfl,hB'⟩<;>rcases C with ⟨rfl,h3,h4⟩|⟨rfl,h3,h4⟩)<;>simp (maxSteps:=3000000) -implicitDefEqProofs (disch:=first|exact zd|fail) only [go_sem,Aa,Ab,vcm,vdx,h1,h2,hA',hB',h3,h4,h6,h7,h9]
  |false=>
   obtain ⟨v,q8,hv,hq8,h8⟩:=va5 (d:=d+4) hb hq7 18 zo zo;obtain ⟨k,hk⟩:∃k:Int,([PV.a (.int .i64 1),PV.a (.int .i64 1),PV.a (.int .i64 2),PV.a (.int .i64 3),PV.a (.int .i64 3),PV.a (.int .i64 4),PV.a (.int .i64 4),PV.a (.int .i64 5),PV.a (.int .i64 5),PV.a (.int .i64 5),PV.a (.int .i64 5),PV.a (.int .i64 6),PV.a (.int .i64 7),PV.a (.int .i64 9),PV.a (.int .i64 12),PV.a (.int .i64 15),PV.a (.int .i64 16),PV.a (.int .i64 17)]:List PV)[v]? =some (PV.a (.int .i64 k)):=by
    have hv3:v<18:=by omega
    clear h7 h8 h6 A Bd C;have:v=0∨v=1∨v=2∨v=3∨v=4∨v=5∨v=6∨v=7∨v=8∨v=9∨v=10∨v=11∨v=12∨v=13∨v=14∨v=15∨v=16∨v=17:=by omega
    rcases this with rfl|rfl|rfl|rfl|rfl|rfl|rfl|rfl|rfl|rfl|rfl|rfl|rfl|rfl|rfl|rfl|rfl|rfl<;>exact ⟨_,rfl⟩
   have hv3:v<18:=by omega
   obtain ⟨y,qz,u,hy,hqz,hu,h9⟩:=vky (d:=d) hb hq8 I hT k (-1) h;refine ⟨y,qz,hy,hqz,?_⟩;clear I;rw [vag rfl];obtain ⟨ob,du,sl,hs,ir,dm,wa,he⟩:=w;dsimp only at *
   (rcases A with ⟨rfl,rfl,hA'⟩|⟨rfl,hA'⟩<;>rcases Bd with ⟨rfl,rfl,hB'⟩|⟨rfl,hB'⟩<;>rcases C with ⟨rfl,h3,h4⟩|⟨rfl,h3,h4⟩)<;>simp (maxSteps:=3000000) -implicitDefEqProofs (disch:=first|exact zd|fail) only [go_sem,Aa,Ab,vcm,vdx,h1,h2,hA',hB',h3,h4,h6,h7,h8,hk,h9]
theorem zbg (l:List Act'):nfzL (l.map va3)=true:=vpc (fun o=>by show (true&&(true&&(true&&(true&&(true&&(nfzL (o.keep.map vap)&&true))))))=true;rw [qff];rfl) l
attribute [go_sem] zbg
def Kp (l:List Act'):Prop:=∀y∈l,y.keep.length≤100
theorem Kp.snoc {l:List Act'} (h:Kp l) {y:Act'} (hy:y.keep.length≤100):Kp (l++ [y]):=fun x hx=>by
 rcases List.mem_append.1 hx with h1|h1
 ·exact h x h1
 ·simp at h1;subst h1;exact hy
abbrev bWa (w:Wd):Option Node:=some (.bx false [.rf 3,.rf 6,.rf 7,.rf 8,.rf 9,.a (.bool w.inR),.a (.bool w.dm),.rf 10,.rf 11])
abbrev nA0 (bs:List Nat) (p:Nat) (ts:List ByteArray) (g:Gr) (w:Wd) (L:List PV):vb5:= [(0,nRd bs p),(1,bWa w),(2,some (.sl false 0 vak L)),(3,some (.sl false 0 va9 (ts.map eStr))),(4,some (.sl true 0 vam (g.roots.map vap))),(5,some (.sl true 0 vau (g.nodes.map eObj))),
 (6,some (.sl false 0 vau (w.ob.map eObj))),(7,some (.sl false 0 vr1 (w.du.map eBl))),(8,some (.sl false 0 vam (w.sl.map vap))),(9,some (.sl false 0 vam (w.hd.map vap))),(10,some (.sl false 0 vau (w.wa.map eObj))),(11,some (.sl false 0 vam (w.he.map vap)))]
abbrev nA1 (z:Bool) (bs:List Nat) (p:Nat) (ts:List ByteArray) (g:Gr) (w:Wd) (L:List PV):vb5:= [(0,nRd bs p),(1,bWd w 6),(2,some (.sl z 0 vak L)),(3,none),(4,some (.sl true 0 vam (g.roots.map vap))),(5,some (.sl true 0 vau (g.nodes.map eObj)))]++nWd 6 ts w (w.wa.map eObj)
abbrev sAc (r:Nat) (k:Nat) (w:vb8):vb8:= [(0,.rf 0),(9,.rf 1),(10,.rf 2),(k,.a (.int .i64 (r:Nat)))]++w++ [(10000,.rf 0),(10001,.rf 3),(10002,.st [.rf 4,.rf 5])]
theorem qth {d:Nat} {bs:List Nat} (hb:Bs bs) {p:Nat} (hp:p≤bs.length) {ts:List ByteArray} (hT:Ty23 ts) (g:Gr) {w:Wd} (I:Wok ts 200 w) (n:Nat) (hn0:0<n) (hn:n≤200):
  ∃e,(∃(l:List Act') (w':Wd) (q:Nat),Kp l∧l.length=n∧q≤bs.length∧e=⟨sAc 0 11 [(22,.a (.bool false))],nA1 true bs q ts g w' (l.map va3),213⟩)∧
  va7 (T (d+7)) vad [0,9,10,11,10000,10001,10002] vgj ⟨sAc n 11 [],nA0 bs p ts g w [],12⟩=some (.ext 0,e):=by
 refine vdk (fun r s=>(r=n∧s=⟨sAc n 11 [],nA0 bs p ts g w [],12⟩)∨(r<n∧∃(l:List Act') (w':Wd) (q:Nat),Wok ts (200+(n-r)) w'∧Kp l∧l.length=n-r∧q≤bs.length∧s=⟨sAc r 11 [],nA1 true bs q ts g w' (l.map va3),13⟩)) 0 _ (m:=n) (vay zo) (.inl ⟨rfl,rfl⟩) ?_
 rintro r _ hr (⟨rfl,rfl⟩|⟨hrn,l,w',q,J,hK,hl,hq,rfl⟩)
 ·left;obtain ⟨y,q,hy,hq,h1⟩:=vyn (d:=d) hb hp I hT;obtain ⟨a,b,w',J,h2⟩:=vru (d:=d+1) I zo hT y;have e1:Ae.wrap ((r:Int)-1)=((r-1:Nat):Int):=by rw [vai]<;>omega
  have hr0:(r:Int)>0:=by omega
  refine ⟨by omega,_,?_,.inr ⟨by omega,[y],w',q,by rw [show r-(r-1)=1 by omega];exact J,fun x hx=>by simp at hx;subst hx;exact hy,by simp;omega,hq,rfl⟩⟩;clear I J;obtain ⟨ob,du,sl,hs,ir,dm,wa,he⟩:=w;obtain ⟨ob',du',sl',hs',ir',dm',wa',he'⟩:=w';obtain ⟨rs,ns⟩:=g;obtain ⟨xk,xa,xb,xc,xp,xq⟩:=y;unfold round nA0 nA1 sAc nWd vgj;dsimp only [Ad,Ac];simp -implicitDefEqProofs (disch:=first|exact zd|fail) only [go_sem,Aa,Ab,hr0,e1,h1,h2,Ac]
  (show some _=some _;kernel_rfl)
 ·have hlm:(l.map va3).length≤200:=by rw [Ag];omega
  by_cases hr1:0<r
  ·left;obtain ⟨y,q2,hy,hq2,h1⟩:=vyn (d:=d) hb hq J hT;obtain ⟨a,b,w2,J2,h2⟩:=vru (d:=d+1) J zo hT y;have e1:Ae.wrap ((r:Int)-1)=((r-1:Nat):Int):=by rw [vai]<;>omega
   have hr0:(r:Int)>0:=by omega
   refine ⟨by omega,_,?_,.inr ⟨by omega,l++ [y],w2,q2,by rw [show 200+(n-(r-1))=200+(n-r)+1 by omega];exact J2,hK.snoc hy,by simp;omega,hq2,by rw [vbt]⟩⟩;clear I J J2;obtain ⟨ob,du,sl,hs,ir,dm,wa,he⟩:=w';obtain ⟨ob',du',sl',hs',ir',dm',wa',he'⟩:=w2;obtain ⟨rs,ns⟩:=g;obtain ⟨xk,xa,xb,xc,xp,xq⟩:=y;unfold round nA1 sAc nWd vgj;dsimp only [Ad,Ac];simp -implicitDefEqProofs (disch:=first|exact zd|fail) only [go_sem,Aa,Ab,hr0,e1,h1,h2]
   (show some _=some _;kernel_rfl)
  ·right;obtain rfl:r=0:=by omega
   refine ⟨_,?_,l,w',q,hK,by omega,hq,rfl⟩;clear I J;obtain ⟨ob,du,sl,hs,ir,dm,wa,he⟩:=w';obtain ⟨rs,ns⟩:=g;unfold round nA1 sAc nWd vgj;dsimp only [Ad,Ac];simp -implicitDefEqProofs (disch:=first|exact zd|fail) only [go_sem,Aa,Ab]
theorem qo9 {d:Nat} {bs:List Nat} (hb:Bs bs) {p:Nat} (hp:p≤bs.length) {ts:List ByteArray} (hT:Ty23 ts) {g:Gr} (I:Wok ts 200 (w0 g)) (most:Nat) (hm:most≤100):∃(l:List Act') (q:Nat),Kp l∧1≤l.length∧l.length≤most+1∧q≤bs.length∧
  vaf (T (d+7)) vad vg1 [cRd bs p,.sl false va9 (ts.map eStr),cGr false g,.a (.int .i64 (most:Nat))]=some ([.sl false vak (l.map va3)],[cRd bs q,.un,cGr false g]):=by
 obtain ⟨m,q1,hm1,hq1,h1⟩:=vh4 (d:=d+5) hb hp most zo;have h2:=vz6 (d:=d+5) (ts:=ts) (g:=g) (by have:=I.b;simp at this;omega) (by have:=I.sl;simp at this;omega) (I.vl hT);have e1:Ae.wrap (1+(m:Int))=((m+1:Nat):Int):=by rw [vai]<;>omega
 obtain ⟨_,⟨l,w',q,hK,hl,hq,rfl⟩,key⟩:=qth (d:=d) hb hq1 hT g I (m+1) zo zo;refine ⟨l,q,hK,by omega,by omega,hq,?_⟩;clear I;rw [vag rfl];obtain ⟨rs,ns⟩:=g;unfold sAc nA0 nA1 nWd at key;dsimp only [Ad,Ac] at *;simp -implicitDefEqProofs (disch:=first|exact zd|fail) only [go_sem,Aa,Ab,vg1,vr2,h2,h1,e1,vao key];done
abbrev sBg (most:Int) (i:Nat) (w:vb8):vb8:= [(0,.rf 0),(3,.a (.int .i64 most)),(9,.rf 1),(10,.rf 2),(11,.a (.int .i64 (i:Nat)))]++w++ [(10000,.rf 0),(10001,.rf 3),(10002,.st [.rf 4,.rf 5])]
theorem qp4 {d:Nat} {bs:List Nat} {p:Nat} {ts:List ByteArray} (hT:Ty23 ts) (g:Gr) {w:Wd} (I:Wok ts 200 w) (most:Int) (l:List Act') (hl0:0<l.length) (hl:l.length≤10):
  ∃e,(∃(w':Wd),Wok ts 210 w'∧e=⟨sBg most l.length [(37,.a (.bool false))],nA1 false bs p ts g w' (l.map va3),413⟩)∧
  va7 (T (d+7)) vad [0,3,9,10,11,10000,10001,10002] vfq ⟨sBg most 0 [],nA0 bs p ts g w (l.map va3),12⟩=some (.ext 0,e):=by
 refine vdk (fun r s=>(r=l.length∧s=⟨sBg most 0 [],nA0 bs p ts g w (l.map va3),12⟩)∨(∃(i:Nat) (w':Wd),i+r=l.length∧0<i∧Wok ts (200+i) w'∧s=⟨sBg most i [],nA1 false bs p ts g w' (l.map va3),13⟩)) 0 _ (m:=l.length) (vay zo) (.inl ⟨rfl,rfl⟩) ?_
 rintro r _ hr (⟨rfl,rfl⟩|⟨i,w',hi,hi0,J,rfl⟩)
 ·left;obtain ⟨y,hy⟩:∃b,l[0]? =some b:=⟨_,Af zo⟩
  obtain ⟨a,b,w',J,h2⟩:=vru (d:=d+1) I zo hT y;have hw:=vat 0 zo;have hlt:((0:Nat):Int)<l.length:=by omega
  refine ⟨by omega,_,?_,.inr ⟨1,w',by omega,by omega,J,rfl⟩⟩;clear I J;obtain ⟨ob,du,sl,hs,ir,dm,wa,he⟩:=w;obtain ⟨ob',du',sl',hs',ir',dm',wa',he'⟩:=w';obtain ⟨rs,ns⟩:=g;obtain ⟨xk,xa,xb,xc,xp,xq⟩:=y;unfold round nA0 nA1 sBg nWd vfq;dsimp only [Ad,Ac];simp -implicitDefEqProofs (disch:=first|exact zd|fail) only [go_sem,Aa,Ab,hw,hlt,hy,h2]
  (show some _=some _;kernel_rfl)
 ·by_cases hr1:0<r
  ·left;obtain ⟨y,hy⟩:∃b,l[i]? =some b:=⟨_,Af zo⟩
   obtain ⟨a,b,w2,J2,h2⟩:=vru (d:=d+1) J zo hT y;have hw:=vat i zo;have hlt:(i:Int)<l.length:=by omega
   have hil:i<l.length:=by omega
   refine ⟨by omega,_,?_,.inr ⟨i+1,w2,by omega,by omega,J2,rfl⟩⟩;clear I J J2;obtain ⟨ob,du,sl,hs,ir,dm,wa,he⟩:=w';obtain ⟨ob',du',sl',hs',ir',dm',wa',he'⟩:=w2;obtain ⟨rs,ns⟩:=g;obtain ⟨xk,xa,xb,xc,xp,xq⟩:=y;unfold round nA1 sBg nWd vfq;dsimp only [Ad,Ac];simp -implicitDefEqProofs (disch:=first|exact zd|fail) only [go_sem,Aa,Ab,hw,hlt,hy,h2]
   (show some _=some _;kernel_rfl)
  ·right;obtain rfl:i=l.length:=by omega
   have hlt:¬((l.length:Nat):Int)<l.length:=by omega
   refine ⟨_,?_,w',J.mono zo zo,rfl⟩;clear I J;obtain ⟨ob,du,sl,hs,ir,dm,wa,he⟩:=w';obtain ⟨rs,ns⟩:=g;unfold round nA1 sBg nWd vfq;dsimp only [Ad,Ac];simp -implicitDefEqProofs (disch:=first|exact zd|fail) only [go_sem,Aa,Ab,hlt]
theorem qot {d:Nat} {bs:List Nat} (hb:Bs bs) {p:Nat} (hp:p≤bs.length) {ts:List ByteArray} (hT:Ty23 ts) (g:Gr) {w:Wd} (I:Wok ts 210 w) (l0:List Act') (hK0:Kp l0) (hl0:l0.length≤10) (n:Nat) (hn:n≤200):
  ∃e,(∃(z:Bool) (l:List Act') (w':Wd) (q:Nat),Kp l∧l.length=l0.length+n∧q≤bs.length∧e=⟨sAc 0 12 [(51,.a (.bool false))],nA1 z bs q ts g w' (l.map va3),213⟩)∧
  va7 (T (d+7)) vad [0,9,10,12,10000,10001,10002] vh0 ⟨sAc n 12 [],nA1 false bs p ts g w (l0.map va3),13⟩=some (.ext 2,e):=by
 refine vdk (fun r s=>(r≤n∧∃(z:Bool) (l:List Act') (w':Wd) (q:Nat),Wok ts (210+(n-r)) w'∧Kp l∧l.length=l0.length+(n-r)∧q≤bs.length∧s=⟨sAc r 12 [],nA1 z bs q ts g w' (l.map va3),13⟩)) 2 _ (m:=n) (vay zo) ⟨Nat.le_refl _,false,l0,w,p,by rw [Nat.sub_self];exact I,hK0,by omega,hp,rfl⟩ ?_
 rintro r _ hr ⟨hrn,z,l,w',q,J,hK,hl,hq,rfl⟩
 have hlm:(l.map va3).length≤210:=by rw [Ag];omega
 by_cases hr1:0<r
 ·left;obtain ⟨y,q2,hy,hq2,h1⟩:=vyn (d:=d) hb hq J hT;obtain ⟨a,b,w2,J2,h2⟩:=vru (d:=d+1) J zo hT y;have e1:Ae.wrap ((r:Int)-1)=((r-1:Nat):Int):=by rw [vai]<;>omega
  have hr0:(r:Int)>0:=by omega
  refine ⟨by omega,_,?_,by omega,true,l++ [y],w2,q2,by rw [show 210+(n-(r-1))=210+(n-r)+1 by omega];exact J2,hK.snoc hy,by simp;omega,hq2,by rw [vbt]⟩;clear I J J2;obtain ⟨ob,du,sl,hs,ir,dm,wa,he⟩:=w';obtain ⟨ob',du',sl',hs',ir',dm',wa',he'⟩:=w2;obtain ⟨rs,ns⟩:=g;obtain ⟨xk,xa,xb,xc,xp,xq⟩:=y;unfold round nA1 sAc nWd vh0;dsimp only [Ad,Ac];cases z
  ·simp -implicitDefEqProofs (disch:=first|exact zd|fail) only [go_sem,Aa,Ab,hr0,e1,h1,h2]
   (show some _=some _;kernel_rfl)
  ·simp -implicitDefEqProofs (disch:=first|exact zd|fail) only [go_sem,Aa,Ab,hr0,e1,h1,h2]
   (show some _=some _;kernel_rfl)
 ·right;obtain rfl:r=0:=by omega
  refine ⟨_,?_,z,l,w',q,hK,by omega,hq,rfl⟩;clear I J;obtain ⟨ob,du,sl,hs,ir,dm,wa,he⟩:=w';obtain ⟨rs,ns⟩:=g;unfold round nA1 sAc nWd vh0;dsimp only [Ad,Ac];simp -implicitDefEqProofs (disch:=first|exact zd|fail) only [go_sem,Aa,Ab]
set_option maxRecDepth 20000 in
theorem qm4 {d:Nat} {bs:List Nat} (hb:Bs bs) {p:Nat} (hp:p≤bs.length) {ts:List ByteArray} (hT:Ty23 ts) {g:Gr} (I:Wok ts 200 (w0 g)) (most:Nat) (hm:most≤100):∃(l:List Act') (q:Nat),Kp l∧1≤l.length∧l.length≤most+5∧q≤bs.length∧
  vaf (T (d+7)) vad vem [cRd bs p,.sl false va9 (ts.map eStr),cGr false g,.a (.int .i64 (most:Nat))]=some ([.sl false vak (l.map va3)],[cRd bs q,.un,cGr false g]):=by
 have h2:=vz6 (d:=d+5) (ts:=ts) (g:=g) (by have:=I.b;simp at this;omega) (by have:=I.sl;simp at this;omega) (I.vl hT);have hn1:=hT.n1;obtain ⟨v0,q1,_,hq1,h3⟩:=vh4 (d:=d+5) hb hp ts.length zo;obtain ⟨v1,q2,_,hq2,h4⟩:=va5 (d:=d+5) hb hq1 8 zo zo;obtain ⟨o,q3,hq3,h5⟩:=vce (d:=d+4) hb hq2 3 zo zo;obtain ⟨m,q4,hm1,hq4,h1⟩:=vh4 (d:=d+5) hb hq3 most zo;have e1:Ae.wrap (1+(m:Int))=((m+1:Nat):Int):=by rw [vai]<;>omega
 obtain ⟨l0,hl0,hK0⟩:∃l0:List Act',l0= [⟨1,v0,0,0,-1,[]⟩,⟨10,0,0,0,-1,[]⟩,⟨11,v1,0,0,-1,[]⟩]++(if o=true then [] else [⟨13,0,0,0,-1,[]⟩])∧Kp l0:=by
  refine ⟨_,rfl,fun y hy=> ?_⟩;cases o<;>simp at hy<;>rcases hy with rfl|rfl|hy<;>first|(rcases hy with rfl|rfl<;>simp)|(subst hy;simp)|simp
 have hll:3≤l0.length∧l0.length≤4:=by subst hl0;cases o<;>simp
 obtain ⟨_,⟨w1,J1,rfl⟩,k0⟩:=qp4 (d:=d) (bs:=bs) (p:=q3) hT g I (most:Int) l0 zo zo;obtain ⟨_,⟨z,l,w',q,hK,hl,hq,rfl⟩,k1⟩:=qot (d:=d) hb hq4 hT g J1 l0 hK0 zo (m+1) zo;refine ⟨l,q,hK,by omega,by omega,hq,?_⟩;clear I J1 hK0 hll hl;rw [vag rfl];obtain ⟨rs,ns⟩:=g;unfold sBg nA0 nA1 nWd at k0;unfold sAc nA1 nWd at k1;dsimp only [Ad,Ac] at *;subst hl0;have hc:capOk (3+1) 64=true:=rfl;cases o
 ·simp -implicitDefEqProofs (disch:=first|exact zd|fail) only [go_sem,Aa,Ab,vem,vlq,h2,h3,h4,h5,h1,e1,List.length_cons,List.length_nil,Nat.reduceMul,Nat.reduceLeDiff,vao k0,vao k1];done
 ·simp -implicitDefEqProofs (disch:=first|exact zd|fail) only [go_sem,Aa,Ab,vem,vlq,h2,h3,h4,h5,h1,e1,vao k0,vao k1];done
