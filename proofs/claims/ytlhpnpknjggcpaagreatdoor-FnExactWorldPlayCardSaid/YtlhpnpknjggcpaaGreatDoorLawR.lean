/- Worlds of the program: a whole play. Worlds of the program: what a whole play returns. Worlds of the program: WorldPlay. -/
import Derived.Test.YtlhpnpknjggcpaaGreatDoorLawV
import Derived.Test.YtlhpnpknjggcpaaGreatDoorLawP
open Nat renaming reduceAdd->Aa,reduceBEq->Ab,zero_le->Aj
open List renaming mem_of_getElem?->Ac,getElem?_eq_getElem->Ae,length_replicate->Af,length_append->Ah
open Bool renaming and_eq_true->Ad,true_and->Ag,false_and->Ai
namespace Go.Proofs.YtlhpnpknjggcpaaGreatDoor.VM
open Go Sy
variable {Φ:Nat→Option Callee} {N:Nat}
set_option maxRecDepth 100000
set_option maxHeartbeats 8000000
def isW (ts:List ByteArray) (g:Gr) (l:List Act'):Bool:=decide (l.length≤60)&&(graphOk ts g&&(decide (g.roots.length=8)&&decide (g.nodes.length≤200)))
theorem qji {d:Nat} {ts:List ByteArray} {g:Gr} (h:Small ts g) (l:List Act') (hl:l.length≤1048576):vaf (T (d+7)) vae vdj [.sl true vam (ts.map eStr),cGr true g,.sl true vbv (l.map vcy)]=some ([.a (.bool (isW ts g l))],[]):=by
 have h1:=vzq (d:=d) h;have hr:=h.roots;have hn:=h.nodes;unfold isW;generalize graphOk ts g=k at *;obtain ⟨rs,ns⟩:=g;dsimp only at *;by_cases c1:l.length≤60
 ·have c1':(l.length:Int)≤60:=by omega
  rw [decide_eq_true c1,Ag];cases k with
  |false=>rw [vab rfl];simp -implicitDefEqProofs (disch:=first|exact zd|fail) only [go_sem,Aa,Ab,vdj,vh5,c1',h1]
  |true=>
   rw [Ag];by_cases c2:rs.length=8
   ·have c2':(rs.length:Int)=8:=by omega
    rw [decide_eq_true c2,Ag];by_cases c3:ns.length≤200
    ·have c3':(ns.length:Int)≤200:=by omega
     rw [decide_eq_true c3];rw [vab rfl];simp -implicitDefEqProofs (disch:=first|exact zd|fail) only [go_sem,Aa,Ab,vdj,vh5,c1',h1,c2',c3']
    ·have c3':¬(ns.length:Int)≤200:=by omega
     rw [decide_eq_false c3];rw [vab rfl];simp -implicitDefEqProofs (disch:=first|exact zd|fail) only [go_sem,Aa,Ab,vdj,vh5,c1',h1,c2',c3']
   ·have c2':¬(rs.length:Int)=8:=by omega
    rw [decide_eq_false c2,Ai];rw [vab rfl];simp -implicitDefEqProofs (disch:=first|exact zd|fail) only [go_sem,Aa,Ab,vdj,vh5,c1',h1,c2']
 ·have c1':¬(l.length:Int)≤60:=by omega
  rw [decide_eq_false c1,Ai];rw [vab rfl];simp -implicitDefEqProofs (disch:=first|exact zd|fail) only [go_sem,Aa,Ab,vdj,vh5,c1']
abbrev ePl (ts:List ByteArray) (l:List Act') (dn:List Int) (w:Wd) (A:List PV) (sv:Sv):St:=⟨[(3,.sz vag (List.map vak dn)),(8,.rf 0),(9,.rf 1),(10,.rf 2),(24,.sz vbv (List.map vcy l)),(25,.a (.int .i64 l.length)),(26,.a (.int .i64 l.length)),(27,.a (.bool false))],nPl ts w A sv,xPl sv+100⟩
theorem vrz {d:Nat} {ts:List ByteArray} {B:Nat} {l:List Act'} (dn:List Int) {w:Wd} (I:Wok ts B w) (hT:Ty23 ts) (hB:B+60≤400) (hl:l.length≤60) {sv:Sv} (hs:SvR w sv):∀i,i≤l.length→Wok ts (B+i) (plI ts l dn w i).2∧(plI ts l dn w i).1.length=i
 |0,_=>⟨I,rfl⟩
 |i+1,hi=>by
  obtain ⟨J,hlen⟩:=vrz (d:=d) dn I hT hB hl hs i zo;obtain ⟨x,hx⟩:∃x,l[i]? =some x:=⟨_,Ae zo⟩
  rw [vsh hx];refine ⟨?_,by dsimp only;rw [Ah,hlen];rfl⟩;by_cases hin:(plI ts l dn w i).2.inR=true
  ·exact (vzy (d:=d) J hT zo x (denyAt dn i) (.b _ _) fun _=>rfl).1
  ·exact (vzy (d:=d) J hT zo x (denyAt dn i) .n fun h=>absurd h hin).1
theorem qwz {d:Nat} {ts:List ByteArray} {B:Nat} {l:List Act'} {dn:List Int} {w:Wd} (I:Wok ts B w) (hT:Ty23 ts) (hB:B+60≤400) (hl:l.length≤60) (hd:dn.length≤1048576) (hs:SvR w .n):
  ∃e,(∃sv,SvR (plI ts l dn w l.length).2 sv∧e=ePl ts l dn (plI ts l dn w l.length).2 ((plI ts l dn w l.length).1.map eAns) sv)∧
  vbt (T (d+6)) vae [3,8,9,10,24,25,26] vd2 (sPl ts l dn w [] 0 .n)=some (.ext 0,e):=by
 refine vpd (fun r s=>∃(i:Nat) (sv:Sv),i+r=l.length∧SvR (plI ts l dn w i).2 sv∧s=sPl ts l dn (plI ts l dn w i).2 ((plI ts l dn w i).1.map eAns) i sv) 0 _ (m:=l.length) (va1 zo) ⟨0,.n,by omega,hs,rfl⟩ ?_
 rintro r _ hr ⟨i,sv,hi,hsv,rfl⟩
 obtain ⟨J,hlen⟩:=vrz (d:=d) (l:=l) dn I hT hB hl hs i zo;by_cases hpos:0<r
 ·left;obtain ⟨x,hx⟩:∃x,l[i]? =some x:=⟨_,Ae zo⟩
  obtain ⟨_,sv',hsv',ha⟩:=vzy (d:=d) J hT zo x (denyAt dn i) sv hsv;refine ⟨hpos,_,?_,i+1,sv',by omega,?_,rfl⟩
  ·rw [vsh hx];dsimp only;rw [vgt];exact qlz hl hd hx (by rw [List.length_map,hlen];omega) sv sv' ha
  ·rw [vsh hx];exact hsv'
 ·right;obtain rfl:i=l.length:=by omega
  refine ⟨_,?_,sv,hsv,rfl⟩;have hlt:¬((l.length:Nat):Int)<l.length:=by omega
  generalize (plI ts l dn w l.length).2=w' at *;generalize (plI ts l dn w l.length).1.map eAns=A at *;obtain ⟨ob,du,sl,hds,ir,dm,wa,he⟩:=w';cases sv<;>
  ·unfold round vd2 sPl ePl nPl xPl;simp -implicitDefEqProofs (disch:=first|exact zd|fail) only [go_sem,Aa,Ab,hlt]
abbrev cRun (code:Int) (A:List Ans) (n s:Gr) (i dm:Bool):CV:= .st [.a (.int .i64 code),.sl false va6 (A.map eAns),.sl false vag (n.roots.map vak),.sl false vai (n.nodes.map eObj),.sl false vag (s.roots.map vak),.sl false vai (s.nodes.map eObj),.a (.bool i),.a (.bool dm),.a (.bool false),.a (.string ⟨#[]⟩),.sl false vcx [],.a (.int .i64 0)]
theorem qna {d:Nat} {ts:List ByteArray} {w:Wd} (sv:Sv) {rs:List Int} {os:List Obj'} (R:Right ts ⟨rs,os⟩):vaf (T (d+3)) vae vcw [cWi true ts w sv,.sl true vai (os.map eObj),.sl true vag (rs.map vak)]=some ([cGr false (plainG ts ⟨rs,os⟩)],[]):=by
 have h1:=vwp (d:=d) R;clear R;generalize plainG ts ⟨rs,os⟩=p at *;obtain ⟨pr,pn⟩:=p;cases sv<;>(rw [vab rfl];simp -implicitDefEqProofs (disch:=first|exact zd|fail) only [go_sem,Aa,Ab,vcw,vi2,h1])
theorem qm4 {d:Nat} {ts:List ByteArray} {w:Wd} (X:List PV) {rs:List Int} {os:List Obj'} (R:Right ts ⟨rs,os⟩):vaf (T (d+3)) vae vcw [.bx true [.sl true vam (ts.map eStr),.un,.sl true vb8 (w.du.map eBl),.sl true vag (w.hd.map vak),.sl true vag (w.sl.map vak),.a (.bool true),.a (.bool w.dm),cSa true X],.sl true vai (os.map eObj),.sl true vag (rs.map vak)]=some ([cGr false (plainG ts ⟨rs,os⟩)],[]):=by
 have h1:=vwp (d:=d) R;clear R;generalize plainG ts ⟨rs,os⟩=p at *;obtain ⟨pr,pn⟩:=p;rw [vab rfl];simp -implicitDefEqProofs (disch:=first|exact zd|fail) only [go_sem,Aa,Ab,vcw,vi2,h1]
theorem qmd {d:Nat} {ts:List ByteArray} {w:Wd} (sv:Sv) {rs:List Int} {os:List Obj'} (R:Right ts ⟨rs,os⟩):vaf (T (d+3)) vae vcw [.bx true [.sl true vam (ts.map eStr),.un,.sl true vb8 (w.du.map eBl),.sl true vag (w.hd.map vak),.un,.a (.bool false),.a (.bool w.dm),cSv true sv],.sl true vai (os.map eObj),.sl true vag (rs.map vak)]=some ([cGr false (plainG ts ⟨rs,os⟩)],[]):=by
 have h1:=vwp (d:=d) R;clear R;generalize plainG ts ⟨rs,os⟩=p at *;obtain ⟨pr,pn⟩:=p;cases sv<;>(rw [vab rfl];simp -implicitDefEqProofs (disch:=first|exact zd|fail) only [go_sem,Aa,Ab,vcw,vi2,h1])
theorem qk5 {s:ByteArray} {j:Nat} (h:kAt s j=114):refAt s j=true:=by
 unfold kAt at h;unfold refAt;cases hb:(ch s)[j]? with
 |none=>rw [hb] at h;exact absurd h (by decide)
 |some b=>
  rw [hb,Option.getD_some] at h;exact decide_eq_true zo
theorem vz0 {ts:List ByteArray} {B:Nat} {w:Wd} (I:Wok ts B w) (hT:Ty23 ts) {rs:List Int} {os:List Obj'} (hr:Rin w.ob.length rs) (hl:rs.length≤1000) (ho:∀o∈os,ObOk ts w.ob.length o) (hn:os.length=w.ob.length):Right ts ⟨rs,os⟩:=by
 have hb:=I.b;have hbb:=I.bb;refine ⟨⟨by have:=hT.n1;omega,fun s hs=>by have:=hT.z s hs;omega,by show rs.length≤1048576;omega,by show os.length≤1048576;omega,fun o h=> ?_⟩,by show os.length≤400;omega,hl,fun v hv=>by show 0≤v∧v≤(os.length:Int);rw [hn];exact hr v hv,fun o h=> ?_,hT.n1⟩
 ·obtain ⟨s,g1,_,g3,_⟩:=ho o h;have:=hT.z s (Ac g1);omega
 ·obtain ⟨s,g1,g2,g3,g4⟩:=ho o h;refine ⟨o.ty.toNat,s,by omega,g1,g3,hT.z0 s (Ac g1),hT.z s (Ac g1),fun j v hv hr=>by show 0≤v∧v≤(os.length:Int);rw [hn];exact g4 j v hv (vt3 hr)⟩
theorem qdd {ts:List ByteArray} {g:Gr} (h:graphOk ts g=true):Ty23 ts:=by
 unfold graphOk vku at h;simp only [Ad,decide_eq_true_eq,List.all_eq_true] at h;have ht:=h.1;refine ⟨ht.1.1,ht.1.2,fun s hs=> ?_,fun s hs=> ?_⟩
 ·have:=ht.2 s hs;unfold okType at this;simp only [Ad,decide_eq_true_eq] at this;exact this.1.2
 ·have:=ht.2 s hs;unfold okType at this;simp only [Ad,decide_eq_true_eq] at this;exact this.1.1
theorem qhx {ts:List ByteArray} {g:Gr} (hs:Small ts g) (h:graphOk ts g=true) (h8:g.roots.length=8) (hn:g.nodes.length≤200):Wok ts 200 (w0 g):=by
 have R:=Right.of hs h;refine ⟨hn,by decide,fun o ho=> ?_,Af,h8,R.roots,Af,fun v hv=>by rw [(List.mem_replicate.1 hv).2];omega,fun _ h=>(by cases h),Aj _,fun h=>(by cases h),fun _ h=>(by cases h),Aj _,fun h=>(by cases h)⟩;obtain ⟨t,s,g1,g2,g3,g4,g5,g6⟩:=R.obj o ho;exact ⟨s,by rw [g1,Int.toNat_natCast];exact g2,by omega,g3,fun j v hv hk=>g6 j v hv (qk5 hk)⟩
abbrev nowG (w:Wd):Gr:=⟨w.hd++w.sl,w.ob⟩
abbrev safeG (w:Wd):Gr:=if w.inR then ⟨w.he,backO w⟩ else ⟨w.sl,w.ob⟩
theorem Wok.now {ts:List ByteArray} {B:Nat} {w:Wd} (I:Wok ts B w) (hT:Ty23 ts):Right ts (nowG w):=
 vz0 I hT (fun v hv=>by rcases List.mem_append.1 hv with h|h;exact I.hdr v h;exact I.slr v h) (by rw [Ah,I.hd,I.sl];decide) I.ob rfl
theorem Wok.safe {ts:List ByteArray} {B:Nat} {w:Wd} (I:Wok ts B w) (hT:Ty23 ts) (hi:w.inR=true):Right ts ⟨w.he,backO w⟩:=
 vz0 I hT I.her (by have:=I.hel;omega) (fun o ho=>by rcases vts ho with h|h;exact I.ob o h;exact I.wa o h) (vhw w _)
theorem Wok.safe0 {ts:List ByteArray} {B:Nat} {w:Wd} (I:Wok ts B w) (hT:Ty23 ts):Right ts ⟨w.sl,w.ob⟩:=
 vz0 I hT I.slr (by rw [I.sl];decide) I.ob rfl
theorem qtt {d:Nat} {ts:List ByteArray} {g:Gr} {l:List Act'} {dn:List Int} (hw:vaf (T (d+8)) vae vdj [.sl true vam (ts.map eStr),cGr true g,.sl true vbv (l.map vcy)]=some ([.a (.bool true)],[]))
  (hn:vaf (T (d+8)) vae vf0 [.sl true vam (ts.map eStr),cGr true g]=some ([cWi false ts (w0 g) .n],[])) {B:Nat} {w:Wd} (I:Wok ts B w) (hT:Ty23 ts) (sv:Sv) (hsv:SvR w sv) {A:List Ans} (hA:A.length≤60)
  (key:vbt (T (d+9)) vae [3,8,9,10,24,25,26] vd2 (sPl ts l dn (w0 g) [] 0 .n)=some (.ext 0,ePl ts l dn w (A.map eAns) sv)):
  vaf (T (d+9)) vae vdt [.sl true vam (ts.map eStr),cGr true g,.sl true vbv (l.map vcy),.sl true vag (dn.map vak)]=some ([cRun 0 A (plainG ts (nowG w)) (plainG ts (safeG w)) w.inR w.dm],[]):=by
 have h1:=qna (d:=d+5) (w:=w) (thSv sv) (I.now hT);have hl1:=I.hd;have hl2:(w.hd.map vak).length=12:=by simpa using hl1
 have hl3:=I.sl;have hl4:(w.sl.map vak).length=8:=by simpa using hl3
 rw [List.map_append] at h1;unfold nowG;generalize hP:plainG ts ⟨w.hd++w.sl,w.ob⟩=P at *;obtain ⟨pr,pn⟩:=P;simp only [cWi,vce] at hn;cases hi:w.inR with
 |true=>
  obtain rfl:=hsv hi;obtain ⟨X,h2⟩:=vy0 (d:=d+7) (ts:=ts) (by have:=I.b;have:=I.bb;omega) I.du I.wal hi;have h3:=qm4 (d:=d+5) (w:=w) (X.map PV.thaw) (I.safe hT hi);unfold safeG;rw [hi,if_pos rfl];generalize hS:plainG ts ⟨w.he,backO w⟩=S at *;obtain ⟨sr,sn⟩:=S;generalize backO w=O at *;clear hP hS I hT hsv;obtain ⟨ob,du,sl,hds,ir,dm,wa,he⟩:=w;dsimp only at *;subst hi;simp only [cWi,vmd,vb9,zk1] at h1 h2;rw [vab rfl];simp (maxSteps:=3000000) -implicitDefEqProofs (disch:=first|exact zd|fail) only [go_sem,Aa,Ab,vdt,vkh,hw,hn,va5 key,h1,h2,h3,nPl,xPl]
 |false=>
  have h2:=vv4 (d:=d+7) (ts:=ts) sv hi;have h3:=qmd (d:=d+5) (w:=w) (thSv sv) (I.safe0 hT);unfold safeG;rw [hi,if_neg (by simp)];generalize hS:plainG ts ⟨w.sl,w.ob⟩=S at *;obtain ⟨sr,sn⟩:=S;clear hP hS I hT hsv;obtain ⟨ob,du,sl,hds,ir,dm,wa,he⟩:=w;dsimp only at *;subst hi;cases sv<;>
  ·simp only [cWi,vnv,vn1,vmd,vce,vcc,vb9] at h1 h2 h3;rw [vab rfl];simp (maxSteps:=3000000) -implicitDefEqProofs (disch:=first|exact zd|fail) only [go_sem,Aa,Ab,vdt,vkh,hw,hn,va5 key,h1,h2,h3,nPl,xPl]
def wpC (ts:List ByteArray) (g:Gr) (l:List Act') (dn:List Int):CV:=
 if isW ts g l then cRun 0 (plI ts l dn (w0 g) l.length).1 (plainG ts (nowG (plI ts l dn (w0 g) l.length).2)) (plainG ts (safeG (plI ts l dn (w0 g) l.length).2)) (plI ts l dn (w0 g) l.length).2.inR (plI ts l dn (w0 g) l.length).2.dm
 else cRun 1 [] ⟨[],[]⟩ ⟨[],[]⟩ false false
theorem vz6 {ts:List ByteArray} {g:Gr} {l:List Act'} (h:isW ts g l=true):l.length≤60∧graphOk ts g=true∧g.roots.length=8∧g.nodes.length≤200:=by
 unfold isW at h;simp only [Ad,decide_eq_true_eq] at h;exact ⟨h.1,h.2.1,h.2.2.1,h.2.2.2⟩
theorem vwc {d:Nat} {ts:List ByteArray} {g:Gr} (h:Small ts g) (l:List Act') (dn:List Int) (hl:l.length≤1048576) (hd:dn.length≤1048576):
  vaf (T (d+9)) vae vdt [.sl true vam (ts.map eStr),cGr true g,.sl true vbv (l.map vcy),.sl true vag (dn.map vak)]=some ([wpC ts g l dn],[]):=by
 have hw:=qji (d:=d+1) h l hl;unfold wpC;cases hi:isW ts g l with
 |false=>
  rw [hi] at hw;rw [if_neg (by simp)];rw [vab rfl];simp -implicitDefEqProofs (disch:=first|exact zd|fail) only [go_sem,Aa,Ab,vdt,vkh,hw];rfl
 |true=>
  rw [hi] at hw;rw [if_pos rfl];obtain ⟨h1,h2,h3,h4⟩:=vz6 hi;have hT:=qdd h2;have I:=qhx h h2 h3 h4;have hn:=qgs (d:=d+7) (ts:=ts) (g:=g) zo zo fun o ho=>by
   obtain ⟨s,g1,_,g3,_⟩:=I.ob o ho;have:=hT.z s (Ac g1);omega
  obtain ⟨_,⟨sv,hsv,rfl⟩,key⟩:=qwz (d:=d+3) (l:=l) (dn:=dn) I hT (by decide) h1 hd (fun h=>by cases h);obtain ⟨J,hA⟩:=vrz (d:=d) (sv:= .n) dn I hT (by decide) h1 (fun h=>by cases h) l.length (Nat.le_refl _);exact qtt hw hn J hT sv hsv zo key
