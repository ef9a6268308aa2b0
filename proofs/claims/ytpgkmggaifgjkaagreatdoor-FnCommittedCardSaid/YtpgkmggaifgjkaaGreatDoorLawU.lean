/- Acts. -/
import Derived.Test.YtpgkmggaifgjkaaGreatDoorCode
import Derived.Test.YtpgkmggaifgjkaaGreatDoorLawT
import Derived.Test.YtpgkmggaifgjkaaGreatDoorLawD
open Nat renaming reduceAdd->Aa,reduceBEq->Ab,le_refl->Al
open List renaming getElem?_eq_getElem->Ac,getElem?_eq_some_iff->Ad,map->Ae,mem_of_getElem?->Ag,map_map->Ah,length_set->Ai,map_set->Aj,length_append->Ak
open Int renaming toNat_natCast->Af
set_option linter.all false
namespace Go.Proofs.YtpgkmggaifgjkaaGreatDoor.VM
open Go Sy
variable {Φ:Nat->Option Callee} {N:Nat}
set_option maxRecDepth 100000
set_option maxHeartbeats 8000000
structure Act' where
 kind:Int
 a:Int
 b:Int
 c:Int
 power:Int
 keep:List Int
def ves (x:Act'):PV:= .st [vak x.kind,vak x.a,vak x.b,vak x.c,vak x.power,.sl vae (x.keep.map vak)]
theorem qq4 (x:Act'):ves x= .st [.a (.int .i64 x.kind),.a (.int .i64 x.a),.a (.int .i64 x.b),.a (.int .i64 x.c),.a (.int .i64 x.power),.sl vae (x.keep.map vak)]:=rfl
attribute [go_sem] qq4
abbrev cAct (z:Bool) (x:Act'):CV:= .st [.a (.int .i64 x.kind),.a (.int .i64 x.a),.a (.int .i64 x.b),.a (.int .i64 x.c),.a (.int .i64 x.power),.sl z vae (x.keep.map vak)]
structure Strew where
 at_:Int
 kind:Int
 a:Int
def qua (s:Strew):PV:= .st [vak s.at_,vak s.kind,vak s.a]
theorem qjo (s:Strew):qua s= .st [.a (.int .i64 s.at_),.a (.int .i64 s.kind),.a (.int .i64 s.a)]:=rfl
attribute [go_sem] qjo
structure Ans where
 code:Int
 n:Int
def eAns (a:Ans):PV:= .st [vak a.code,vak a.n]
theorem qqy (a:Ans):eAns a= .st [.a (.int .i64 a.code),.a (.int .i64 a.n)]:=rfl
attribute [go_sem] qqy
structure Wd where
 ob:List Obj'
 du:List Bool
 sl:List Int
 hd:List Int
 inR:Bool
 dm:Bool
 wa:List Obj'
 he:List Int
abbrev eBl (b:Bool):PV:= .a (.bool b)
def kAt (s:ByteArray) (j:Nat):Nat:=((ch s)[j]?.getD 0).toNat
theorem vj7 {s:ByteArray} {j:Nat} (h:j<s.size):ixT (.a (.string s)) (.a (.int .i64 (j:Nat)))=some (.a (.int .u8 (kAt s j:Nat))):=by
 obtain ⟨b,hb⟩:∃b,(ch s)[j]? =some b:=⟨_,Ac (by rw [<-vho];exact h)⟩
 have:=vmc hb;unfold kAt;rw [hb];exact this
theorem zk4:(false !=true)=true:=rfl
theorem zjz:(true !=false)=true:=rfl
theorem zkh:(true !=true)=false:=rfl
theorem zke:(false !=false)=false:=rfl
attribute [go_sem] zk4 zjz zkh zke
def plc0 (l:List Int):Int:=idxOf (λx=>decide (x=0)) l
def hAt (w:Wd) (h:Int):Int:=w.hd[h.toNat]?.getD 0
def usedW (w:Wd) (h:Int):Bool:=decide (0<=h/\h<=11)&&decide (hAt w h≠0)
def objW (w:Wd) (h:Int):Obj':=w.ob[(hAt w h).toNat-1]?.getD ⟨0,[]⟩
def durW (w:Wd) (h:Int):Bool:=w.du[(hAt w h).toNat-1]?.getD false
def kindW (ts:List ByteArray) (o:Obj') (b:Int):Nat:=kAt (ts[o.ty.toNat]?.getD ⟨#[]⟩) b.toNat
def valW (w:Wd) (x:Act'):Int:=(objW w x.a).vals[x.b.toNat]?.getD 0
def fldW (ts:List ByteArray) (w:Wd) (x:Act'):Int:=
 if usedW w x.a=false\/x.kind=5/\x.c≠-1/\usedW w x.c=false then 2
 else if ¬(0<=x.b/\x.b<=((objW w x.a).vals.length:Int)-1) then 4
 else if ¬(x.kind=4\/x.kind=5)↔kindW ts (objW w x.a) x.b=114 then 5
 else if (x.kind=3\/x.kind=5)/\w.inR=false/\durW w x.a=true then 6
 else if x.kind=4/\valW w x≠0/\plc0 w.hd<0 then 9 else 0
def codeW (ts:List ByteArray) (w:Wd) (x:Act'):Int:=
 if w.dm=true/\¬(14<=x.kind/\x.kind<=18) then 7
 else if x.kind=1 then (if ¬(0<=x.a/\x.a<=(ts.length:Int)-1) then 3 else if plc0 w.hd<0 then 9 else 0)
 else if 2<=x.kind/\x.kind<=5 then fldW ts w x
 else if x.kind=6\/x.kind=8\/x.kind=9 then (if usedW w x.a then 0 else 2)
 else if x.kind=7 then (if usedW w x.a&&usedW w x.b then 0 else 2)
 else if x.kind=10 then (if w.inR then 6 else 0)
 else if x.kind=11 then (if ¬(0<=x.a/\x.a<=7) then 8 else if x.b≠-1/\usedW w x.b=false then 2 else if w.inR then 0 else 6)
 else if x.kind=12 then (if ¬(0<=x.a/\x.a<=7) then 8 else if w.sl[x.a.toNat]?.getD 0≠0/\plc0 w.hd<0 then 9 else 0)
 else if x.kind=13\/x.kind=14 then (if w.inR then 0 else 6)
 else if 15<=x.kind/\x.kind<=18 then 0 else 1
def ObOk (ts:List ByteArray) (n:Nat) (o:Obj'):Prop:=∃s:ByteArray,ts[o.ty.toNat]? =some s/\0<=o.ty/\o.vals.length=s.size/\∀(j:Nat) v,o.vals[j]? =some v->kAt s j=114->0<=v/\v<=(n:Int)
theorem ObOk.mono {ts:List ByteArray} {n m:Nat} {o:Obj'} (h:ObOk ts n o) (hm:n<=m):ObOk ts m o:=by
 obtain ⟨s,h1,h2,h3,h4⟩:=h;exact ⟨s,h1,h2,h3,λj v hv hb=>by have:=h4 j v hv hb;omega⟩
def Rin (n:Nat) (l:List Int):Prop:=∀x∈l,0<=x/\x<=(n:Int)
theorem Rin.mono {n m:Nat} {l:List Int} (h:Rin n l) (hm:n<=m):Rin m l:=λx hx=>by have:=h x hx;omega
theorem Rin.get {n:Nat} {l:List Int} (h:Rin n l) {i:Nat} {x:Int} (hx:l[i]? =some x):0<=x/\x<=(n:Int):=h x (Ag hx)
theorem Rin.set {n:Nat} {l:List Int} (h:Rin n l) (i:Nat) {x:Int} (hx:0<=x/\x<=(n:Int)):Rin n (l.set i x):=λy hy=>by
 rcases List.mem_or_eq_of_mem_set hy with h1|h1
 ·exact h y h1
 ·rw [h1];exact hx
structure Ty23 (ts:List ByteArray):Prop where
 n0:1<=ts.length
 n1:ts.length<=12
 z:∀s∈ts,s.size<=23
 z0:∀s∈ts,1<=s.size
structure Wok (ts:List ByteArray) (B:Nat) (w:Wd):Prop where
 b:w.ob.length<=B
 bb:B<=400
 ob:∀o∈w.ob,ObOk ts w.ob.length o
 du:w.du.length=w.ob.length
 sl:w.sl.length=8
 slr:Rin w.ob.length w.sl
 hd:w.hd.length=12
 hdr:Rin w.ob.length w.hd
 wa:∀o∈w.wa,ObOk ts w.ob.length o
 wal:w.wa.length<=w.ob.length
 he:w.inR=true->w.he.length=8
 her:Rin w.ob.length w.he
 hel:w.he.length<=8
 dm:w.dm=true->w.inR=true
theorem vht {ts:List ByteArray} {B:Nat} {w:Wd} (I:Wok ts B w) {h:Int} (hu:usedW w h=true):∃(n:Nat) (m:Nat),h=n/\n<12/\w.hd[n]? =some ((m:Int)+1)/\m<w.ob.length/\m<1000/\hAt w h=(m:Int)+1:=by
 unfold usedW at hu;rw [Bool.and_eq_true,decide_eq_true_eq,decide_eq_true_eq] at hu;obtain ⟨c,h2⟩:=hu;obtain ⟨n,rfl⟩:∃n:Nat,h=n:=⟨h.toNat,zo⟩
 have hd:=I.hd;obtain ⟨x,hx⟩:∃x,w.hd[n]? =some x:=⟨_,Ac zo⟩
 have e:hAt w (n:Int)=x:=by unfold hAt;rw [Af,hx];rfl
 rw [e] at h2;have:=I.hdr.get hx;have:=I.b;have:=I.bb;refine ⟨n,(x-1).toNat,rfl,zo,?_,zo,zo,?_⟩
 ·rw [hx];congr 1;omega
 ·rw [e];omega
theorem qmj (l:List Int) (h:Int) (hl:l.length<=1048576):
  vbt Φ vad [0,1,7,8] vea ⟨[(0,.sz vae (l.map vak)),(1,.a (.int .i64 h)),(7,.a (.int .i64 l.length)),(8,.a (.int .i64 (0:Nat)))],[],0⟩=
  some (match l.findIdx? (λx=>decide (x=h)) with|some i=>(.ret,⟨[(4,.a (.int .i64 (i:Nat)))],[],1100⟩)|none=>(.ext 0,⟨[(0,.sz vae (l.map vak)),(1,.a (.int .i64 h)),(7,.a (.int .i64 l.length)),(8,.a (.int .i64 l.length)),(9,.a (.bool false))],[],100⟩)):=by
 refine vd2 (λi=>⟨[(0,.sz vae (l.map vak)),(1,.a (.int .i64 h)),(7,.a (.int .i64 l.length)),(8,.a (.int .i64 (i:Nat)))],[],0⟩) _ (λi=>∀(j:Nat) b,j<i->l[j]? =some b->decide (b=h)=false) (m:=l.length) (vbc zo) (λj b h=>zo) (by split<;>simp) (λi hi hp=> ?_);by_cases hi':i<l.length
 ·obtain ⟨b,hb⟩:∃b,l[i]? =some b:=⟨_,Ac hi'⟩
  have hw:=va0 i zo;unfold round vea;by_cases c:b=h
  ·right;rw [vjn (q:=λx=>decide (x=h)) hb (decide_eq_true c) hp];simp -implicitDefEqProofs (disch:=try exact zd) only [go_sem,Aa,Ab,hb,hw,c]
  ·refine .inl ⟨hi',?_,λj y hj hy=> ?_⟩
   ·have c':¬h=b:=λe=>c e.symm;simp -implicitDefEqProofs (disch:=try exact zd) only [go_sem,Aa,Ab,hb,hw,c']
    (show some _=some _;kernel_rfl)
   ·by_cases hji:j=i
    ·subst hji;rw [hb] at hy;cases hy;exact decide_eq_false c
    ·exact hp j y zo hy
 ·obtain rfl:i=l.length:=zo
  right;rw [vjh λj y hy=>hp j y (by have:=(Ad.1 hy).1;omega) hy];unfold round vea;simp -implicitDefEqProofs (disch:=try exact zd) only [go_sem,Aa,Ab]
theorem vyk (l:List Int) (h:Int) (hl:l.length<=1048576):vag Φ vad vc7 [.sl true vae (l.map vak),.a (.int .i64 h)]=some ([.a (.int .i64 (idxOf (λx=>decide (x=h)) l))],[]):=by
 have key:=qmj (Φ:=Φ) l h hl;rw [vab rfl];unfold idxOf;cases h:l.findIdx? (λx=>decide (x=h)) with
 |some i=>
  rw [h] at key;dsimp only at key;simp -implicitDefEqProofs (disch:=try exact zd) only [go_sem,Aa,Ab,vc7,vgz,vih key]
 |none=>
  rw [h] at key;dsimp only at key;simp -implicitDefEqProofs (disch:=try exact zd) only [go_sem,Aa,Ab,vc7,vgz,vaw key]
theorem qav {d:Nat} (l:List Int) (h:Int) (hl:l.length<=1048576):vag (T (d+1)) vad vdk [.sl true vae (l.map vak),.a (.int .i64 h)]=some ([.a (.bool (decide (0<=idxOf (λx=>decide (x=h)) l)))],[]):=by
 have h1:=vyk (Φ:=T d) l h hl;rw [vab rfl];simp -implicitDefEqProofs (disch:=try exact zd) only [go_sem,Aa,Ab,vdk,vi0,h1]
abbrev cSit (ts:List ByteArray) (w:Wd):CV:= .st [.sl true vam (ts.map eStr),.sl true vae (w.hd.map vak),.a (.bool w.inR),.a (.bool w.dm)]
theorem vjt {d:Nat} {ts:List ByteArray} {w:Wd} (hl:w.hd.length=12):vag (T (d+2)) vad ven [cSit ts w]=some ([.a (.bool (decide (plc0 w.hd<0)))],[]):=by
 have h1:=qav (d:=d) w.hd 0 zo;have e:decide (plc0 w.hd<0)= !decide (0<=idxOf (λx=>decide (x=0)) w.hd):=by
  unfold plc0;by_cases c:0<=idxOf (λx=>decide (x=0)) w.hd
  ·rw [decide_eq_true c,decide_eq_false zo];rfl
  ·rw [decide_eq_false c,decide_eq_true zo];rfl
 rw [vab rfl];rw [e];simp -implicitDefEqProofs (disch:=try exact zd) only [go_sem,Aa,Ab,ven,vk6,h1]
theorem vc6 {d:Nat} {w:Wd} (hl:w.hd.length=12) (h:Int):vag (T (d+1)) vad vie [.sl true vae (w.hd.map vak),.a (.int .i64 h)]=some ([.a (.bool (usedW w h))],[]):=by
 have h1:=vha (Φ:=T d) (N:=vad) (a:=h) (b:=0) (c:=11);rw [vab rfl];unfold usedW hAt;by_cases c:0<=h/\h<=11
 ·obtain ⟨n,rfl⟩:∃n:Nat,h=n:=⟨h.toNat,zo⟩
  obtain ⟨x,hx⟩:∃x,w.hd[n]? =some x:=⟨_,Ac zo⟩
  have hlt:n<w.hd.length:=zo
  rw [decide_eq_true c] at h1⊢;rw [Af,hx,Option.getD_some,Bool.true_and];simp -implicitDefEqProofs (disch:=try exact zd) only [go_sem,Aa,Ab,vie,vnu,h1,hx]
 ·rw [decide_eq_false c] at h1⊢;rw [Bool.false_and];simp -implicitDefEqProofs (disch:=try exact zd) only [go_sem,Aa,Ab,vie,vnu,h1]
theorem vij {d:Nat} (k:Int):vag (T d) vad vdh [.a (.int .i64 k)]=some ([.a (.bool (decide (14<=k/\k<=18)))],[]):=by
 rw [vab rfl];by_cases c1:k=14
 ·subst c1;simp -implicitDefEqProofs (disch:=try exact zd) only [go_sem,Aa,Ab,vdh,ve9]
 by_cases c2:k=15
 ·subst c2;simp -implicitDefEqProofs (disch:=try exact zd) only [go_sem,Aa,Ab,vdh,ve9]
 by_cases c3:k=16
 ·subst c3;simp -implicitDefEqProofs (disch:=try exact zd) only [go_sem,Aa,Ab,vdh,ve9]
 by_cases c4:k=17
 ·subst c4;simp -implicitDefEqProofs (disch:=try exact zd) only [go_sem,Aa,Ab,vdh,ve9]
 by_cases c5:k=18
 ·subst c5;simp -implicitDefEqProofs (disch:=try exact zd) only [go_sem,Aa,Ab,vdh,ve9]
 rw [decide_eq_false zo];simp -implicitDefEqProofs (disch:=try exact zd) only [go_sem,Aa,Ab,vdh,ve9,c1,c2,c3,c4,c5]
theorem vyj {d:Nat} (b:Bool):vag (T d) vad vks [.a (.bool b)]=some ([.a (.int .i64 (if b then 1 else 0))],[]):=by
 rw [vab rfl];cases b<;>simp -implicitDefEqProofs (disch:=try exact zd) only [go_sem,Aa,Ab,vks,vue]<;>rfl
theorem vua {d:Nat} {w:Wd} (hl:w.hd.length=12) (h:Int) (hh:h<=11):vag (T d) vad vgv [.sl true vae (w.hd.map vak),.a (.int .i64 h)]=some ([.a (.int .i64 (if h<0 then 0 else hAt w h))],[]):=by
 rw [vab rfl];unfold hAt;by_cases c:h<0
 ·rw [if_pos c];simp -implicitDefEqProofs (disch:=try exact zd) only [go_sem,Aa,Ab,vgv,vl0,c]
 ·rw [if_neg c];obtain ⟨n,rfl⟩:∃n:Nat,h=n:=⟨h.toNat,zo⟩
  obtain ⟨x,hx⟩:∃x,w.hd[n]? =some x:=⟨_,Ac zo⟩
  have hlt:n<w.hd.length:=zo
  rw [Af,hx,Option.getD_some];simp -implicitDefEqProofs (disch:=try exact zd) only [go_sem,Aa,Ab,vgv,vl0,c,hx]
inductive Sv where
 |n
 |a (X:List PV)
 |b (X:List PV) (s:List Int)
def cSv (z:Bool):Sv->CV
 | .n=> .a (.pointer none)
 | .a X=> .bx z [.sl z vam [],.sl z vai X,.sl z vb3 [],.sl z vae [],.un,.a (.bool false),.a (.bool false),.a (.pointer none)]
 | .b X s=> .bx z [.sl z vam [],.sl z vai X,.sl z vb3 [],.sl z vae [],.sl z vae (s.map vak),.a (.bool false),.a (.bool false),.a (.pointer none)]
theorem vcd {z:Bool}:cSv z .n= .a (.pointer none):=rfl
theorem vca {z:Bool} {X:List PV}:cSv z (.a X)= .bx z [.sl z vam [],.sl z vai X,.sl z vb3 [],.sl z vae [],.un,.a (.bool false),.a (.bool false),.a (.pointer none)]:=rfl
theorem vb8 {z:Bool} {X:List PV} {s:List Int}:cSv z (.b X s)= .bx z [.sl z vam [],.sl z vai X,.sl z vb3 [],.sl z vae [],.sl z vae (s.map vak),.a (.bool false),.a (.bool false),.a (.pointer none)]:=rfl
attribute [go_sem] vcd vca vb8
abbrev cWi (z:Bool) (ts:List ByteArray) (w:Wd) (sv:Sv):CV:= .bx z [.sl true vam (ts.map eStr),.sl z vai (w.ob.map eObj),.sl z vb3 (w.du.map eBl),.sl z vae (w.hd.map vak),.sl z vae (w.sl.map vak),.a (.bool w.inR),.a (.bool w.dm),cSv z sv]
theorem vk4 {d:Nat} {ts:List ByteArray} {w:Wd} (sv:Sv) {n m:Nat} {o:Obj'} (h1:w.hd[n]? =some ((m:Int)+1)) (h2:w.ob[m]? =some o) (hm:m<1000):vag (T d) vad vf2 [cWi true ts w sv,.a (.int .i64 (n:Nat))]=some ([.a (.int .i64 o.ty)],[]):=by
 have e1:IntKind.i64.wrap ((m:Int)+1-1)=(m:Nat):=by rw [vau]<;>omega
 have l1:=(Ad.1 h1).1;have l2:=(Ad.1 h2).1;obtain ⟨ob,du,sl,hd,ir,dm,wa,he⟩:=w;obtain ⟨t,vs⟩:=o;dsimp only at *;cases sv<;>rw [vab rfl]<;>simp -implicitDefEqProofs (disch:=try exact zd) only [go_sem,Aa,Ab,vf2,vml,h1,h2,e1]
theorem vii {d:Nat} {ts:List ByteArray} {w:Wd} (sv:Sv) {n m:Nat} {u:Bool} (h1:w.hd[n]? =some ((m:Int)+1)) (h2:w.du[m]? =some u) (hm:m<1000):vag (T d) vad ve3 [cWi true ts w sv,.a (.int .i64 (n:Nat))]=some ([.a (.bool u)],[]):=by
 have e1:IntKind.i64.wrap ((m:Int)+1-1)=(m:Nat):=by rw [vau]<;>omega
 have l1:=(Ad.1 h1).1;have l2:=(Ad.1 h2).1;obtain ⟨ob,du,sl,hd,ir,dm,wa,he⟩:=w;dsimp only at *;cases sv<;>rw [vab rfl]<;>simp -implicitDefEqProofs (disch:=try exact zd) only [go_sem,Aa,Ab,ve3,vk7,h1,h2,e1]
theorem vhj {d:Nat} {ts:List ByteArray} {w:Wd} (sv:Sv) {n m j:Nat} {o:Obj'} {v:Int} (h1:w.hd[n]? =some ((m:Int)+1)) (h2:w.ob[m]? =some o) (h3:o.vals[j]? =some v) (hm:m<1000):vag (T d) vad vfq [cWi true ts w sv,.a (.int .i64 (n:Nat)),.a (.int .i64 (j:Nat))]=some ([.a (.int .i64 v)],[]):=by
 have e1:IntKind.i64.wrap ((m:Int)+1-1)=(m:Nat):=by rw [vau]<;>omega
 have l1:=(Ad.1 h1).1;have l2:=(Ad.1 h2).1;have l3:=(Ad.1 h3).1;obtain ⟨ob,du,sl,hd,ir,dm,wa,he⟩:=w;obtain ⟨t,vs⟩:=o;dsimp only at *;cases sv<;>rw [vab rfl]<;>simp -implicitDefEqProofs (disch:=try exact zd) only [go_sem,Aa,Ab,vfq,vmj,h1,h2,h3,e1]
theorem qe0 {d:Nat} {ts:List ByteArray} {w:Wd} (sv:Sv) {n:Nat} {v:Int} (h1:w.sl[n]? =some v):vag (T d) vad vf3 [cWi true ts w sv,.a (.int .i64 (n:Nat))]=some ([.a (.int .i64 v)],[]):=by
 have l1:=(Ad.1 h1).1;obtain ⟨ob,du,sl,hd,ir,dm,wa,he⟩:=w;dsimp only at *;cases sv<;>rw [vab rfl]<;>simp -implicitDefEqProofs (disch:=try exact zd) only [go_sem,Aa,Ab,vf3,vmq,h1]
theorem vtg {d:Nat} {ts:List ByteArray} {w:Wd} (sv:Sv):vag (T d) vad ve1 [cWi true ts w sv]=some ([cSit ts w],[]):=by
 obtain ⟨ob,du,sl,hd,ir,dm,wa,he⟩:=w;cases sv<;>rw [vab rfl]<;>simp -implicitDefEqProofs (disch:=try exact zd) only [go_sem,Aa,Ab,ve1,vk9]
theorem znd (l:List Int):(l.map vak).map PV.thaw=l.map vak:=by rw [Ah];rfl
theorem zfm (l:List Obj'):(l.map eObj).map PV.thaw=l.map eObj:=by rw [Ah];rfl
theorem znj (l:List Bool):(l.map eBl).map PV.thaw=l.map eBl:=by rw [Ah];rfl
theorem znc (l:List Int):(l.map vak).map PV.cpy=l.map vak:=by rw [Ah];rfl
theorem qe1 {α:Type} {l:List α} {i:Nat} {x:α} (h:l[i]? =some x):l.take (i+1)=l.take i++ [x]:=by rw [List.take_add_one,h];rfl
theorem zm8 (l:List Int) (n:Nat) (x:Int):(l.map vak).set n (.a (.int .i64 x))=(l.set n x).map vak:=(Aj (f:=vak)).symm
theorem vvs {l:List Int} (c:¬plc0 l<0):∃n:Nat,plc0 l=n/\n<l.length:=by
 unfold plc0 idxOf at c⊢;cases hf:l.findIdx? (λx=>decide (x=0)) with
 |none=>rw [hf] at c;exact absurd (by decide) c
 |some i=>exact ⟨i,rfl,(List.findIdx?_eq_some_iff_getElem.1 hf).1⟩
attribute [go_sem] znd zfm znj znc zm8
theorem vrf {d:Nat} (l:List Int):vag (T (d+1)) vad vfd [.sl false vae (l.map vak),.a (.int .i64 0)]=some ([.a (.int .i64 (-1))],[.sl false vae (l.map vak)]):=by
 rw [vab rfl];simp -implicitDefEqProofs (disch:=try exact zd) only [go_sem,Aa,Ab,vfd,vlq]
theorem vnv {d:Nat} (l:List Int) (hl:l.length=12) (r:Int) (h0:r≠0) (hf:¬plc0 l<0):vag (T (d+1)) vad vfd [.sl false vae (l.map vak),.a (.int .i64 r)]=some ([.a (.int .i64 (plc0 l))],[.sl false vae ((l.set (plc0 l).toNat r).map vak)]):=by
 have h1:=vyk (Φ:=T d) l 0 zo;obtain ⟨n,hn,hlt⟩:=vvs hf;rw [show idxOf (λx=>decide (x=0)) l=plc0 l from rfl] at h1;rw [hn] at h1⊢;obtain ⟨x,hx⟩:∃x,l[n]? =some x:=⟨_,Ac hlt⟩
 rw [Af];rw [vab rfl];simp -implicitDefEqProofs (disch:=try exact zd) only [go_sem,Aa,Ab,vfd,vlq,h0,h1,hx]
abbrev sKp (ts:List ByteArray) (w:Wd) (i:Nat) (X:List PV) (nx:Nat):St:=⟨[(0,.rf 0),(17,.rf 1),(18,.a (.int .i64 w.ob.length)),(19,.a (.int .i64 (i:Nat))),(10000,.rf 0)],[(0,some (.bx false [.sz vam (Ae eStr ts),.rf 1,.rf 2,.rf 3,.rf 4,.a (.bool w.inR),.a (.bool w.dm),.rf 5])),(1,some (.sl true 0 vai (Ae eObj w.ob))),(2,some (.sl true 0 vb3 (Ae eBl w.du))),(3,some (.sl true 0 vae (Ae vak w.hd))),(4,some (.sl true 0 vae (Ae vak w.sl))),(5,some (.bx false [.rf 6,.rf 7,.rf 8,.rf 9,.rf 10,.a (.bool false),.a (.bool false),.a (.pointer none)])),(6,some (.sl false 0 vam [])),(7,some (.sl false 0 vai X)),(8,some (.sl false 0 vb3 [])),(9,some (.sl false 0 vae [])),(10,some (.sl false 0 vae (Ae vak w.sl)))],nx⟩
abbrev sKe (ts:List ByteArray) (w:Wd) (i:Nat) (X:List PV) (nx:Nat):St:=⟨[(0,.rf 0),(17,.rf 1),(18,.a (.int .i64 w.ob.length)),(19,.a (.int .i64 (i:Nat))),(20,.a (.bool false)),(10000,.rf 0)],(sKp ts w i X nx).nodes,nx⟩
theorem qqo {d:Nat} {ts:List ByteArray} {w:Wd} (hb:w.ob.length<=1000) (hv:∀o∈w.ob,o.vals.length<=23):vbt (T (d+1)) vad [0,17,18,19,10000] vg9 (sKp ts w 0 ((w.ob.take 0).map eObj) 11)=some (.ext 0,sKe ts w w.ob.length ((w.ob.take w.ob.length).map eObj) 111):=by
 refine vcj (m:=w.ob.length) (λi=>sKp ts w i ((w.ob.take i).map eObj) 11) _ (vbc zo) (λi hi=> ?_) ?_
 ·have hw:=va0 i zo;have hlt:(i:Int)<w.ob.length:=zo
  obtain ⟨o,ho⟩:∃b,w.ob[i]? =some b:=⟨_,Ac zo⟩
  rw [qe1 ho,vb5];have hlen:((w.ob.take i).map eObj).length<=1000:=by simp;omega
  generalize (w.ob.take i).map eObj=X at *;have hvl:=hv o (Ag ho);obtain ⟨ob,du,sl,hd,ir,dm,wa,he⟩:=w;obtain ⟨t,vs⟩:=o;dsimp only at *;have hvm:(vs.map vak).length<=1000:=by simp;omega
  unfold round vg9;simp -implicitDefEqProofs (disch:=try exact zd) only [go_sem,Aa,Ab,hw,hlt,ho,List.nil_append]
  (show some _=some _;kernel_rfl)
 ·have hlt:¬(w.ob.length:Int)<w.ob.length:=zo
  obtain ⟨ob,du,sl,hd,ir,dm,wa,he⟩:=w;dsimp only at *;unfold round vg9;simp -implicitDefEqProofs (disch:=try exact zd) only [go_sem,Aa,Ab,hlt]
theorem qka {d:Nat} {ts:List ByteArray} {w:Wd} (hb:w.ob.length<=1000) (hv:∀o∈w.ob,o.vals.length<=23) (hs:w.sl.length=8) (sv:Sv):vag (T (d+1)) vad vg4 [cWi false ts w sv]=some ([],[cWi false ts w (.b (w.ob.map eObj) w.sl)]):=by
 have key:=qqo (d:=d) (ts:=ts) hb hv;rw [List.take_length] at key;have hs2:(w.sl.map vak).length<=1000:=by simp;omega
 obtain ⟨ob,du,sl,hd,ir,dm,wa,he⟩:=w;dsimp only at *;cases sv<;>(rw [vab rfl];simp -implicitDefEqProofs (disch:=try exact zd) only [go_sem,Aa,Ab,vg4,vn5,vaw key];rfl)
def bkI (w:Wd):Nat->List Obj'
 |0=>w.ob
 |i+1=>if w.du[i]? =some true then (match w.wa[i]? with|some o=>(bkI w i).set i o|none=>bkI w i) else bkI w i
theorem vhg (w:Wd):∀i,(bkI w i).length=w.ob.length
 |0=>rfl
 |i+1=>by
  unfold bkI;split
  ·split
   ·rw [Ai];exact vhg w i
   ·exact vhg w i
  ·exact vhg w i
abbrev backO (w:Wd):List Obj':=bkI w w.wa.length
def Rest (wa:List Obj') (i:Nat) (X:List PV):Prop:=X.length=wa.length/\∀j,i<=j->X[j]? =(wa.map eObj)[j]?
abbrev nAb (ts:List ByteArray) (w:Wd) (q:Bool) (L X:List PV):vcb:= [(0,some (.bx false [.sz vam (Ae eStr ts),.rf 3,.rf 4,.rf 5,.rf 6,.a (.bool true),.a (.bool w.dm),.rf 7])),(1,some (.sl q 0 vai L)),(2,some (.sl true 0 vai X)),(3,none),(4,some (.sl true 0 vb3 (Ae eBl w.du))),(5,some (.sl true 0 vae (Ae vak w.hd))),(6,some (.sl true 0 vae (Ae vak w.sl))),(7,some (.bx false [.rf 8,.rf 2,.rf 9,.rf 10,.rf 11,.a (.bool false),.a (.bool false),.a (.pointer none)])),(8,some (.sl true 0 vam [])),(9,some (.sl true 0 vb3 [])),(10,some (.sl true 0 vae [])),(11,some (.sl true 0 vae (Ae vak w.he)))]
abbrev sAb (ts:List ByteArray) (w:Wd) (i:Nat) (q:Bool) (L X:List PV):St:=⟨[(0,.rf 0),(4,.rf 1),(31,.rf 2),(32,.a (.int .i64 w.wa.length)),(33,.a (.int .i64 (i:Nat))),(10000,.rf 0)],nAb ts w q L X,12⟩
theorem qey {d:Nat} {ts:List ByteArray} {w:Wd} (hb:w.ob.length<=1000) (hdu:w.du.length=w.ob.length) (hwal:w.wa.length<=w.ob.length):
  ∃e,(∃(q:Bool) (X:List PV),e=⟨[(0,.rf 0),(4,.rf 1),(31,.rf 2),(32,.a (.int .i64 w.wa.length)),(33,.a (.int .i64 (w.wa.length:Nat))),(34,.a (.bool false)),(10000,.rf 0)],nAb ts w q ((backO w).map eObj) X,112⟩)/\
  vbt (T (d+1)) vad [0,4,31,32,33,10000] veo (sAb ts w 0 false (w.ob.map eObj) (w.wa.map eObj))=some (.ext 0,e):=by
 refine ve5 (λr s=>∃(i:Nat) (q:Bool) (X:List PV),i+r=w.wa.length/\Rest w.wa i X/\s=sAb ts w i q ((bkI w i).map eObj) X) 0 _ (m:=w.wa.length) (vbc zo) ⟨0,false,_,zo,⟨by simp,λ_ _=>rfl⟩,rfl⟩ ?_
 rintro r _ hr ⟨i,q,X,hi,⟨hX,hXj⟩,rfl⟩
 have hO:=vhg w i;by_cases hpos:0<r
 ·left;have hw:=va0 i zo;have hlt:(i:Int)<w.wa.length:=zo
  obtain ⟨o,ho⟩:∃b,w.wa[i]? =some b:=⟨_,Ac zo⟩
  have hx:X[i]? =some (eObj o):=by rw [hXj i (Al _),List.getElem?_map,ho];rfl
  obtain ⟨u,hu⟩:∃b,w.du[i]? =some b:=⟨_,Ac zo⟩
  have h1:i<w.du.length:=zo
  have h2:i<X.length:=zo
  obtain ⟨o2,ho2⟩:∃b,(bkI w i)[i]? =some b:=⟨_,Ac zo⟩
  have h3:i<(bkI w i).length:=zo
  have hstep:bkI w (i+1)=if u=true then (bkI w i).set i o else bkI w i:=by
   show (if w.du[i]? =some true then (match w.wa[i]? with|some o=>(bkI w i).set i o|none=>bkI w i) else bkI w i)=_;rw [hu,ho];cases u<;>simp
  cases u with
  |false=>
   refine ⟨hpos,_,?_,i+1,q,X,zo,⟨hX,λj hj=>hXj j zo⟩,rfl⟩;rw [hstep,if_neg (by simp)];clear hXj ho hstep;generalize bkI w i=O at *;obtain ⟨ob,du,sl,hs,ir,dm,wa,he⟩:=w;obtain ⟨t,vs⟩:=o;dsimp only at *;rw [vkc] at hx;unfold round veo;simp -implicitDefEqProofs (disch:=try exact zd) only [go_sem,Aa,Ab,hx,hu,hw,hlt]
   (show some _=some _;kernel_rfl)
  |true=>
   refine ⟨hpos,_,?_,i+1,true,X.set i (.st [.a (.int .i64 o.ty),.un]),zo,⟨by rw [Ai];exact hX,λj hj=>by rw [List.getElem?_set_ne zo];exact hXj j zo⟩,rfl⟩;rw [hstep,if_pos rfl];clear hXj ho hstep;generalize bkI w i=O at *;obtain ⟨ob,du,sl,hs,ir,dm,wa,he⟩:=w;obtain ⟨t,vs⟩:=o;dsimp only at *;rw [vkc] at hx;rw [show (O.set i ⟨t,vs⟩).map eObj=(O.map eObj).set i (eObj ⟨t,vs⟩) from Aj];cases q<;>
   ·unfold round veo;simp -implicitDefEqProofs (disch:=try exact zd) only [go_sem,Aa,Ab,hx,hu,ho2,hw,hlt]
    (show some _=some _;kernel_rfl)
 ·right;obtain rfl:i=w.wa.length:=zo
  have hlt:¬((w.wa.length:Nat):Int)<w.wa.length:=zo
  refine ⟨_,?_,q,X,rfl⟩;clear hXj;unfold backO;generalize bkI w w.wa.length=O at *;obtain ⟨ob,du,sl,hs,ir,dm,wa,he⟩:=w;dsimp only at *;unfold round veo;simp -implicitDefEqProofs (disch:=try exact zd) only [go_sem,Aa,Ab,hlt]
abbrev cSa (z:Bool) (X:List PV):CV:= .bx z [.sl z vam [],.sl z vai X,.sl z vb3 [],.sl z vae [],.un,.a (.bool false),.a (.bool false),.a (.pointer none)]
theorem vu7 {d:Nat} {ts:List ByteArray} {w:Wd} (hb:w.ob.length<=1000) (hdu:w.du.length=w.ob.length) (hwal:w.wa.length<=w.ob.length) (hi:w.inR=true):∃X:List PV,
  vag (T (d+1)) vad vdu [cWi false ts w (.b (w.wa.map eObj) w.he)]=some ([.sl false vai ((backO w).map eObj),.sl false vae (w.he.map vak)],[.bx false [.sl true vam (ts.map eStr),.un,.sl false vb3 (w.du.map eBl),.sl false vae (w.hd.map vak),.sl false vae (w.sl.map vak),.a (.bool true),.a (.bool w.dm),cSa false X]]):=by
 obtain ⟨_,⟨q,X,rfl⟩,key⟩:=qey (d:=d) (ts:=ts) hb hdu hwal;refine ⟨X,?_⟩;have hl:(w.ob.map eObj).length<=1000:=by simpa using hb
 unfold backO at *;generalize bkI w w.wa.length=O at *;obtain ⟨ob,du,sl,hs,ir,dm,wa,he⟩:=w;dsimp only at *;subst hi;rw [vab rfl];cases q<;>simp -implicitDefEqProofs (disch:=try exact zd) only [go_sem,Aa,Ab,vdu,vjq,vaw key]
theorem vuk {d:Nat} {ts:List ByteArray} {w:Wd} (sv:Sv) (hi:w.inR=false):
  vag (T (d+1)) vad vdu [cWi false ts w sv]=some ([.sl false vai (w.ob.map eObj),.sl false vae (w.sl.map vak)],[.bx false [.sl true vam (ts.map eStr),.un,.sl false vb3 (w.du.map eBl),.sl false vae (w.hd.map vak),.un,.a (.bool false),.a (.bool w.dm),cSv false sv]]):=by
 obtain ⟨ob,du,sl,hs,ir,dm,wa,he⟩:=w;dsimp only at *;subst hi;cases sv<;>(rw [vab rfl];simp -implicitDefEqProofs (disch:=try exact zd) only [go_sem,Aa,Ab,vdu,vjq])
theorem qfi {d:Nat} {ts:List ByteArray} {w:Wd} (sv:Sv) (hi:w.inR=false):
  vag (T (d+2)) vad vee [cWi false ts w sv]=some ([],[cWi false ts {w with inR:=false,dm:=false} sv]):=by
 have h1:=vuk (d:=d) (ts:=ts) sv hi;obtain ⟨ob,du,sl,hs,ir,dm,wa,he⟩:=w;dsimp only at *;subst hi;cases sv<;>(simp only [cWi,vcd,vca,vb8] at h1;rw [vab rfl];simp -implicitDefEqProofs (disch:=try exact zd) only [go_sem,Aa,Ab,vee,vkq,h1]<;>rfl)
theorem vyi {d:Nat} {ts:List ByteArray} {w:Wd} (hb:w.ob.length<=1000) (hdu:w.du.length=w.ob.length) (hwal:w.wa.length<=w.ob.length) (hi:w.inR=true):∃X:List PV,
  vag (T (d+2)) vad vee [cWi false ts w (.b (w.wa.map eObj) w.he)]=some ([],[cWi false ts ⟨backO w,w.du,w.he,w.hd,false,false,[],[]⟩ (.a X)]):=by
 obtain ⟨X,h1⟩:=vu7 (d:=d) (ts:=ts) hb hdu hwal hi;refine ⟨X,?_⟩;unfold backO at *;generalize bkI w w.wa.length=O at *;obtain ⟨ob,du,sl,hs,ir,dm,wa,he⟩:=w;dsimp only at *;subst hi;simp only [cWi,vcd,vca,vb8] at h1;rw [vab rfl];simp -implicitDefEqProofs (disch:=try exact zd) only [go_sem,Aa,Ab,vee,vkq,h1]<;>rfl
def dRI (du:List Bool):Nat->List Int
 |0=> []
 |i+1=>if du[i]? =some true then dRI du i++ [(i:Int)+1] else dRI du i
theorem vsi (du:List Bool):∀i,(dRI du i).length<=i
 |0=>Al _
 |i+1=>by
  have:=vsi du i;unfold dRI;split
  ·rw [Ak];simp;omega
  ·omega
def sdI (du:List Bool) (F:List Nat):Nat->List Bool
 |0=>du
 |i+1=>match F[i]? with|some k=>(sdI du F i).set k true|none=>sdI du F i
theorem vkw (du:List Bool) (F:List Nat):∀i,(sdI du F i).length=du.length
 |0=>rfl
 |i+1=>by
  unfold sdI;split
  ·rw [Ai];exact vkw du F i
  ·exact vkw du F i
abbrev gCm (w:Wd):Gr:=⟨w.sl++dRI w.du w.du.length,w.ob⟩
abbrev nCm (ts:List ByteArray) (w:Wd) (L:List PV):vcb:= [(0,some (.bx false [.sz vam (Ae eStr ts),.rf 3,.rf 2,.rf 4,.rf 5,.a (.bool w.inR),.a (.bool w.dm),.rf 6])),(1,some (.bx false [.rf 7,.rf 3])),(2,some (.sl true 0 vb3 (Ae eBl w.du))),(3,some (.sl true 0 vai (Ae eObj w.ob))),(4,some (.sl true 0 vae (Ae vak w.hd))),(5,some (.sl true 0 vae (Ae vak w.sl))),(6,some (.bx false [.rf 8,.rf 9,.rf 10,.rf 11,.rf 12,.a (.bool false),.a (.bool false),.a (.pointer none)])),(7,some (.sl false 0 vae L)),(8,some (.sl true 0 vam [])),(9,some (.sl true 0 vai (w.wa.map eObj))),(10,some (.sl true 0 vb3 [])),(11,some (.sl true 0 vae [])),(12,some (.sl true 0 vae (Ae vak w.he)))]
abbrev sCm (ts:List ByteArray) (w:Wd) (i:Nat) (L:List PV):St:=⟨[(0,.rf 0),(2,.rf 1),(20,.rf 2),(21,.a (.int .i64 w.du.length)),(22,.a (.int .i64 (i:Nat))),(10000,.rf 0)],nCm ts w L,13⟩
theorem qiw {d:Nat} {ts:List ByteArray} {w:Wd} (hb:w.du.length<=1000) (hs:w.sl.length=8):
  vbt (T (d+2)) vad [0,2,20,21,22,10000] ve0 (sCm ts w 0 ((w.sl++dRI w.du 0).map vak))=some (.ext 0,⟨[(0,.rf 0),(2,.rf 1),(20,.rf 2),(21,.a (.int .i64 w.du.length)),(22,.a (.int .i64 w.du.length)),(23,.a (.bool false)),(10000,.rf 0)],nCm ts w ((w.sl++dRI w.du w.du.length).map vak),113⟩):=by
 refine vcj (m:=w.du.length) (λi=>sCm ts w i ((w.sl++dRI w.du i).map vak)) _ (vbc zo) (λi hi=> ?_) ?_
 ·have hw:=va0 i zo;have hlt:(i:Int)<w.du.length:=zo
  obtain ⟨u,hu⟩:∃b,w.du[i]? =some b:=⟨_,Ac zo⟩
  have hl:=vsi w.du i;have hstep:w.sl++dRI w.du (i+1)=if u=true then (w.sl++dRI w.du i)++ [((i+1:Nat):Int)] else w.sl++dRI w.du i:=by
   conv=>lhs;unfold dRI
   rw [hu];cases u<;>simp
  rw [hstep];have hR:(w.sl++dRI w.du i).length<=2000:=by rw [Ak];omega
  generalize w.sl++dRI w.du i=R at *;have hR2:(R.map vak).length<=2000:=by simpa using hR
  clear hstep;cases u with
  |false=>
   rw [if_neg (by simp)];obtain ⟨ob,du,sl,hd,ir,dm,wa,he⟩:=w;dsimp only at *;unfold round ve0;simp -implicitDefEqProofs (disch:=try exact zd) only [go_sem,Aa,Ab,hw,hlt,hu]
   (show some _=some _;kernel_rfl)
  |true=>
   rw [if_pos rfl,vb5];obtain ⟨ob,du,sl,hd,ir,dm,wa,he⟩:=w;dsimp only at *;unfold round ve0;simp -implicitDefEqProofs (disch:=try exact zd) only [go_sem,Aa,Ab,hw,hlt,hu]
   (show some _=some _;kernel_rfl)
 ·have hlt:¬(w.du.length:Int)<w.du.length:=zo
  generalize w.sl++dRI w.du w.du.length=R at *;obtain ⟨ob,du,sl,hd,ir,dm,wa,he⟩:=w;dsimp only at *;unfold round ve0;simp -implicitDefEqProofs (disch:=try exact zd) only [go_sem,Aa,Ab,hlt]
abbrev nC1 (ts:List ByteArray) (w:Wd) (F:List Nat) (L:List PV):vcb:= [(0,some (.bx false [.sz vam (Ae eStr ts),.rf 2,.rf 3,.rf 4,.rf 5,.a (.bool w.inR),.a (.bool w.dm),.rf 6])),(1,some (.sl false 0 vae (Ae eNat F))),(2,some (.sl true 0 vai (Ae eObj w.ob))),(3,some (.sl true 0 vb3 L)),(4,some (.sl true 0 vae (Ae vak w.hd))),(5,some (.sl true 0 vae (Ae vak w.sl))),(6,some (.bx false [.rf 7,.rf 8,.rf 9,.rf 10,.rf 11,.a (.bool false),.a (.bool false),.a (.pointer none)])),(7,some (.sl true 0 vam [])),(8,some (.sl true 0 vai (Ae eObj w.wa))),(9,some (.sl true 0 vb3 [])),(10,some (.sl true 0 vae [])),(11,some (.sl true 0 vae (Ae vak w.he)))]
abbrev sC1 (ts:List ByteArray) (w:Wd) (F:List Nat) (i:Nat) (L:List PV):St:=⟨[(0,.rf 0),(41,.rf 1),(42,.a (.int .i64 F.length)),(43,.a (.int .i64 (i:Nat))),(10000,.rf 0)],nC1 ts w F L,12⟩
theorem qsr (l:List Bool) (k:Nat):(l.set k true).map eBl=(l.map eBl).set k (.a (.bool true)):=Aj
theorem qii {d:Nat} {ts:List ByteArray} {w:Wd} {F:List Nat} (hF:F.length<=1000) (hn:∀k∈F,k<w.du.length):
  vbt (T (d+2)) vad [0,41,42,43,10000] vgj (sC1 ts w F 0 ((sdI w.du F 0).map eBl))=some (.ext 2,⟨[(0,.rf 0),(41,.rf 1),(42,.a (.int .i64 F.length)),(43,.a (.int .i64 F.length)),(44,.a (.bool false)),(10000,.rf 0)],nC1 ts w F ((sdI w.du F F.length).map eBl),112⟩):=by
 refine vcj (m:=F.length) (λi=>sC1 ts w F i ((sdI w.du F i).map eBl)) _ (vbc zo) (λi hi=> ?_) ?_
 ·have hw:=va0 i zo;have hlt:(i:Int)<F.length:=zo
  obtain ⟨k,hk⟩:∃b,F[i]? =some b:=⟨_,Ac zo⟩
  have hkl:=hn k (Ag hk);have hstep:sdI w.du F (i+1)=(sdI w.du F i).set k true:=by
   conv=>lhs;unfold sdI
   rw [hk]
  have hlen:=vkw w.du F i;rw [hstep,qsr];generalize sdI w.du F i=D at *;obtain ⟨y,hy⟩:∃b,D[k]? =some b:=⟨_,Ac zo⟩
  clear hstep;obtain ⟨ob,du,sl,hd,ir,dm,wa,he⟩:=w;dsimp only at *;unfold round vgj;simp -implicitDefEqProofs (disch:=try exact zd) only [go_sem,Aa,Ab,hw,hlt,hk,hy]
  (show some _=some _;kernel_rfl)
 ·have hlt:¬(F.length:Int)<F.length:=zo
  generalize sdI w.du F F.length=D at *;obtain ⟨ob,du,sl,hd,ir,dm,wa,he⟩:=w;dsimp only at *;unfold round vgj;simp -implicitDefEqProofs (disch:=try exact zd) only [go_sem,Aa,Ab,hlt]
abbrev comD (ts:List ByteArray) (w:Wd):List Bool:=sdI w.du (found ts (gCm w)) (found ts (gCm w)).length
theorem qe2 {d:Nat} {ts:List ByteArray} {w:Wd} (hb:w.du.length<=1000) (hdu:w.du.length=w.ob.length) (hs:w.sl.length=8) (R:Right ts (gCm w)):vag (T (d+2)) vad vf7 [cWi false ts w (.b (w.wa.map eObj) w.he)]=some ([],[cWi false ts {w with du:=comD ts w,inR:=false} (.b (w.wa.map eObj) w.he)]):=by
 have key:=qiw (d:=d) (ts:=ts) hb hs;have h1:=vr0 (d:=d) R;have hI:=vcw ts (gCm w) (gCm w).nodes.length;have hFn:∀k∈found ts (gCm w),k<w.du.length:=λk hk=>by have:=hI.low k hk;rw [hdu];exact this
 have hFl:(found ts (gCm w)).length<=1000:=by have:=hI.le;have:=R.n;unfold found;exact Nat.le_trans (by assumption) (by dsimp only at *;omega)
 have key2:=qii (d:=d) (ts:=ts) hFl hFn;unfold comD;unfold gCm at h1;have hs2:(w.sl.map vak).length<=1000:=by simp;omega
 have e0:dRI w.du 0= []:=rfl;have e1:∀F,sdI w.du F 0=w.du:=λ_=>rfl;rw [e0,List.append_nil] at key;rw [e1] at key2;clear hI hFn;generalize hD:sdI w.du _ _=D at *;generalize hF:found ts _=F at *;generalize hRR:w.sl++dRI w.du w.du.length=RR at *;clear hD hF hRR R;obtain ⟨ob,du,sl,hd,ir,dm,wa,he⟩:=w;dsimp only at *;have hF2:(F.map eNat).length<=1000:=by simpa using hFl
 rw [vab rfl];simp -implicitDefEqProofs (disch:=try exact zd) only [go_sem,Aa,Ab,vf7,vmn,vaw key,h1,vaw key2];rfl
