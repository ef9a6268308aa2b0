/- Worlds: what an act does, in plain words. Worlds: what stays right. Worlds of the program: an act whose code is 0. Worlds of the program: an act. Worlds of the program: how one begins. Worlds of the program: a play. -/
import Derived.Test.YtlhpnpknjggcpaaGreatDoorLawWe
import Derived.Test.YtlhpnpknjggcpaaGreatDoorLawWc
open List renaming replicate->Aa,getElem?_eq_getElem->Ac,mem_of_getElem?->Ad,length_set->Ae,map->Af,length_append->Aj,length_replicate->Ak,mem_replicate->Al,mem_or_eq_of_mem_set->Am,mem_append->An,nil_append->Ao,mem_singleton->Ar
open Int renaming toNat_natCast->Ab
open Nat renaming reduceAdd->Ag,reduceBEq->Ah,zero_le->Ap,lt_irrefl->Aq,le_refl->At
open Option renaming getD_some->Ai
namespace Go.Proofs.YtlhpnpknjggcpaaGreatDoor.VM
open Go Sy
variable {Φ:Nat→Option Callee} {N:Nat}
set_option maxRecDepth 100000
set_option maxHeartbeats 8000000
def mAt (w:Wd) (h:Int):Nat:=(hAt w h).toNat-1
def refW (w:Wd) (h:Int):Int:=if h<0 then 0 else hAt w h
def handW (w:Wd) (r:Int):Int×Wd:=if r=0 then (-1,w) else (plc0 w.hd,{w with hd:=w.hd.set (plc0 w.hd).toNat r})
def szW (ts:List ByteArray) (t:Int):Nat:=(ts[t.toNat]?.getD ⟨#[]⟩).size
def effW (ts:List ByteArray) (w:Wd) (x:Act'):Int×Wd:=
 if x.kind=1 then (plc0 w.hd,{w with ob:=w.ob++ [⟨x.a,Aa (szW ts x.a) 0⟩],du:=w.du++ [false],hd:=w.hd.set (plc0 w.hd).toNat ((w.ob.length+1:Nat):Int)})
 else if x.kind=2 then (valW w x,w)
 else if x.kind=3 then (0,setV w (mAt w x.a) x.b.toNat x.c)
 else if x.kind=4 then handW w (valW w x)
 else if x.kind=5 then (0,setV w (mAt w x.a) x.b.toNat (refW w x.c))
 else if x.kind=6 then (0,{w with hd:=w.hd.set x.a.toNat 0})
 else if x.kind=7 then (if hAt w x.a=hAt w x.b then 1 else 0,w)
 else if x.kind=8 then ((objW w x.a).ty,w)
 else if x.kind=9 then (if durW w x.a then 1 else 0,w)
 else if x.kind=10 then (0,{w with inR:=true,wa:=w.ob,he:=w.sl})
 else if x.kind=11 then (0,{w with sl:=w.sl.set x.a.toNat (refW w x.b)})
 else if x.kind=12 then handW w (w.sl[x.a.toNat]?.getD 0)
 else if x.kind=13 then (0,⟨w.ob,comD ts w,w.sl,w.hd,false,false,[],[]⟩)
 else if x.kind=14 then (0,⟨backO w,w.du,w.he,w.hd,false,false,[],[]⟩)
 else if x.kind=18 then (0,if w.inR then ⟨backO w,w.du,w.he,Aa 12 0,false,false,[],[]⟩ else {w with hd:=Aa 12 0})
 else (0,w)
structure Fld (ts:List ByteArray) (w:Wd) (x:Act') (n m j:Nat) (t:Nat) (vs:List Int) (s:ByteArray) (v:Int):Prop where
 fa:x.a=(n:Nat)
 fn12:n<12
 fh:w.hd[n]? =some ((m:Int)+1)
 fm:m<w.ob.length
 fm1:m<1000
 fho:hAt w x.a=(m:Int)+1
 fo:w.ob[m]? =some ⟨t,vs⟩
 fs:ts[t]? =some s
 fz:vs.length=s.size
 fb:x.b=(j:Nat)
 fjs:j<s.size
 fv:vs[j]? =some v
 fr:(x.kind=4∨x.kind=5)↔kAt s j=114
 fc:x.kind=5→x.c= -1∨usedW w x.c=true
 ff:x.kind=4→v≠0→¬plc0 w.hd<0
 fd:(x.kind=3∨x.kind=5)→w.inR=true∨w.du[m]? =some false
theorem vo2 {ts:List ByteArray} {B:Nat} {w:Wd} (I:Wok ts B w) {x:Act'} (h:fldW ts w x=0):∃(n m j t:Nat) (vs:List Int) (s:ByteArray) (v:Int),Fld ts w x n m j t vs s v:=by
 unfold fldW at h;by_cases c0:usedW w x.a=false∨x.kind=5∧x.c≠-1∧usedW w x.c=false
 ·rw [if_pos c0] at h;exact absurd h (by decide)
 rw [if_neg c0] at h;by_cases c1:0≤x.b∧x.b≤((objW w x.a).vals.length:Int)-1
 case neg=>rw [if_pos c1] at h;exact absurd h (by decide)
 rw [if_neg (fun hh=>hh c1)] at h;have u1:usedW w x.a=true:=by
  cases hu:usedW w x.a with
  |true=>rfl
  |false=>exact absurd (.inl hu) c0
 obtain ⟨n,m,hn,hn12,hnm,hm,hm1,hh⟩:=vjd I u1;obtain ⟨⟨ot,vs⟩,ho⟩:∃o,w.ob[m]? =some o:=⟨_,Ac hm⟩
 obtain ⟨s,g1,g2,g3,g4⟩:=I.ob _ (Ad ho);dsimp only at g1 g2 g3;obtain ⟨t,rfl⟩:∃t:Nat,ot=t:=⟨ot.toNat,by omega⟩
 rw [Ab] at g1;have hdul:=I.du;obtain ⟨u,hdu⟩:∃u,w.du[m]? =some u:=⟨_,Ac zo⟩
 have eo:objW w x.a=⟨t,vs⟩:=by unfold objW;rw [hh,show ((m:Int)+1).toNat-1=m by omega,ho];rfl
 have ed:durW w x.a=u:=by unfold durW;rw [hh,show ((m:Int)+1).toNat-1=m by omega,hdu];rfl
 have ek:kindW ts ⟨t,vs⟩ x.b=kAt s x.b.toNat:=by unfold kindW;rw [Ab,g1];rfl
 rw [eo] at c1;unfold valW at h;rw [eo,ed,ek] at h;dsimp only at c1 h;obtain ⟨j,hj⟩:∃j:Nat,x.b=j:=⟨x.b.toNat,by omega⟩
 have hjs:j<s.size:=by omega
 obtain ⟨v,hv⟩:∃v,vs[j]? =some v:=⟨_,Ac zo⟩
 rw [hj,Ab,hv,Ai] at h;by_cases c2:¬(x.kind=4∨x.kind=5)↔kAt s j=114
 ·rw [if_pos c2] at h;exact absurd h (by decide)
 rw [if_neg c2] at h;by_cases c3:(x.kind=3∨x.kind=5)∧w.inR=false∧u=true
 ·rw [if_pos c3] at h;exact absurd h (by decide)
 rw [if_neg c3] at h;by_cases c4:x.kind=4∧v≠0∧plc0 w.hd<0
 ·rw [if_pos c4] at h;exact absurd h (by decide)
 refine ⟨n,m,j,t,vs,s,v,hn,hn12,hnm,hm,hm1,hh,ho,g1,g3,hj,hjs,hv,?_,?_,fun k hz hf=>c4 ⟨k,hz,hf⟩,fun hk=> ?_⟩
 ·by_cases p:x.kind=4∨x.kind=5<;>by_cases q:kAt s j=114<;>simp [p,q] at c2⊢
 ·intro k5;by_cases hc:x.c= -1
  ·exact .inl hc
  ·cases hu:usedW w x.c with
   |true=>exact .inr rfl
   |false=>exact absurd (.inr ⟨k5,hc,hu⟩) c0
 ·cases hi:w.inR with
  |true=>exact .inl rfl
  |false=>
   cases u with
   |false=>exact .inr hdu
   |true=>exact absurd ⟨hk,hi,rfl⟩ c3
theorem vt3 {s:ByteArray} {j:Nat} (h:refAt s j=true):kAt s j=114:=by
 unfold refAt at h;unfold kAt;cases hb:(ch s)[j]? with
 |none=>rw [hb] at h;cases h
 |some b=>
  rw [hb] at h;have:=of_decide_eq_true h;rw [Ai];omega
theorem qg5 (du:List Bool):∀(i:Nat),i≤du.length→∀v∈dRI du i,1≤v∧v≤(du.length:Int)
 |0,_,v,hv=>by cases hv
 |i+1,hi,v,hv=>by
  unfold dRI at hv;split at hv
  ·rcases An.1 hv with h|h
   ·exact qg5 du i zo v h
   ·rw [Ar.1 h];omega
  ·exact qg5 du i zo v hv
theorem vp6 {ts:List ByteArray} {B:Nat} {w:Wd} (I:Wok ts B w) (hT:Ty23 ts):Right ts (gCm w):=by
 have hb:=I.b;have hbb:=I.bb;have hl:=vum w.du w.du.length;have hdu:=I.du;have hsl:=I.sl;refine ⟨⟨by have:=hT.n1;omega,fun s hs=>by have:=hT.z s hs;omega,?_,?_,fun o ho=> ?_⟩,by show w.ob.length≤400;omega,?_,fun v hv=> ?_,fun o ho=> ?_,hT.n1⟩
 ·show (w.sl++dRI w.du w.du.length).length≤1048576;rw [Aj];omega
 ·show w.ob.length≤1048576;omega
 ·obtain ⟨s,g1,_,g3,_⟩:=I.ob o ho;have:=hT.z s (Ad g1);omega
 ·show (w.sl++dRI w.du w.du.length).length≤1000;rw [Aj];omega
 ·show 0≤v∧v≤(w.ob.length:Int);rcases An.1 hv with h|h
  ·exact I.slr v h
  ·have:=qg5 w.du _ (At _) v h;omega
 ·obtain ⟨s,g1,g2,g3,g4⟩:=I.ob o ho;refine ⟨o.ty.toNat,s,by omega,g1,g3,hT.z0 s (Ad g1),hT.z s (Ad g1),fun j v hv hr=>g4 j v hv (vt3 hr)⟩
theorem Wok.up {ts:List ByteArray} {B:Nat} {w:Wd} (I:Wok ts B w) (hB:B+1≤400):Wok ts (B+1) w:=
 ⟨by have:=I.b;omega,hB,I.ob,I.du,I.sl,I.slr,I.hd,I.hdr,I.wa,I.wal,I.he,I.her,I.hel,I.dm⟩
theorem Wok.setO {ts:List ByteArray} {B:Nat} {w:Wd} (I:Wok ts B w) {m j t:Nat} {vs:List Int} {s:ByteArray} {v:Int} (ho:w.ob[m]? =some ⟨t,vs⟩) (hs:ts[t]? =some s) (hz:vs.length=s.size) (hv:kAt s j=114→0≤v∧v≤(w.ob.length:Int)):Wok ts B {w with ob:=w.ob.set m ⟨t,vs.set j v⟩}:=by
 refine ⟨by rw [Ae];exact I.b,I.bb,?_,by rw [Ae];exact I.du,I.sl,by rw [Ae];exact I.slr,I.hd,by rw [Ae];exact I.hdr,by rw [Ae];exact I.wa,by rw [Ae];exact I.wal,I.he,by rw [Ae];exact I.her,I.hel,I.dm⟩;intro o hm;rw [Ae];rcases Am hm with h|rfl
 ·exact I.ob o h
 ·obtain ⟨s',g1,g2,g3,g4⟩:=I.ob _ (Ad ho);dsimp only at g1;rw [Ab,hs] at g1;cases g1;refine ⟨s,by dsimp only;rw [Ab];exact hs,by dsimp only;omega,by dsimp only;rw [Ae];exact hz,fun k y hy hk=> ?_⟩;dsimp only at hy;rw [List.getElem?_set] at hy;split at hy
  ·rename_i e;subst e;split at hy
   ·cases hy;exact hv hk
   ·cases hy
  ·exact g4 k y hy hk
theorem Wok.setH {ts:List ByteArray} {B:Nat} {w:Wd} (I:Wok ts B w) (k:Nat) {r:Int} (hr:0≤r∧r≤(w.ob.length:Int)):Wok ts B {w with hd:=w.hd.set k r}:=
 ⟨I.b,I.bb,I.ob,I.du,I.sl,I.slr,by rw [Ae];exact I.hd,I.hdr.set k hr,I.wa,I.wal,I.he,I.her,I.hel,I.dm⟩
theorem Wok.refW {ts:List ByteArray} {B:Nat} {w:Wd} (I:Wok ts B w) (h:Int):0≤VM.refW w h∧VM.refW w h≤(w.ob.length:Int):=by
 unfold VM.refW hAt;split
 ·omega
 ·cases hx:w.hd[h.toNat]? with
  |none=>rw [Option.getD_none];omega
  |some x=>exact I.hdr.get hx
theorem vts {w:Wd} {o:Obj'}:∀{i:Nat},o∈bkI w i→o∈w.ob∨o∈w.wa
 |0,h=> .inl h
 |i+1,h=>by
  unfold bkI at h;split at h
  ·split at h
   ·rename_i o' ho';rcases Am h with h|rfl
    ·exact vts h
    ·exact .inr (Ad ho')
   ·exact vts h
  ·exact vts h
theorem Wok.back {ts:List ByteArray} {B:Nat} {w:Wd} (I:Wok ts B w) (hi:w.inR=true) {hd:List Int} (hl:hd.length=12) (hr:Rin w.ob.length hd):Wok ts B ⟨backO w,w.du,w.he,hd,false,false,[],[]⟩:=by
 have e:=vhw w w.wa.length;refine ⟨by rw [e];exact I.b,I.bb,fun o ho=> ?_,by rw [e];exact I.du,I.he hi,by rw [e];exact I.her,hl,by rw [e];exact hr,fun _ h=>(by cases h),Ap _,fun h=>(by cases h),fun _ h=>(by cases h),Ap _,fun h=>(by cases h)⟩;rw [e];rcases vts ho with h|h
 ·exact I.ob o h
 ·exact I.wa o h
theorem Wok.com {ts:List ByteArray} {B:Nat} {w:Wd} (I:Wok ts B w):Wok ts B ⟨w.ob,comD ts w,w.sl,w.hd,false,false,[],[]⟩:=
 ⟨I.b,I.bb,I.ob,(vlv _ _ _).trans I.du,I.sl,I.slr,I.hd,I.hdr,fun _ h=>(by cases h),Ap _,fun h=>(by cases h),fun _ h=>(by cases h),Ap _,fun h=>(by cases h)⟩
theorem Wok.new {ts:List ByteArray} {B:Nat} {w:Wd} (I:Wok ts B w) (hB:B+1≤400) {n k:Nat} {s:ByteArray} (hs:ts[n]? =some s):Wok ts (B+1) {w with ob:=w.ob++ [⟨n,Aa s.size 0⟩],du:=w.du++ [false],hd:=w.hd.set k ((w.ob.length+1:Nat):Int)}:=by
 have e:(w.ob++ [(⟨n,Aa s.size 0⟩:Obj')]).length=w.ob.length+1:=by rw [Aj];rfl
 have hb:=I.b;refine ⟨by rw [e];omega,hB,fun o ho=> ?_,by rw [e,Aj,I.du];rfl,I.sl,by rw [e];exact I.slr.mono zo,by rw [Ae];exact I.hd,by rw [e];exact (I.hdr.mono zo).set k zo,fun o ho=>by rw [e];exact (I.wa o ho).mono zo,by rw [e];exact Nat.le_trans I.wal (Nat.le_succ _),I.he,by rw [e];exact I.her.mono zo,I.hel,I.dm⟩;rw [e];rcases An.1 ho with h|h
 ·exact (I.ob o h).mono zo
 ·rw [Ar.1 h];refine ⟨s,by dsimp only;rw [Ab];exact hs,by dsimp only;omega,by dsimp only;rw [Ak],fun j v hv _=> ?_⟩;dsimp only at hv;have:=Ad hv;rw [(Al.1 this).2];omega
theorem Wok.val {ts:List ByteArray} {B:Nat} {w:Wd} (I:Wok ts B w) {x:Act'} {n m j t:Nat} {vs:List Int} {s:ByteArray} {v:Int} (F:Fld ts w x n m j t vs s v):kAt s j=114→0≤v∧v≤(w.ob.length:Int):=fun hk=>by
 obtain ⟨s',g1,g2,g3,g4⟩:=I.ob _ (Ad F.fo);dsimp only at g1;rw [Ab,F.fs] at g1;cases g1;exact g4 j v F.fv hk
abbrev SvR (w:Wd) (sv:Sv):Prop:=w.inR=true→sv= .b (w.wa.map eObj) w.he
abbrev Done (d:Nat) (ts:List ByteArray) (B:Nat) (w:Wd) (x:Act') (sv:Sv):Prop:=Wok ts (B+1) (effW ts w x).2∧∃sv',SvR (effW ts w x).2 sv'∧dOf d ts w x sv (effW ts w x).1 (effW ts w x).2 sv'
theorem vq8 {w:Wd} {m j t:Nat} {vs:List Int} {v:Int} (ho:w.ob[m]? =some ⟨t,vs⟩):setV w m j v={w with ob:=w.ob.set m ⟨t,vs.set j v⟩}:=by
 unfold setV;rw [ho]
theorem Fld.mAt {ts:List ByteArray} {w:Wd} {x:Act'} {n m j t:Nat} {vs:List Int} {s:ByteArray} {v:Int} (F:Fld ts w x n m j t vs s v):VM.mAt w x.a=m:=by
 unfold VM.mAt;rw [F.fho];omega
theorem Fld.valW {ts:List ByteArray} {w:Wd} {x:Act'} {n m j t:Nat} {vs:List Int} {s:ByteArray} {v:Int} (F:Fld ts w x n m j t vs s v):VM.valW w x=v:=by
 unfold VM.valW objW;rw [F.fho,show ((m:Int)+1).toNat-1=m by omega,F.fo,F.fb,Ab];dsimp only [Ai];rw [F.fv];rfl
theorem vou {ts:List ByteArray} {w:Wd} {x:Act'} (hc:codeW ts w x=0) (hk:2≤x.kind∧x.kind≤5):fldW ts w x=0:=by
 unfold codeW at hc;by_cases cd:w.dm=true∧¬(14≤x.kind∧x.kind≤18)
 ·rw [if_pos cd] at hc;exact absurd hc (by decide)
 ·rw [if_neg cd,if_neg zo,if_pos hk] at hc;exact hc
theorem qxe {ts:List ByteArray} {w:Wd} {x:Act'} (hc:codeW ts w x=0) (hk:x.kind≤13):w.dm=false:=by
 unfold codeW at hc;cases hd:w.dm with
 |false=>rfl
 |true=>rw [if_pos ⟨hd,by omega⟩] at hc;exact absurd hc (by decide)
theorem qao {ts:List ByteArray} {B:Nat} {w:Wd} (I:Wok ts B w) {c:Int} (h:c= -1∨usedW w c=true):c≤11:=by
 rcases h with h|h
 ·omega
 ·obtain ⟨n,_,h1,h2,_⟩:=vjd I h;omega
theorem Done.of {d:Nat} {ts:List ByteArray} {B:Nat} {w:Wd} {x:Act'} {sv sv':Sv} {n:Int} {w':Wd} (e:effW ts w x=(n,w')) (hW:Wok ts (B+1) w') (hs:SvR w' sv') (hd:dOf d ts w x sv n w' sv'):Done d ts B w x sv:=by
 unfold Done;rw [e];exact ⟨hW,sv',hs,hd⟩
theorem qxb {d:Nat} {ts:List ByteArray} {B:Nat} {w:Wd} (I:Wok ts B w) (hT:Ty23 ts) (hB:B+1≤400) (x:Act') (sv:Sv) (hsv:SvR w sv) (hc:codeW ts w x=0):Done d ts B w x sv:=by
 have hb:=I.b;have hbb:=I.bb;have hdu:=I.du;have hv23:∀o∈w.ob,o.vals.length≤23:=fun o ho=>by
  obtain ⟨s,g1,_,g3,_⟩:=I.ob o ho;have:=hT.z s (Ad g1);omega
 by_cases k1:x.kind=1
 ·have hdm:=qxe hc zo;unfold codeW at hc;rw [if_neg (by rw [hdm];simp),if_pos k1] at hc;by_cases c1:0≤x.a∧x.a≤(ts.length:Int)-1
  case neg=>rw [if_pos c1] at hc;exact absurd hc (by decide)
  rw [if_neg (fun h=>h c1)] at hc;by_cases c2:plc0 w.hd<0
  ·rw [if_pos c2] at hc;exact absurd hc (by decide)
  obtain ⟨n,hn⟩:∃n:Nat,x.a=n:=⟨x.a.toNat,by omega⟩
  obtain ⟨s,hs⟩:∃s,ts[n]? =some s:=⟨_,Ac zo⟩
  have hz:=hT.z s (Ad hs);have e:effW ts w x=(plc0 w.hd,{w with ob:=w.ob++ [⟨n,Aa s.size 0⟩],du:=w.du++ [false],hd:=w.hd.set (plc0 w.hd).toNat ((w.ob.length+1:Nat):Int)}):=by
   unfold effW szW;rw [if_pos k1,hn,Ab,hs];rfl
  exact .of e (I.new hB hs) hsv (qr5 x sv k1 hn hs hz I.hd c2 zo hdu)
 by_cases k2:x.kind=2
 ·obtain ⟨n,m,j,t,vs,s,v,F⟩:=vo2 I (vou hc zo);exact .of (by unfold effW;rw [if_neg k1,if_pos k2,F.valW]) (I.up hB) hsv (qsg x sv k2 F.fa F.fh F.fm1 F.fo F.fb F.fv)
 by_cases k3:x.kind=3
 ·obtain ⟨n,m,j,t,vs,s,v,F⟩:=vo2 I (vou hc zo);have hk:¬kAt s j=114:=fun h=>by have:=F.fr.2 h;omega
  exact .of (by unfold effW;rw [if_neg k1,if_neg k2,if_pos k3,F.mAt,F.fb,Ab,vq8 F.fo]) ((I.setO F.fo F.fs F.fz (fun h=>absurd h hk)).up hB) hsv (qtr x sv k3 F.fa F.fh F.fm1 F.fo F.fb F.fv)
 by_cases k4:x.kind=4
 ·obtain ⟨n,m,j,t,vs,s,v,F⟩:=vo2 I (vou hc zo);have hv:=I.val F (F.fr.1 (.inl k4));by_cases hz:v=0
  ·exact .of (by unfold effW handW;rw [if_neg k1,if_neg k2,if_neg k3,if_pos k4,F.valW,if_pos hz]) (I.up hB) hsv (qp9 x sv k4 F.fa F.fh F.fm1 F.fo F.fb F.fv hz)
  ·exact .of (by unfold effW handW;rw [if_neg k1,if_neg k2,if_neg k3,if_pos k4,F.valW,if_neg hz]) ((I.setH _ hv).up hB) hsv (qs8 x sv k4 F.fa F.fh F.fm1 F.fo F.fb F.fv I.hd hz (F.ff k4 hz))
 by_cases k5:x.kind=5
 ·obtain ⟨n,m,j,t,vs,s,v,F⟩:=vo2 I (vou hc zo);exact .of (by unfold effW;rw [if_neg k1,if_neg k2,if_neg k3,if_neg k4,if_pos k5,F.mAt,F.fb,Ab,vq8 F.fo]) ((I.setO F.fo F.fs F.fz (fun _=>I.refW _)).up hB) hsv (qun x sv k5 F.fa F.fh F.fm1 F.fo F.fb F.fv I.hd (qao I (F.fc k5)))
 have cd:¬(w.dm=true∧¬(14≤x.kind∧x.kind≤18)):=fun h=>by
  unfold codeW at hc;rw [if_pos h] at hc;exact absurd hc (by decide)
 unfold codeW at hc;rw [if_neg cd,if_neg k1,if_neg zo] at hc;by_cases k689:x.kind=6∨x.kind=8∨x.kind=9
 ·rw [if_pos k689] at hc;cases hu:usedW w x.a with
  |false=>rw [hu] at hc;exact absurd hc (by decide)
  |true=>
   obtain ⟨n,m,hn,hn12,hnm,hm,hm1,hh⟩:=vjd I hu;obtain ⟨⟨ot,vs⟩,ho⟩:∃o,w.ob[m]? =some o:=⟨_,Ac hm⟩
   obtain ⟨u,hdu2⟩:∃u,w.du[m]? =some u:=⟨_,Ac zo⟩
   have eo:objW w x.a=⟨ot,vs⟩:=by unfold objW;rw [hh,show ((m:Int)+1).toNat-1=m by omega,ho];rfl
   have ed:durW w x.a=u:=by unfold durW;rw [hh,show ((m:Int)+1).toNat-1=m by omega,hdu2];rfl
   rcases k689 with k|k|k
   ·exact .of (by unfold effW;rw [if_neg k1,if_neg k2,if_neg k3,if_neg k4,if_neg k5,if_pos k,hn,Ab]) ((I.setH n zo).up hB) hsv (qtm x sv k hn hnm)
   ·exact .of (by unfold effW;rw [if_neg k1,if_neg k2,if_neg k3,if_neg k4,if_neg k5,if_neg zo,if_neg zo,if_pos k,eo]) (I.up hB) hsv (qtl x sv k hn hnm hm1 ho)
   ·exact .of (by unfold effW;rw [if_neg k1,if_neg k2,if_neg k3,if_neg k4,if_neg k5,if_neg zo,if_neg zo,if_neg zo,if_pos k,ed]) (I.up hB) hsv (qs9 x sv k hn hnm hm1 hdu2)
 rw [if_neg k689] at hc;have k6:¬x.kind=6:=fun h=>k689 (.inl h);have k8:¬x.kind=8:=fun h=>k689 (.inr (.inl h));have k9:¬x.kind=9:=fun h=>k689 (.inr (.inr h));by_cases k7:x.kind=7
 ·rw [if_pos k7] at hc;cases hu:usedW w x.a with
  |false=>rw [hu] at hc;exact absurd hc (by simp)
  |true=>
   cases hu2:usedW w x.b with
   |false=>rw [hu,hu2] at hc;exact absurd hc (by simp)
   |true=>
    obtain ⟨n,m,hn,hn12,hnm,hm,hm1,hh⟩:=vjd I hu;obtain ⟨n2,m2,hn2,hn122,hnm2,hm2,hm12,hh2⟩:=vjd I hu2;exact .of (by unfold effW;rw [if_neg k1,if_neg k2,if_neg k3,if_neg k4,if_neg k5,if_neg k6,if_pos k7,hh,hh2]) (I.up hB) hsv (qu4 x sv k7 hn hn2 hnm hnm2)
 rw [if_neg k7] at hc;have pre:∀{α:Type} {a1 a2 a3 a4 a5 a6 a7 a8 a9 y:α},(if x.kind=1 then a1 else if x.kind=2 then a2 else if x.kind=3 then a3 else if x.kind=4 then a4 else if x.kind=5 then a5 else if x.kind=6 then a6 else if x.kind=7 then a7 else if x.kind=8 then a8 else if x.kind=9 then a9 else y)=y:=by
  intros;rw [if_neg k1,if_neg k2,if_neg k3,if_neg k4,if_neg k5,if_neg k6,if_neg k7,if_neg k8,if_neg k9]
 by_cases k10:x.kind=10
 ·rw [if_pos k10] at hc;cases hi:w.inR with
  |true=>rw [hi] at hc;exact absurd hc (by simp)
  |false=>
   refine .of (by unfold effW;rw [pre,if_pos k10]) ?_ (fun _=>rfl) (qoi x sv k10 zo hv23 I.sl);exact ⟨by show w.ob.length≤B+1;omega,hB,I.ob,I.du,I.sl,I.slr,I.hd,I.hdr,I.ob,At _,fun _=>I.sl,I.slr,by show w.sl.length≤8;rw [I.sl];exact At _,fun _=>rfl⟩
 rw [if_neg k10] at hc;by_cases k11:x.kind=11
 ·rw [if_pos k11] at hc;by_cases c1:0≤x.a∧x.a≤7
  case neg=>rw [if_pos c1] at hc;exact absurd hc (by decide)
  rw [if_neg (fun h=>h c1)] at hc;by_cases c2:x.b≠-1∧usedW w x.b=false
  ·rw [if_pos c2] at hc;exact absurd hc (by decide)
  have hb11:x.b≤11:=qao I (by
   by_cases e:x.b= -1
   ·exact .inl e
   ·cases hu:usedW w x.b with
    |true=>exact .inr rfl
    |false=>exact absurd ⟨e,hu⟩ c2)
  obtain ⟨n,hn⟩:∃n:Nat,x.a=n:=⟨x.a.toNat,by omega⟩
  have hs:=I.sl;obtain ⟨v,hv⟩:∃v,w.sl[n]? =some v:=⟨_,Ac zo⟩
  refine .of (n:=0) (w':={w with sl:=w.sl.set n (refW w x.b)}) (by unfold effW;rw [pre,if_neg k10,if_pos k11,hn,Ab]) ?_ hsv (qpt x sv k11 hn hv I.hd hb11);exact ⟨by show w.ob.length≤B+1;omega,hB,I.ob,I.du,by rw [Ae];exact I.sl,I.slr.set n (I.refW _),I.hd,I.hdr,I.wa,I.wal,I.he,I.her,I.hel,I.dm⟩
 rw [if_neg k11] at hc;by_cases k12:x.kind=12
 ·rw [if_pos k12] at hc;by_cases c1:0≤x.a∧x.a≤7
  case neg=>rw [if_pos c1] at hc;exact absurd hc (by decide)
  rw [if_neg (fun h=>h c1)] at hc;obtain ⟨n,hn⟩:∃n:Nat,x.a=n:=⟨x.a.toNat,by omega⟩
  have hs:=I.sl;obtain ⟨v,hv⟩:∃v,w.sl[n]? =some v:=⟨_,Ac zo⟩
  rw [hn,Ab,hv,Ai] at hc;by_cases hz:v=0
  ·subst hz;exact .of (by unfold effW handW;rw [pre,if_neg k10,if_neg k11,if_pos k12,hn,Ab,hv,Ai,if_pos rfl]) (I.up hB) hsv (qm1 x sv k12 hn hv)
  ·by_cases c2:plc0 w.hd<0
   ·rw [if_pos ⟨hz,c2⟩] at hc;exact absurd hc (by decide)
   exact .of (by unfold effW handW;rw [pre,if_neg k10,if_neg k11,if_pos k12,hn,Ab,hv,Ai,if_neg hz]) ((I.setH _ (I.slr.get hv)).up hB) hsv (qqz x sv k12 hn hv I.hd hz c2)
 rw [if_neg k12] at hc;by_cases k1314:x.kind=13∨x.kind=14
 ·rw [if_pos k1314] at hc;cases hi:w.inR with
  |false=>rw [hi] at hc;exact absurd hc (by simp)
  |true=>
   obtain rfl:=hsv hi;rcases k1314 with k|k
   ·have hdm:w.dm=false:=by
     cases hd:w.dm with
     |false=>rfl
     |true=>exact absurd ⟨hd,by omega⟩ cd
    have t:=qq0 (d:=d) x k zo hdu I.sl (vp6 I hT);unfold dOf at t;rw [show cWi false ts {w with du:=comD ts w,inR:=false} (.b (w.wa.map eObj) w.he)=cWi false ts ⟨w.ob,comD ts w,w.sl,w.hd,false,false,[],[]⟩ (.b (w.wa.map eObj) w.he) by unfold cWi;rw [hdm]] at t;exact .of (by unfold effW;rw [pre,if_neg k10,if_neg k11,if_neg k12,if_pos k]) (I.com.up hB) (fun h=>by cases h) t
   ·obtain ⟨X,t⟩:=qou (d:=d) (ts:=ts) x k zo hdu I.wal hi;exact .of (by unfold effW;rw [pre,if_neg k10,if_neg k11,if_neg k12,if_neg zo,if_pos k]) ((I.back hi I.hd I.hdr).up hB) (fun h=>by cases h) t
 rw [if_neg k1314] at hc;have pre2:∀{α:Type} {a1 a2 a3 a4 a5 y:α},(if x.kind=10 then a1 else if x.kind=11 then a2 else if x.kind=12 then a3 else if x.kind=13 then a4 else if x.kind=14 then a5 else y)=y:=by
  intros;rw [if_neg k10,if_neg k11,if_neg k12,if_neg zo,if_neg zo]
 by_cases k18:x.kind=18
 ·cases hi:w.inR with
  |false=>
   have hdm:w.dm=false:=by
    cases hd:w.dm with
    |false=>rfl
    |true=>have:=I.dm hd;rw [hi] at this;cases this
   have t:=qlt (d:=d) (ts:=ts) x sv k18 I.hd hi;unfold dOf at t;rw [show cWi false ts {w with hd:=Aa 12 0,inR:=false,dm:=false} sv=cWi false ts {w with hd:=Aa 12 0} sv by unfold cWi;rw [hdm,hi]] at t;refine .of (n:=0) (w':={w with hd:=Aa 12 0}) (by unfold effW;rw [pre,pre2,if_pos k18,hi,if_neg (by simp)]) ?_ hsv t;refine Wok.up ⟨I.b,I.bb,I.ob,I.du,I.sl,I.slr,Ak,fun v hv=>by rw [(Al.1 hv).2];omega,I.wa,I.wal,I.he,I.her,I.hel,I.dm⟩ hB
  |true=>
   obtain rfl:=hsv hi;obtain ⟨X,t⟩:=qn5 (d:=d) (ts:=ts) x k18 I.hd zo hdu I.wal hi;refine .of (by unfold effW;rw [pre,pre2,if_pos k18,hi,if_pos rfl]) ((I.back hi Ak fun v hv=>by rw [(Al.1 hv).2];omega).up hB) (fun h=>by cases h) t
 ·by_cases k1517:15≤x.kind∧x.kind≤18
  case neg=>rw [if_neg k1517] at hc;exact absurd hc (by decide)
  refine .of (by unfold effW;rw [pre,pre2,if_neg k18]) (I.up hB) hsv ?_;by_cases k15:x.kind=15
  ·exact qo8 x sv k15
  by_cases k16:x.kind=16
  ·exact qpu x sv k16
  ·exact qpp x sv zo
def actC (ts:List ByteArray) (w:Wd) (x:Act') (deny:Int):Int:=if deny=0 then codeW ts w x else deny
def actW (ts:List ByteArray) (w:Wd) (x:Act') (deny:Int):Ans×Wd:=if actC ts w x deny=0 then (⟨0,(effW ts w x).1⟩,(effW ts w x).2) else (⟨actC ts w x deny,0⟩,{w with dm:=w.inR})
abbrev cAns (a:Ans):CV:= .st [.a (.int .i64 a.code),.a (.int .i64 a.n)]
abbrev aOf (d:Nat) (ts:List ByteArray) (w:Wd) (x:Act') (deny:Int) (sv:Sv) (a:Ans) (w':Wd) (sv':Sv):Prop:=vaf (T (d+5)) vae vef [cWi false ts w sv,cAct true x,.a (.int .i64 deny)]=some ([cAns a],[cWi false ts w' sv'])
theorem qij {d:Nat} {ts:List ByteArray} {w:Wd} (x:Act') (sv:Sv) {deny:Int} (h:deny≠0):aOf d ts w x deny sv ⟨deny,0⟩ {w with dm:=w.inR} sv:=by
 unfold aOf;obtain ⟨xk,xa,xb,xc,xp,xq⟩:=x;obtain ⟨ob,du,sl,hd,ir,dm,wa,he⟩:=w;dsimp only at *;cases sv<;>(rw [vab rfl];simp -implicitDefEqProofs (disch:=first|exact zd|fail) only [go_sem,Ag,Ah,vef,vkf,cWi,h])
theorem qie {d:Nat} {ts:List ByteArray} {w:Wd} (x:Act') (sv:Sv) {c:Int} (h:c≠0) (hc:cOf d ts w x sv c):aOf d ts w x 0 sv ⟨c,0⟩ {w with dm:=w.inR} sv:=by
 have t1:=vvk (d:=d+4) (ts:=ts) (w:=w) sv;unfold aOf;unfold cOf at hc;obtain ⟨xk,xa,xb,xc,xp,xq⟩:=x;obtain ⟨ob,du,sl,hd,ir,dm,wa,he⟩:=w;dsimp only at *;cases sv<;>(simp only [cWi,vce,vcc,vb9] at t1 hc;rw [vab rfl];simp (maxSteps:=3000000) -implicitDefEqProofs (disch:=first|exact zd|fail) only [go_sem,Ag,Ah,vef,vkf,cWi,t1,hc,Aq,if_false])
theorem qnd {d:Nat} {ts:List ByteArray} {w w':Wd} (x:Act') (sv sv':Sv) {n:Int} (hc:cOf d ts w x sv 0) (hd:dOf (d+1) ts w x sv n w' sv'):aOf d ts w x 0 sv ⟨0,n⟩ w' sv':=by
 have t1:=vvk (d:=d+4) (ts:=ts) (w:=w) sv;unfold aOf;unfold cOf at hc;unfold dOf at hd;obtain ⟨xk,xa,xb,xc,xp,xq⟩:=x;obtain ⟨ob,du,sl,hd,ir,dm,wa,he⟩:=w;cases sv<;>cases sv'<;>(simp only [cWi,vce,vcc,vb9] at t1 hc hd;rw [vab rfl];simp (maxSteps:=3000000) -implicitDefEqProofs (disch:=first|exact zd|fail) only [go_sem,Ag,Ah,vef,vkf,cWi,t1,hc,hd,Aq,if_false])
theorem vzy {d:Nat} {ts:List ByteArray} {B:Nat} {w:Wd} (I:Wok ts B w) (hT:Ty23 ts) (hB:B+1≤400) (x:Act') (deny:Int) (sv:Sv) (hsv:SvR w sv):Wok ts (B+1) (actW ts w x deny).2∧∃sv',SvR (actW ts w x deny).2 sv'∧aOf d ts w x deny sv (actW ts w x deny).1 (actW ts w x deny).2 sv':=by
 have J:Wok ts (B+1) {w with dm:=w.inR}:=by
  have K:=I.up hB;exact ⟨K.b,K.bb,K.ob,K.du,K.sl,K.slr,K.hd,K.hdr,K.wa,K.wal,K.he,K.her,K.hel,fun h=>h⟩
 by_cases h0:deny=0
 ·subst h0;have hc:=qln (d:=d) I hT x sv;by_cases c:codeW ts w x=0
  ·have e:actW ts w x 0=(⟨0,(effW ts w x).1⟩,(effW ts w x).2):=by
    unfold actW actC;rw [if_pos rfl,if_pos c]
   rw [e];rw [c] at hc;obtain ⟨hW,sv',hs,hd⟩:=qxb (d:=d+1) I hT hB x sv hsv c;exact ⟨hW,sv',hs,qnd x sv sv' hc hd⟩
  ·have e:actW ts w x 0=(⟨codeW ts w x,0⟩,{w with dm:=w.inR}):=by
    unfold actW actC;rw [if_pos rfl,if_neg c]
   rw [e];exact ⟨J,sv,hsv,qie x sv c hc⟩
 ·have e:actW ts w x deny=(⟨deny,0⟩,{w with dm:=w.inR}):=by
   unfold actW actC;rw [if_neg h0,if_neg h0]
  rw [e];exact ⟨J,sv,hsv,qij x sv h0⟩
abbrev w0 (g:Gr):Wd:=⟨g.nodes,Aa g.nodes.length true,g.roots,Aa 12 0,false,false,[],[]⟩
abbrev nNw (ts:List ByteArray) (g:Gr) (L D:List PV):vcs:= [(0,some (.bx false [.sz vam (Af eStr ts),.rf 1,.rf 2,.rf 3,.rf 4,.a (.bool false),.a (.bool false),.a (.pointer none)])),(1,some (.sl false 0 vai L)),(2,some (.sl false 0 vb8 D)),(3,some (.sl false 0 vag (Aa (Int.toNat 12) (.a (.int .i64 0))))),(4,some (.sl false 0 vag (Af vak g.roots)))]
abbrev sNw (ts:List ByteArray) (g:Gr) (i:Nat) (L D:List PV):St:=⟨[(5,.rf 0),(16,.sz vai (Af eObj g.nodes)),(17,.a (.int .i64 g.nodes.length)),(18,.a (.int .i64 (i:Nat)))],nNw ts g L D,5⟩
theorem qxc {d:Nat} {ts:List ByteArray} {g:Gr} (hn:g.nodes.length≤400) (hv:∀o∈g.nodes,o.vals.length≤23):
  vbt (T (d+1)) vae [5,16,17,18] vi9 (sNw ts g 0 ((g.nodes.take 0).map eObj) ((Aa 0 true).map eBl))=some (.ext 0,⟨[(5,.rf 0),(16,.sz vai (Af eObj g.nodes)),(17,.a (.int .i64 g.nodes.length)),(18,.a (.int .i64 g.nodes.length)),(19,.a (.bool false))],nNw ts g ((g.nodes.take g.nodes.length).map eObj) ((Aa g.nodes.length true).map eBl),105⟩):=by
 refine vbx (m:=g.nodes.length) (fun i=>sNw ts g i ((g.nodes.take i).map eObj) ((Aa i true).map eBl)) _ (va1 zo) (fun i hi=> ?_) ?_
 ·have hw:=vaw i zo;have hlt:(i:Int)<g.nodes.length:=by omega
  obtain ⟨o,ho⟩:∃b,g.nodes[i]? =some b:=⟨_,Ac zo⟩
  rw [qmx ho,vgt,List.replicate_succ',vgt];have hlen:((g.nodes.take i).map eObj).length≤400:=by simp;omega
  have hlen2:((Aa i true).map eBl).length≤400:=by simp;omega
  generalize (g.nodes.take i).map eObj=X at *;generalize (Aa i true).map eBl=Y at *;have hvl:=hv o (Ad ho);obtain ⟨t,vs⟩:=o;dsimp only at *;have hvm:(vs.map vak).length≤1000:=by simp;omega
  unfold round vi9;simp -implicitDefEqProofs (disch:=first|exact zd|fail) only [go_sem,Ag,Ah,hw,hlt,ho,Ao]
  (show some _=some _;kernel_rfl)
 ·have hlt:¬(g.nodes.length:Int)<g.nodes.length:=by omega
  generalize (Aa g.nodes.length true).map eBl=Y at *;unfold round vi9;simp -implicitDefEqProofs (disch:=first|exact zd|fail) only [go_sem,Ag,Ah,hlt]
theorem qgs {d:Nat} {ts:List ByteArray} {g:Gr} (hn:g.nodes.length≤400) (hr:g.roots.length≤1000) (hv:∀o∈g.nodes,o.vals.length≤23):vaf (T (d+1)) vae vf0 [.sl true vam (ts.map eStr),cGr true g]=some ([cWi false ts (w0 g) .n],[]):=by
 have key:=qxc (d:=d) (ts:=ts) hn hv;have hr2:(g.roots.map vak).length≤1000:=by simpa using hr
 rw [List.take_length] at key;have e0:(Aa 0 true).map eBl= []:=rfl;rw [e0] at key;have e12:(Aa 12 (0:Int)).map vak=Aa (Int.toNat 12) (.a (.int .i64 0)):=rfl;unfold w0 cWi;dsimp only;rw [e12];generalize (Aa g.nodes.length true).map eBl=Y at *;rw [vab rfl];simp -implicitDefEqProofs (disch:=first|exact zd|fail) only [go_sem,Ag,Ah,vf0,vso,va5 key]
def denyAt (dn:List Int) (i:Nat):Int:=dn[i]?.getD 0
def plI (ts:List ByteArray) (l:List Act') (dn:List Int) (w:Wd):Nat→List Ans×Wd
 |0=>([],w)
 |i+1=>match l[i]? with
  |some x=>((plI ts l dn w i).1++ [(actW ts (plI ts l dn w i).2 x (denyAt dn i)).1],(actW ts (plI ts l dn w i).2 x (denyAt dn i)).2)
  |none=>plI ts l dn w i
theorem vsh {ts:List ByteArray} {l:List Act'} {dn:List Int} {w:Wd} {i:Nat} {x:Act'} (h:l[i]? =some x):plI ts l dn w (i+1)=((plI ts l dn w i).1++ [(actW ts (plI ts l dn w i).2 x (denyAt dn i)).1],(actW ts (plI ts l dn w i).2 x (denyAt dn i)).2):=by
 conv=>lhs;unfold plI
 rw [h]
def nPl (ts:List ByteArray) (w:Wd) (A:List PV):Sv→vcs
 | .n=> [(0,some (.bx false [.a (.int .i64 0),.rf 3,.rf 4,.rf 5,.rf 6,.rf 7,.a (.bool false),.a (.bool false),.a (.bool false),.a (.string ⟨#[]⟩),.rf 8,.a (.int .i64 0)])),(1,some (.bx false [.sz vam (Af eStr ts),.rf 9,.rf 10,.rf 11,.rf 12,.a (.bool w.inR),.a (.bool w.dm),.a (.pointer none)])),(2,some (.bx false [.a (.int .i64 0),.rf 13,.rf 14,.rf 15,.rf 16,.rf 17,.a (.bool false),.a (.bool false),.a (.bool false),.a (.string ⟨#[]⟩),.rf 18,.a (.int .i64 0)])),(3,some (.sl false 0 va6 [])),(4,some (.sl false 0 vag [])),(5,some (.sl false 0 vai [])),(6,some (.sl false 0 vag [])),(7,some (.sl false 0 vai [])),(8,some (.sl false 0 vcx [])),(9,some (.sl true 0 vai (Af eObj w.ob))),(10,some (.sl true 0 vb8 (Af eBl w.du))),(11,some (.sl true 0 vag (Af vak w.hd))),(12,some (.sl true 0 vag (Af vak w.sl))),(13,some (.sl false 0 va6 A)),(14,some (.sl false 0 vag [])),(15,some (.sl false 0 vai [])),(16,some (.sl false 0 vag [])),(17,some (.sl false 0 vai [])),(18,some (.sl false 0 vcx []))]
 | .a X=> [(0,some (.bx false [.a (.int .i64 0),.rf 3,.rf 4,.rf 5,.rf 6,.rf 7,.a (.bool false),.a (.bool false),.a (.bool false),.a (.string ⟨#[]⟩),.rf 8,.a (.int .i64 0)])),(1,some (.bx false [.sz vam (Af eStr ts),.rf 9,.rf 10,.rf 11,.rf 12,.a (.bool w.inR),.a (.bool w.dm),.rf 13])),(2,some (.bx false [.a (.int .i64 0),.rf 14,.rf 15,.rf 16,.rf 17,.rf 18,.a (.bool false),.a (.bool false),.a (.bool false),.a (.string ⟨#[]⟩),.rf 19,.a (.int .i64 0)])),(3,some (.sl false 0 va6 [])),(4,some (.sl false 0 vag [])),(5,some (.sl false 0 vai [])),(6,some (.sl false 0 vag [])),(7,some (.sl false 0 vai [])),(8,some (.sl false 0 vcx [])),(9,some (.sl true 0 vai (Af eObj w.ob))),(10,some (.sl true 0 vb8 (Af eBl w.du))),(11,some (.sl true 0 vag (Af vak w.hd))),(12,some (.sl true 0 vag (Af vak w.sl))),(13,some (.bx false [.rf 20,.rf 21,.rf 22,.rf 23,.un,.a (.bool false),.a (.bool false),.a (.pointer none)])),(14,some (.sl false 0 va6 A)),(15,some (.sl false 0 vag [])),(16,some (.sl false 0 vai [])),(17,some (.sl false 0 vag [])),(18,some (.sl false 0 vai [])),(19,some (.sl false 0 vcx [])),(20,some (.sl true 0 vam [])),(21,some (.sl true 0 vai X)),(22,some (.sl true 0 vb8 [])),(23,some (.sl true 0 vag []))]
 | .b X s=> [(0,some (.bx false [.a (.int .i64 0),.rf 3,.rf 4,.rf 5,.rf 6,.rf 7,.a (.bool false),.a (.bool false),.a (.bool false),.a (.string ⟨#[]⟩),.rf 8,.a (.int .i64 0)])),(1,some (.bx false [.sz vam (Af eStr ts),.rf 9,.rf 10,.rf 11,.rf 12,.a (.bool w.inR),.a (.bool w.dm),.rf 13])),(2,some (.bx false [.a (.int .i64 0),.rf 14,.rf 15,.rf 16,.rf 17,.rf 18,.a (.bool false),.a (.bool false),.a (.bool false),.a (.string ⟨#[]⟩),.rf 19,.a (.int .i64 0)])),(3,some (.sl false 0 va6 [])),(4,some (.sl false 0 vag [])),(5,some (.sl false 0 vai [])),(6,some (.sl false 0 vag [])),(7,some (.sl false 0 vai [])),(8,some (.sl false 0 vcx [])),(9,some (.sl true 0 vai (Af eObj w.ob))),(10,some (.sl true 0 vb8 (Af eBl w.du))),(11,some (.sl true 0 vag (Af vak w.hd))),(12,some (.sl true 0 vag (Af vak w.sl))),(13,some (.bx false [.rf 20,.rf 21,.rf 22,.rf 23,.rf 24,.a (.bool false),.a (.bool false),.a (.pointer none)])),(14,some (.sl false 0 va6 A)),(15,some (.sl false 0 vag [])),(16,some (.sl false 0 vai [])),(17,some (.sl false 0 vag [])),(18,some (.sl false 0 vai [])),(19,some (.sl false 0 vcx [])),(20,some (.sl true 0 vam [])),(21,some (.sl true 0 vai X)),(22,some (.sl true 0 vb8 [])),(23,some (.sl true 0 vag [])),(24,some (.sl true 0 vag (Af vak s)))]
def xPl:Sv→Nat
 | .n=>19
 | .a _=>24
 | .b _ _=>25
abbrev sPl (ts:List ByteArray) (l:List Act') (dn:List Int) (w:Wd) (A:List PV) (i:Nat) (sv:Sv):St:=⟨[(3,.sz vag (Af vak dn)),(8,.rf 0),(9,.rf 1),(10,.rf 2),(24,.sz vbv (Af vcy l)),(25,.a (.int .i64 l.length)),(26,.a (.int .i64 (i:Nat)))],nPl ts w A sv,xPl sv⟩
theorem qlz {d:Nat} {ts:List ByteArray} {l:List Act'} {dn:List Int} {w w':Wd} (hl:l.length≤60) (hd:dn.length≤1048576) {i:Nat} {x:Act'} (hx:l[i]? =some x) {A:List PV} (hA:A.length≤60) (sv sv':Sv) {a:Ans} (h:aOf d ts w x (denyAt dn i) sv a w' sv'):
  round (T (d+6)) vae [3,8,9,10,24,25,26] vd2 (sPl ts l dn w A i sv)=some (.nrm,sPl ts l dn w' (A++ [eAns a]) (i+1) sv'):=by
 have hi:=(List.getElem?_eq_some_iff.1 hx).1;have hw:=vaw i zo;have hlt:(i:Int)<l.length:=by omega
 unfold aOf at h;obtain ⟨xk,xa,xb,xc,xp,xq⟩:=x;obtain ⟨ob,du,sl,hds,ir,dm,wa,he⟩:=w;obtain ⟨ob',du',sl',hds',ir',dm',wa',he'⟩:=w';obtain ⟨ac,an⟩:=a;by_cases c:i<dn.length
 ·obtain ⟨v,hv⟩:∃v,dn[i]? =some v:=⟨_,Ac c⟩
  have e:denyAt dn i=v:=by unfold denyAt;rw [hv];rfl
  have c':(i:Int)<dn.length:=by omega
  rw [e] at h;cases sv<;>cases sv'<;>
  ·simp only [cWi,cAns,vce,vcc,vb9] at h;unfold round vd2 sPl nPl xPl;simp (maxSteps:=3000000) -implicitDefEqProofs (disch:=first|exact zd|fail) only [go_sem,Ag,Ah,hw,hlt,hx,c',hv,h,Ao]
   (show some _=some _;kernel_rfl)
 ·have e:denyAt dn i=0:=by unfold denyAt;rw [List.getElem?_eq_none zo];rfl
  have c':¬(i:Int)<dn.length:=by omega
  rw [e] at h;cases sv<;>cases sv'<;>
  ·simp only [cWi,cAns,vce,vcc,vb9] at h;unfold round vd2 sPl nPl xPl;simp (maxSteps:=3000000) -implicitDefEqProofs (disch:=first|exact zd|fail) only [go_sem,Ag,Ah,hw,hlt,hx,c',h,Ao]
   (show some _=some _;kernel_rfl)
