/- Worlds: what an act does, in plain words. -/
import Derived.Test.YtpgkmggaifgjkaaGreatDoorLawWe
import Derived.Test.YtpgkmggaifgjkaaGreatDoorLawWc
import Derived.Test.YtpgkmggaifgjkaaGreatDoorLawP
open List renaming replicate->Aa,mem_of_getElem?->Ab,getElem?_eq_getElem->Ad,map->Ag,length_set->Ah,length_append->Aj,length_replicate->Ak,mem_replicate->Al,mem_append->Ao,mem_or_eq_of_mem_set->Ap,nil_append->Aq,mem_singleton->Av
open Int renaming toNat_natCast->Ac
open Nat renaming reduceAdd->Ae,reduceBEq->Af,zero_le->Am,le_refl->Ar,lt_irrefl->At
open Option renaming getD_some->Ai
open Bool renaming and_eq_true->An,true_and->Au,false_and->Aw
set_option linter.all false
namespace Go.Proofs.YtpgkmggaifgjkaaGreatDoor.VM
open Go Sy
variable {Φ:Nat->Option Callee} {N:Nat}
set_option maxRecDepth 100000
set_option maxHeartbeats 8000000
def mAt (w:Wd) (h:Int):Nat:=(hAt w h).toNat-1
def refW (w:Wd) (h:Int):Int:=if h<0 then 0 else hAt w h
def handW (w:Wd) (r:Int):Int×Wd:=if r=0 then (-1,w) else (plc0 w.hd,{w with hd:=w.hd.set (plc0 w.hd).toNat r})
def szW (ts:List ByteArray) (t:Int):Nat:=(ts[t.toNat]?.getD ⟨#[]⟩).size
def effW (ts:List ByteArray) (w:Wd) (x:Act'):Int×Wd:=
 if x.kind=1 then (plc0 w.hd,{w with ob:=w.ob++ [⟨x.a,Aa (szW ts x.a) 0⟩],du:=w.du++ [false],hd:=w.hd.set (plc0 w.hd).toNat ((w.ob.length+1:Nat):Int)})
 else if x.kind=2 then (valW w x,w)
 else if x.kind=3 then (0,setV w (mAt w x.a) x.b.toNat x.c)
 else if x.kind=4 then handW w (valW w x)
 else if x.kind=5 then (0,setV w (mAt w x.a) x.b.toNat (refW w x.c))
 else if x.kind=6 then (0,{w with hd:=w.hd.set x.a.toNat 0})
 else if x.kind=7 then (if hAt w x.a=hAt w x.b then 1 else 0,w)
 else if x.kind=8 then ((objW w x.a).ty,w)
 else if x.kind=9 then (if durW w x.a then 1 else 0,w)
 else if x.kind=10 then (0,{w with inR:=true,wa:=w.ob,he:=w.sl})
 else if x.kind=11 then (0,{w with sl:=w.sl.set x.a.toNat (refW w x.b)})
 else if x.kind=12 then handW w (w.sl[x.a.toNat]?.getD 0)
 else if x.kind=13 then (0,⟨w.ob,comD ts w,w.sl,w.hd,false,false,[],[]⟩)
 else if x.kind=14 then (0,⟨backO w,w.du,w.he,w.hd,false,false,[],[]⟩)
 else if x.kind=18 then (0,if w.inR then ⟨backO w,w.du,w.he,Aa 12 0,false,false,[],[]⟩ else {w with hd:=Aa 12 0})
 else (0,w)
structure Fld (ts:List ByteArray) (w:Wd) (x:Act') (n m j:Nat) (t:Nat) (vs:List Int) (s:ByteArray) (v:Int):Prop where
 fa:x.a=(n:Nat)
 fn12:n<12
 fh:w.hd[n]? =some ((m:Int)+1)
 fm:m<w.ob.length
 fm1:m<1000
 fho:hAt w x.a=(m:Int)+1
 fo:w.ob[m]? =some ⟨t,vs⟩
 fs:ts[t]? =some s
 fz:vs.length=s.size
 fb:x.b=(j:Nat)
 fjs:j<s.size
 fv:vs[j]? =some v
 fr:(x.kind=4\/x.kind=5)↔kAt s j=114
 fc:x.kind=5->x.c= -1\/usedW w x.c=true
 ff:x.kind=4->v≠0->¬plc0 w.hd<0
 fd:(x.kind=3\/x.kind=5)->w.inR=true\/w.du[m]? =some false
theorem vms {ts:List ByteArray} {B:Nat} {w:Wd} (I:Wok ts B w) {x:Act'} (h:fldW ts w x=0):∃(n m j t:Nat) (vs:List Int) (s:ByteArray) (v:Int),Fld ts w x n m j t vs s v:=by
 unfold fldW at h;by_cases c0:usedW w x.a=false\/x.kind=5/\x.c≠-1/\usedW w x.c=false
 ·rw [if_pos c0] at h;exact absurd h (by decide)
 rw [if_neg c0] at h;by_cases c1:0<=x.b/\x.b<=((objW w x.a).vals.length:Int)-1
 case neg=>rw [if_pos c1] at h;exact absurd h (by decide)
 rw [if_neg (λhh=>hh c1)] at h;have u1:usedW w x.a=true:=by
  cases hu:usedW w x.a with
  |true=>rfl
  |false=>exact absurd (.inl hu) c0
 obtain ⟨n,m,hn,hn12,hnm,hm,hm1,hh⟩:=vht I u1;obtain ⟨⟨ot,vs⟩,ho⟩:∃o,w.ob[m]? =some o:=⟨_,Ad hm⟩
 obtain ⟨s,g1,g2,g3,g4⟩:=I.ob _ (Ab ho);dsimp only at g1 g2 g3;obtain ⟨t,rfl⟩:∃t:Nat,ot=t:=⟨ot.toNat,zo⟩
 rw [Ac] at g1;have hdul:=I.du;obtain ⟨u,hdu⟩:∃u,w.du[m]? =some u:=⟨_,Ad zo⟩
 have eo:objW w x.a=⟨t,vs⟩:=by unfold objW;rw [hh,show ((m:Int)+1).toNat-1=m by omega,ho];rfl
 have ed:durW w x.a=u:=by unfold durW;rw [hh,show ((m:Int)+1).toNat-1=m by omega,hdu];rfl
 have ek:kindW ts ⟨t,vs⟩ x.b=kAt s x.b.toNat:=by unfold kindW;rw [Ac,g1];rfl
 rw [eo] at c1;unfold valW at h;rw [eo,ed,ek] at h;dsimp only at c1 h;obtain ⟨j,hj⟩:∃j:Nat,x.b=j:=⟨x.b.toNat,zo⟩
 have hjs:j<s.size:=zo
 obtain ⟨v,hv⟩:∃v,vs[j]? =some v:=⟨_,Ad zo⟩
 rw [hj,Ac,hv,Ai] at h;by_cases c2:¬(x.kind=4\/x.kind=5)↔kAt s j=114
 ·rw [if_pos c2] at h;exact absurd h (by decide)
 rw [if_neg c2] at h;by_cases c3:(x.kind=3\/x.kind=5)/\w.inR=false/\u=true
 ·rw [if_pos c3] at h;exact absurd h (by decide)
 rw [if_neg c3] at h;by_cases c4:x.kind=4/\v≠0/\plc0 w.hd<0
 ·rw [if_pos c4] at h;exact absurd h (by decide)
 refine ⟨n,m,j,t,vs,s,v,hn,hn12,hnm,hm,hm1,hh,ho,g1,g3,hj,hjs,hv,?_,?_,λk hz hf=>c4 ⟨k,hz,hf⟩,λhk=> ?_⟩
 ·by_cases p:x.kind=4\/x.kind=5<;>by_cases q:kAt s j=114<;>simp [p,q] at c2⊢
 ·intro k5;by_cases hc:x.c= -1
  ·exact .inl hc
  ·cases hu:usedW w x.c with
   |true=>exact .inr rfl
   |false=>exact absurd (.inr ⟨k5,hc,hu⟩) c0
 ·cases hi:w.inR with
  |true=>exact .inl rfl
  |false=>
   cases u with
   |false=>exact .inr hdu
   |true=>exact absurd ⟨hk,hi,rfl⟩ c3
theorem vrh {s:ByteArray} {j:Nat} (h:refAt s j=true):kAt s j=114:=by
 unfold refAt at h;unfold kAt;cases hb:(ch s)[j]? with
 |none=>rw [hb] at h;cases h
 |some b=>
  rw [hb] at h;have:=of_decide_eq_true h;rw [Ai];omega
theorem qcc (du:List Bool):∀(i:Nat),i<=du.length->∀v∈dRI du i,1<=v/\v<=(du.length:Int)
 |0,_,v,hv=>by cases hv
 |i+1,hi,v,hv=>by
  unfold dRI at hv;split at hv
  ·rcases Ao.1 hv with h|h
   ·exact qcc du i zo v h
   ·rw [Av.1 h];omega
  ·exact qcc du i zo v hv
theorem vnh {ts:List ByteArray} {B:Nat} {w:Wd} (I:Wok ts B w) (hT:Ty23 ts):Right ts (gCm w):=by
 have hb:=I.b;have hbb:=I.bb;have hl:=vsi w.du w.du.length;have hdu:=I.du;have hsl:=I.sl;refine ⟨⟨by have:=hT.n1;omega,λs hs=>by have:=hT.z s hs;omega,?_,?_,λo ho=> ?_⟩,by show w.ob.length<=400;omega,?_,λv hv=> ?_,λo ho=> ?_,hT.n1⟩
 ·show (w.sl++dRI w.du w.du.length).length<=1048576;rw [Aj];omega
 ·show w.ob.length<=1048576;omega
 ·obtain ⟨s,g1,_,g3,_⟩:=I.ob o ho;have:=hT.z s (Ab g1);omega
 ·show (w.sl++dRI w.du w.du.length).length<=1000;rw [Aj];omega
 ·show 0<=v/\v<=(w.ob.length:Int);rcases Ao.1 hv with h|h
  ·exact I.slr v h
  ·have:=qcc w.du _ (Ar _) v h;omega
 ·obtain ⟨s,g1,g2,g3,g4⟩:=I.ob o ho;refine ⟨o.ty.toNat,s,zo,g1,g3,hT.z0 s (Ab g1),hT.z s (Ab g1),λj v hv hr=>g4 j v hv (vrh hr)⟩
theorem Wok.up {ts:List ByteArray} {B:Nat} {w:Wd} (I:Wok ts B w) (hB:B+1<=400):Wok ts (B+1) w:=
 ⟨by have:=I.b;omega,hB,I.ob,I.du,I.sl,I.slr,I.hd,I.hdr,I.wa,I.wal,I.he,I.her,I.hel,I.dm⟩
theorem Wok.setO {ts:List ByteArray} {B:Nat} {w:Wd} (I:Wok ts B w) {m j t:Nat} {vs:List Int} {s:ByteArray} {v:Int} (ho:w.ob[m]? =some ⟨t,vs⟩) (hs:ts[t]? =some s) (hz:vs.length=s.size) (hv:kAt s j=114->0<=v/\v<=(w.ob.length:Int)):Wok ts B {w with ob:=w.ob.set m ⟨t,vs.set j v⟩}:=by
 refine ⟨by rw [Ah];exact I.b,I.bb,?_,by rw [Ah];exact I.du,I.sl,by rw [Ah];exact I.slr,I.hd,by rw [Ah];exact I.hdr,by rw [Ah];exact I.wa,by rw [Ah];exact I.wal,I.he,by rw [Ah];exact I.her,I.hel,I.dm⟩;intro o hm;rw [Ah];rcases Ap hm with h|rfl
 ·exact I.ob o h
 ·obtain ⟨s',g1,g2,g3,g4⟩:=I.ob _ (Ab ho);dsimp only at g1;rw [Ac,hs] at g1;cases g1;refine ⟨s,by dsimp only;rw [Ac];exact hs,by dsimp only;omega,by dsimp only;rw [Ah];exact hz,λk y hy hk=> ?_⟩;dsimp only at hy;rw [List.getElem?_set] at hy;split at hy
  ·rename_i e;subst e;split at hy
   ·cases hy;exact hv hk
   ·cases hy
  ·exact g4 k y hy hk
theorem Wok.setH {ts:List ByteArray} {B:Nat} {w:Wd} (I:Wok ts B w) (k:Nat) {r:Int} (hr:0<=r/\r<=(w.ob.length:Int)):Wok ts B {w with hd:=w.hd.set k r}:=
 ⟨I.b,I.bb,I.ob,I.du,I.sl,I.slr,by rw [Ah];exact I.hd,I.hdr.set k hr,I.wa,I.wal,I.he,I.her,I.hel,I.dm⟩
theorem Wok.refW {ts:List ByteArray} {B:Nat} {w:Wd} (I:Wok ts B w) (h:Int):0<=VM.refW w h/\VM.refW w h<=(w.ob.length:Int):=by
 unfold VM.refW hAt;split
 ·omega
 ·cases hx:w.hd[h.toNat]? with
  |none=>rw [Option.getD_none];omega
  |some x=>exact I.hdr.get hx
theorem vrz {w:Wd} {o:Obj'}:∀{i:Nat},o∈bkI w i->o∈w.ob\/o∈w.wa
 |0,h=> .inl h
 |i+1,h=>by
  unfold bkI at h;split at h
  ·split at h
   ·rename_i o' ho';rcases Ap h with h|rfl
    ·exact vrz h
    ·exact .inr (Ab ho')
   ·exact vrz h
  ·exact vrz h
theorem Wok.back {ts:List ByteArray} {B:Nat} {w:Wd} (I:Wok ts B w) (hi:w.inR=true) {hd:List Int} (hl:hd.length=12) (hr:Rin w.ob.length hd):Wok ts B ⟨backO w,w.du,w.he,hd,false,false,[],[]⟩:=by
 have e:=vhg w w.wa.length;refine ⟨by rw [e];exact I.b,I.bb,λo ho=> ?_,by rw [e];exact I.du,I.he hi,by rw [e];exact I.her,hl,by rw [e];exact hr,λ_ h=>(by cases h),Am _,λh=>(by cases h),λ_ h=>(by cases h),Am _,λh=>(by cases h)⟩;rw [e];rcases vrz ho with h|h
 ·exact I.ob o h
 ·exact I.wa o h
theorem Wok.com {ts:List ByteArray} {B:Nat} {w:Wd} (I:Wok ts B w):Wok ts B ⟨w.ob,comD ts w,w.sl,w.hd,false,false,[],[]⟩:=
 ⟨I.b,I.bb,I.ob,(vkw _ _ _).trans I.du,I.sl,I.slr,I.hd,I.hdr,λ_ h=>(by cases h),Am _,λh=>(by cases h),λ_ h=>(by cases h),Am _,λh=>(by cases h)⟩
theorem Wok.new {ts:List ByteArray} {B:Nat} {w:Wd} (I:Wok ts B w) (hB:B+1<=400) {n k:Nat} {s:ByteArray} (hs:ts[n]? =some s):Wok ts (B+1) {w with ob:=w.ob++ [⟨n,Aa s.size 0⟩],du:=w.du++ [false],hd:=w.hd.set k ((w.ob.length+1:Nat):Int)}:=by
 have e:(w.ob++ [(⟨n,Aa s.size 0⟩:Obj')]).length=w.ob.length+1:=by rw [Aj];rfl
 have hb:=I.b;refine ⟨by rw [e];omega,hB,λo ho=> ?_,by rw [e,Aj,I.du];rfl,I.sl,by rw [e];exact I.slr.mono zo,by rw [Ah];exact I.hd,by rw [e];exact (I.hdr.mono zo).set k zo,λo ho=>by rw [e];exact (I.wa o ho).mono zo,by rw [e];exact Nat.le_trans I.wal (Nat.le_succ _),I.he,by rw [e];exact I.her.mono zo,I.hel,I.dm⟩;rw [e];rcases Ao.1 ho with h|h
 ·exact (I.ob o h).mono zo
 ·rw [Av.1 h];refine ⟨s,by dsimp only;rw [Ac];exact hs,by dsimp only;omega,by dsimp only;rw [Ak],λj v hv _=> ?_⟩;dsimp only at hv;have:=Ab hv;rw [(Al.1 this).2];omega
theorem Wok.val {ts:List ByteArray} {B:Nat} {w:Wd} (I:Wok ts B w) {x:Act'} {n m j t:Nat} {vs:List Int} {s:ByteArray} {v:Int} (F:Fld ts w x n m j t vs s v):kAt s j=114->0<=v/\v<=(w.ob.length:Int):=λhk=>by
 obtain ⟨s',g1,g2,g3,g4⟩:=I.ob _ (Ab F.fo);dsimp only at g1;rw [Ac,F.fs] at g1;cases g1;exact g4 j v F.fv hk
abbrev SvR (w:Wd) (sv:Sv):Prop:=w.inR=true->sv= .b (w.wa.map eObj) w.he
abbrev Done (d:Nat) (ts:List ByteArray) (B:Nat) (w:Wd) (x:Act') (sv:Sv):Prop:=Wok ts (B+1) (effW ts w x).2/\∃sv',SvR (effW ts w x).2 sv'/\dOf d ts w x sv (effW ts w x).1 (effW ts w x).2 sv'
theorem voh {w:Wd} {m j t:Nat} {vs:List Int} {v:Int} (ho:w.ob[m]? =some ⟨t,vs⟩):setV w m j v={w with ob:=w.ob.set m ⟨t,vs.set j v⟩}:=by
 unfold setV;rw [ho]
theorem Fld.mAt {ts:List ByteArray} {w:Wd} {x:Act'} {n m j t:Nat} {vs:List Int} {s:ByteArray} {v:Int} (F:Fld ts w x n m j t vs s v):VM.mAt w x.a=m:=by
 unfold VM.mAt;rw [F.fho];omega
theorem Fld.valW {ts:List ByteArray} {w:Wd} {x:Act'} {n m j t:Nat} {vs:List Int} {s:ByteArray} {v:Int} (F:Fld ts w x n m j t vs s v):VM.valW w x=v:=by
 unfold VM.valW objW;rw [F.fho,show ((m:Int)+1).toNat-1=m by omega,F.fo,F.fb,Ac];dsimp only [Ai];rw [F.fv];rfl
theorem vmt {ts:List ByteArray} {w:Wd} {x:Act'} (hc:codeW ts w x=0) (hk:2<=x.kind/\x.kind<=5):fldW ts w x=0:=by
 unfold codeW at hc;by_cases cd:w.dm=true/\¬(14<=x.kind/\x.kind<=18)
 ·rw [if_pos cd] at hc;exact absurd hc (by decide)
 ·rw [if_neg cd,if_neg zo,if_pos hk] at hc;exact hc
theorem qrp {ts:List ByteArray} {w:Wd} {x:Act'} (hc:codeW ts w x=0) (hk:x.kind<=13):w.dm=false:=by
 unfold codeW at hc;cases hd:w.dm with
 |false=>rfl
 |true=>rw [if_pos ⟨hd,zo⟩] at hc;exact absurd hc (by decide)
theorem vws {ts:List ByteArray} {B:Nat} {w:Wd} (I:Wok ts B w) {c:Int} (h:c= -1\/usedW w c=true):c<=11:=by
 rcases h with h|h
 ·omega
 ·obtain ⟨n,_,h1,h2,_⟩:=vht I h;omega
theorem Done.of {d:Nat} {ts:List ByteArray} {B:Nat} {w:Wd} {x:Act'} {sv sv':Sv} {n:Int} {w':Wd} (e:effW ts w x=(n,w')) (hW:Wok ts (B+1) w') (hs:SvR w' sv') (hd:dOf d ts w x sv n w' sv'):Done d ts B w x sv:=by
 unfold Done;rw [e];exact ⟨hW,sv',hs,hd⟩
theorem qp7 {d:Nat} {ts:List ByteArray} {B:Nat} {w:Wd} (I:Wok ts B w) (hT:Ty23 ts) (hB:B+1<=400) (x:Act') (sv:Sv) (hsv:SvR w sv) (hc:codeW ts w x=0):Done d ts B w x sv:=by
 have hb:=I.b;have hbb:=I.bb;have hdu:=I.du;have hv23:∀o∈w.ob,o.vals.length<=23:=λo ho=>by
  obtain ⟨s,g1,_,g3,_⟩:=I.ob o ho;have:=hT.z s (Ab g1);omega
 by_cases k1:x.kind=1
 ·have hdm:=qrp hc zo;unfold codeW at hc;rw [if_neg (by rw [hdm];simp),if_pos k1] at hc;by_cases c1:0<=x.a/\x.a<=(ts.length:Int)-1
  case neg=>rw [if_pos c1] at hc;exact absurd hc (by decide)
  rw [if_neg (λh=>h c1)] at hc;by_cases c2:plc0 w.hd<0
  ·rw [if_pos c2] at hc;exact absurd hc (by decide)
  obtain ⟨n,hn⟩:∃n:Nat,x.a=n:=⟨x.a.toNat,zo⟩
  obtain ⟨s,hs⟩:∃s,ts[n]? =some s:=⟨_,Ad zo⟩
  have hz:=hT.z s (Ab hs);have e:effW ts w x=(plc0 w.hd,{w with ob:=w.ob++ [⟨n,Aa s.size 0⟩],du:=w.du++ [false],hd:=w.hd.set (plc0 w.hd).toNat ((w.ob.length+1:Nat):Int)}):=by
   unfold effW szW;rw [if_pos k1,hn,Ac,hs];rfl
  exact .of e (I.new hB hs) hsv (qmn x sv k1 hn hs hz I.hd c2 zo hdu)
 by_cases k2:x.kind=2
 ·obtain ⟨n,m,j,t,vs,s,v,F⟩:=vms I (vmt hc zo);exact .of (by unfold effW;rw [if_neg k1,if_pos k2,F.valW]) (I.up hB) hsv (qlx x sv k2 F.fa F.fh F.fm1 F.fo F.fb F.fv)
 by_cases k3:x.kind=3
 ·obtain ⟨n,m,j,t,vs,s,v,F⟩:=vms I (vmt hc zo);have hk:¬kAt s j=114:=λh=>by have:=F.fr.2 h;omega
  exact .of (by unfold effW;rw [if_neg k1,if_neg k2,if_pos k3,F.mAt,F.fb,Ac,voh F.fo]) ((I.setO F.fo F.fs F.fz (λh=>absurd h hk)).up hB) hsv (qle x sv k3 F.fa F.fh F.fm1 F.fo F.fb F.fv)
 by_cases k4:x.kind=4
 ·obtain ⟨n,m,j,t,vs,s,v,F⟩:=vms I (vmt hc zo);have hv:=I.val F (F.fr.1 (.inl k4));by_cases hz:v=0
  ·exact .of (by unfold effW handW;rw [if_neg k1,if_neg k2,if_neg k3,if_pos k4,F.valW,if_pos hz]) (I.up hB) hsv (qhy x sv k4 F.fa F.fh F.fm1 F.fo F.fb F.fv hz)
  ·exact .of (by unfold effW handW;rw [if_neg k1,if_neg k2,if_neg k3,if_pos k4,F.valW,if_neg hz]) ((I.setH _ hv).up hB) hsv (ql9 x sv k4 F.fa F.fh F.fm1 F.fo F.fb F.fv I.hd hz (F.ff k4 hz))
 by_cases k5:x.kind=5
 ·obtain ⟨n,m,j,t,vs,s,v,F⟩:=vms I (vmt hc zo);exact .of (by unfold effW;rw [if_neg k1,if_neg k2,if_neg k3,if_neg k4,if_pos k5,F.mAt,F.fb,Ac,voh F.fo]) ((I.setO F.fo F.fs F.fz (λ_=>I.refW _)).up hB) hsv (qm6 x sv k5 F.fa F.fh F.fm1 F.fo F.fb F.fv I.hd (vws I (F.fc k5)))
 have cd:¬(w.dm=true/\¬(14<=x.kind/\x.kind<=18)):=λh=>by
  unfold codeW at hc;rw [if_pos h] at hc;exact absurd hc (by decide)
 unfold codeW at hc;rw [if_neg cd,if_neg k1,if_neg zo] at hc;by_cases k689:x.kind=6\/x.kind=8\/x.kind=9
 ·rw [if_pos k689] at hc;cases hu:usedW w x.a with
  |false=>rw [hu] at hc;exact absurd hc (by decide)
  |true=>
   obtain ⟨n,m,hn,hn12,hnm,hm,hm1,hh⟩:=vht I hu;obtain ⟨⟨ot,vs⟩,ho⟩:∃o,w.ob[m]? =some o:=⟨_,Ad hm⟩
   obtain ⟨u,hdu2⟩:∃u,w.du[m]? =some u:=⟨_,Ad zo⟩
   have eo:objW w x.a=⟨ot,vs⟩:=by unfold objW;rw [hh,show ((m:Int)+1).toNat-1=m by omega,ho];rfl
   have ed:durW w x.a=u:=by unfold durW;rw [hh,show ((m:Int)+1).toNat-1=m by omega,hdu2];rfl
   rcases k689 with k|k|k
   ·exact .of (by unfold effW;rw [if_neg k1,if_neg k2,if_neg k3,if_neg k4,if_neg k5,if_pos k,hn,Ac]) ((I.setH n zo).up hB) hsv (qln x sv k hn hnm)
   ·exact .of (by unfold effW;rw [if_neg k1,if_neg k2,if_neg k3,if_neg k4,if_neg k5,if_neg zo,if_neg zo,if_pos k,eo]) (I.up hB) hsv (qn7 x sv k hn hnm hm1 ho)
   ·exact .of (by unfold effW;rw [if_neg k1,if_neg k2,if_neg k3,if_neg k4,if_neg k5,if_neg zo,if_neg zo,if_neg zo,if_pos k,ed]) (I.up hB) hsv (ql5 x sv k hn hnm hm1 hdu2)
 rw [if_neg k689] at hc;have k6:¬x.kind=6:=λh=>k689 (.inl h);have k8:¬x.kind=8:=λh=>k689 (.inr (.inl h));have k9:¬x.kind=9:=λh=>k689 (.inr (.inr h));by_cases k7:x.kind=7
 ·rw [if_pos k7] at hc;cases hu:usedW w x.a with
  |false=>rw [hu] at hc;exact absurd hc (by simp)
  |true=>
   cases hu2:usedW w x.b with
   |false=>rw [hu,hu2] at hc;exact absurd hc (by simp)
   |true=>
    obtain ⟨n,m,hn,hn12,hnm,hm,hm1,hh⟩:=vht I hu;obtain ⟨n2,m2,hn2,hn122,hnm2,hm2,hm12,hh2⟩:=vht I hu2;exact .of (by unfold effW;rw [if_neg k1,if_neg k2,if_neg k3,if_neg k4,if_neg k5,if_neg k6,if_pos k7,hh,hh2]) (I.up hB) hsv (qmz x sv k7 hn hn2 hnm hnm2)
 rw [if_neg k7] at hc;have pre:∀{α:Type} {a1 a2 a3 a4 a5 a6 a7 a8 a9 y:α},(if x.kind=1 then a1 else if x.kind=2 then a2 else if x.kind=3 then a3 else if x.kind=4 then a4 else if x.kind=5 then a5 else if x.kind=6 then a6 else if x.kind=7 then a7 else if x.kind=8 then a8 else if x.kind=9 then a9 else y)=y:=by
  intros;rw [if_neg k1,if_neg k2,if_neg k3,if_neg k4,if_neg k5,if_neg k6,if_neg k7,if_neg k8,if_neg k9]
 by_cases k10:x.kind=10
 ·rw [if_pos k10] at hc;cases hi:w.inR with
  |true=>rw [hi] at hc;exact absurd hc (by simp)
  |false=>
   refine .of (by unfold effW;rw [pre,if_pos k10]) ?_ (λ_=>rfl) (qg4 x sv k10 zo hv23 I.sl);exact ⟨by show w.ob.length<=B+1;omega,hB,I.ob,I.du,I.sl,I.slr,I.hd,I.hdr,I.ob,Ar _,λ_=>I.sl,I.slr,by show w.sl.length<=8;rw [I.sl];exact Ar _,λ_=>rfl⟩
 rw [if_neg k10] at hc;by_cases k11:x.kind=11
 ·rw [if_pos k11] at hc;by_cases c1:0<=x.a/\x.a<=7
  case neg=>rw [if_pos c1] at hc;exact absurd hc (by decide)
  rw [if_neg (λh=>h c1)] at hc;by_cases c2:x.b≠-1/\usedW w x.b=false
  ·rw [if_pos c2] at hc;exact absurd hc (by decide)
  have hb11:x.b<=11:=vws I (by
   by_cases e:x.b= -1
   ·exact .inl e
   ·cases hu:usedW w x.b with
    |true=>exact .inr rfl
    |false=>exact absurd ⟨e,hu⟩ c2)
  obtain ⟨n,hn⟩:∃n:Nat,x.a=n:=⟨x.a.toNat,zo⟩
  have hs:=I.sl;obtain ⟨v,hv⟩:∃v,w.sl[n]? =some v:=⟨_,Ad zo⟩
  refine .of (n:=0) (w':={w with sl:=w.sl.set n (refW w x.b)}) (by unfold effW;rw [pre,if_neg k10,if_pos k11,hn,Ac]) ?_ hsv (qjc x sv k11 hn hv I.hd hb11);exact ⟨by show w.ob.length<=B+1;omega,hB,I.ob,I.du,by rw [Ah];exact I.sl,I.slr.set n (I.refW _),I.hd,I.hdr,I.wa,I.wal,I.he,I.her,I.hel,I.dm⟩
 rw [if_neg k11] at hc;by_cases k12:x.kind=12
 ·rw [if_pos k12] at hc;by_cases c1:0<=x.a/\x.a<=7
  case neg=>rw [if_pos c1] at hc;exact absurd hc (by decide)
  rw [if_neg (λh=>h c1)] at hc;obtain ⟨n,hn⟩:∃n:Nat,x.a=n:=⟨x.a.toNat,zo⟩
  have hs:=I.sl;obtain ⟨v,hv⟩:∃v,w.sl[n]? =some v:=⟨_,Ad zo⟩
  rw [hn,Ac,hv,Ai] at hc;by_cases hz:v=0
  ·subst hz;exact .of (by unfold effW handW;rw [pre,if_neg k10,if_neg k11,if_pos k12,hn,Ac,hv,Ai,if_pos rfl]) (I.up hB) hsv (qge x sv k12 hn hv)
  ·by_cases c2:plc0 w.hd<0
   ·rw [if_pos ⟨hz,c2⟩] at hc;exact absurd hc (by decide)
   exact .of (by unfold effW handW;rw [pre,if_neg k10,if_neg k11,if_pos k12,hn,Ac,hv,Ai,if_neg hz]) ((I.setH _ (I.slr.get hv)).up hB) hsv (qh2 x sv k12 hn hv I.hd hz c2)
 rw [if_neg k12] at hc;by_cases k1314:x.kind=13\/x.kind=14
 ·rw [if_pos k1314] at hc;cases hi:w.inR with
  |false=>rw [hi] at hc;exact absurd hc (by simp)
  |true=>
   obtain rfl:=hsv hi;rcases k1314 with k|k
   ·have hdm:w.dm=false:=by
     cases hd:w.dm with
     |false=>rfl
     |true=>exact absurd ⟨hd,zo⟩ cd
    have t:=qhw (d:=d) x k zo hdu I.sl (vnh I hT);unfold dOf at t;rw [show cWi false ts {w with du:=comD ts w,inR:=false} (.b (w.wa.map eObj) w.he)=cWi false ts ⟨w.ob,comD ts w,w.sl,w.hd,false,false,[],[]⟩ (.b (w.wa.map eObj) w.he) by unfold cWi;rw [hdm]] at t;exact .of (by unfold effW;rw [pre,if_neg k10,if_neg k11,if_neg k12,if_pos k]) (I.com.up hB) (λh=>by cases h) t
   ·obtain ⟨X,t⟩:=qh6 (d:=d) (ts:=ts) x k zo hdu I.wal hi;exact .of (by unfold effW;rw [pre,if_neg k10,if_neg k11,if_neg k12,if_neg zo,if_pos k]) ((I.back hi I.hd I.hdr).up hB) (λh=>by cases h) t
 rw [if_neg k1314] at hc;have pre2:∀{α:Type} {a1 a2 a3 a4 a5 y:α},(if x.kind=10 then a1 else if x.kind=11 then a2 else if x.kind=12 then a3 else if x.kind=13 then a4 else if x.kind=14 then a5 else y)=y:=by
  intros;rw [if_neg k10,if_neg k11,if_neg k12,if_neg zo,if_neg zo]
 by_cases k18:x.kind=18
 ·cases hi:w.inR with
  |false=>
   have hdm:w.dm=false:=by
    cases hd:w.dm with
    |false=>rfl
    |true=>have:=I.dm hd;rw [hi] at this;cases this
   have t:=qf2 (d:=d) (ts:=ts) x sv k18 I.hd hi;unfold dOf at t;rw [show cWi false ts {w with hd:=Aa 12 0,inR:=false,dm:=false} sv=cWi false ts {w with hd:=Aa 12 0} sv by unfold cWi;rw [hdm,hi]] at t;refine .of (n:=0) (w':={w with hd:=Aa 12 0}) (by unfold effW;rw [pre,pre2,if_pos k18,hi,if_neg (by simp)]) ?_ hsv t;refine Wok.up ⟨I.b,I.bb,I.ob,I.du,I.sl,I.slr,Ak,λv hv=>by rw [(Al.1 hv).2];omega,I.wa,I.wal,I.he,I.her,I.hel,I.dm⟩ hB
  |true=>
   obtain rfl:=hsv hi;obtain ⟨X,t⟩:=qh4 (d:=d) (ts:=ts) x k18 I.hd zo hdu I.wal hi;refine .of (by unfold effW;rw [pre,pre2,if_pos k18,hi,if_pos rfl]) ((I.back hi Ak λv hv=>by rw [(Al.1 hv).2];omega).up hB) (λh=>by cases h) t
 ·by_cases k1517:15<=x.kind/\x.kind<=18
  case neg=>rw [if_neg k1517] at hc;exact absurd hc (by decide)
  refine .of (by unfold effW;rw [pre,pre2,if_neg k18]) (I.up hB) hsv ?_;by_cases k15:x.kind=15
  ·exact qi6 x sv k15
  by_cases k16:x.kind=16
  ·exact qim x sv k16
  ·exact qhe x sv zo
def actC (ts:List ByteArray) (w:Wd) (x:Act') (deny:Int):Int:=if deny=0 then codeW ts w x else deny
def actW (ts:List ByteArray) (w:Wd) (x:Act') (deny:Int):Ans×Wd:=if actC ts w x deny=0 then (⟨0,(effW ts w x).1⟩,(effW ts w x).2) else (⟨actC ts w x deny,0⟩,{w with dm:=w.inR})
abbrev cAns (a:Ans):CV:= .st [.a (.int .i64 a.code),.a (.int .i64 a.n)]
abbrev aOf (d:Nat) (ts:List ByteArray) (w:Wd) (x:Act') (deny:Int) (sv:Sv) (a:Ans) (w':Wd) (sv':Sv):Prop:=vag (T (d+5)) vad ve6 [cWi false ts w sv,cAct true x,.a (.int .i64 deny)]=some ([cAns a],[cWi false ts w' sv'])
theorem qbg {d:Nat} {ts:List ByteArray} {w:Wd} (x:Act') (sv:Sv) {deny:Int} (h:deny≠0):aOf d ts w x deny sv ⟨deny,0⟩ {w with dm:=w.inR} sv:=by
 unfold aOf;obtain ⟨xk,xa,xb,xc,xp,xq⟩:=x;obtain ⟨ob,du,sl,hd,ir,dm,wa,he⟩:=w;dsimp only at *;cases sv<;>(rw [vab rfl];simp -implicitDefEqProofs (disch:=try exact zd) only [go_sem,Ae,Af,ve6,vjx,cWi,h])
theorem qap {d:Nat} {ts:List ByteArray} {w:Wd} (x:Act') (sv:Sv) {c:Int} (h:c≠0) (hc:cOf d ts w x sv c):aOf d ts w x 0 sv ⟨c,0⟩ {w with dm:=w.inR} sv:=by
 have t1:=vtg (d:=d+4) (ts:=ts) (w:=w) sv;unfold aOf;unfold cOf at hc;obtain ⟨xk,xa,xb,xc,xp,xq⟩:=x;obtain ⟨ob,du,sl,hd,ir,dm,wa,he⟩:=w;dsimp only at *;cases sv<;>(simp only [cWi,vcd,vca,vb8] at t1 hc;rw [vab rfl];simp (maxSteps:=3000000) -implicitDefEqProofs (disch:=try exact zd) only [go_sem,Ae,Af,ve6,vjx,cWi,h,t1,hc,At,if_false])
theorem qff {d:Nat} {ts:List ByteArray} {w w':Wd} (x:Act') (sv sv':Sv) {n:Int} (hc:cOf d ts w x sv 0) (hd:dOf (d+1) ts w x sv n w' sv'):aOf d ts w x 0 sv ⟨0,n⟩ w' sv':=by
 have t1:=vtg (d:=d+4) (ts:=ts) (w:=w) sv;unfold aOf;unfold cOf at hc;unfold dOf at hd;obtain ⟨xk,xa,xb,xc,xp,xq⟩:=x;obtain ⟨ob,du,sl,hd,ir,dm,wa,he⟩:=w;cases sv<;>cases sv'<;>(simp only [cWi,vcd,vca,vb8] at t1 hc hd;rw [vab rfl];simp (maxSteps:=3000000) -implicitDefEqProofs (disch:=try exact zd) only [go_sem,Ae,Af,ve6,vjx,cWi,t1,hc,hd,At,if_false])
theorem vsw {d:Nat} {ts:List ByteArray} {B:Nat} {w:Wd} (I:Wok ts B w) (hT:Ty23 ts) (hB:B+1<=400) (x:Act') (deny:Int) (sv:Sv) (hsv:SvR w sv):Wok ts (B+1) (actW ts w x deny).2/\∃sv',SvR (actW ts w x deny).2 sv'/\aOf d ts w x deny sv (actW ts w x deny).1 (actW ts w x deny).2 sv':=by
 have J:Wok ts (B+1) {w with dm:=w.inR}:=by
  have K:=I.up hB;exact ⟨K.b,K.bb,K.ob,K.du,K.sl,K.slr,K.hd,K.hdr,K.wa,K.wal,K.he,K.her,K.hel,λh=>h⟩
 by_cases h0:deny=0
 ·subst h0;have hc:=qex (d:=d) I hT x sv;by_cases c:codeW ts w x=0
  ·have e:actW ts w x 0=(⟨0,(effW ts w x).1⟩,(effW ts w x).2):=by
    unfold actW actC;rw [if_pos rfl,if_pos c]
   rw [e];rw [c] at hc;obtain ⟨hW,sv',hs,hd⟩:=qp7 (d:=d+1) I hT hB x sv hsv c;exact ⟨hW,sv',hs,qff x sv sv' hc hd⟩
  ·have e:actW ts w x 0=(⟨codeW ts w x,0⟩,{w with dm:=w.inR}):=by
    unfold actW actC;rw [if_pos rfl,if_neg c]
   rw [e];exact ⟨J,sv,hsv,qap x sv c hc⟩
 ·have e:actW ts w x deny=(⟨deny,0⟩,{w with dm:=w.inR}):=by
   unfold actW actC;rw [if_neg h0,if_neg h0]
  rw [e];exact ⟨J,sv,hsv,qbg x sv h0⟩
abbrev w0 (g:Gr):Wd:=⟨g.nodes,Aa g.nodes.length true,g.roots,Aa 12 0,false,false,[],[]⟩
abbrev nNw (ts:List ByteArray) (g:Gr) (L D:List PV):vcb:= [(0,some (.bx false [.sz vam (Ag eStr ts),.rf 1,.rf 2,.rf 3,.rf 4,.a (.bool false),.a (.bool false),.a (.pointer none)])),(1,some (.sl false 0 vai L)),(2,some (.sl false 0 vb3 D)),(3,some (.sl false 0 vae (Aa (Int.toNat 12) (.a (.int .i64 0))))),(4,some (.sl false 0 vae (Ag vak g.roots)))]
abbrev sNw (ts:List ByteArray) (g:Gr) (i:Nat) (L D:List PV):St:=⟨[(5,.rf 0),(16,.sz vai (Ag eObj g.nodes)),(17,.a (.int .i64 g.nodes.length)),(18,.a (.int .i64 (i:Nat)))],nNw ts g L D,5⟩
theorem qr7 {d:Nat} {ts:List ByteArray} {g:Gr} (hn:g.nodes.length<=400) (hv:∀o∈g.nodes,o.vals.length<=23):
  vbt (T (d+1)) vad [5,16,17,18] vit (sNw ts g 0 ((g.nodes.take 0).map eObj) ((Aa 0 true).map eBl))=some (.ext 0,⟨[(5,.rf 0),(16,.sz vai (Ag eObj g.nodes)),(17,.a (.int .i64 g.nodes.length)),(18,.a (.int .i64 g.nodes.length)),(19,.a (.bool false))],nNw ts g ((g.nodes.take g.nodes.length).map eObj) ((Aa g.nodes.length true).map eBl),105⟩):=by
 refine vcj (m:=g.nodes.length) (λi=>sNw ts g i ((g.nodes.take i).map eObj) ((Aa i true).map eBl)) _ (vbc zo) (λi hi=> ?_) ?_
 ·have hw:=va0 i zo;have hlt:(i:Int)<g.nodes.length:=zo
  obtain ⟨o,ho⟩:∃b,g.nodes[i]? =some b:=⟨_,Ad zo⟩
  rw [qe1 ho,vb5,List.replicate_succ',vb5];have hlen:((g.nodes.take i).map eObj).length<=400:=by simp;omega
  have hlen2:((Aa i true).map eBl).length<=400:=by simp;omega
  generalize (g.nodes.take i).map eObj=X at *;generalize (Aa i true).map eBl=Y at *;have hvl:=hv o (Ab ho);obtain ⟨t,vs⟩:=o;dsimp only at *;have hvm:(vs.map vak).length<=1000:=by simp;omega
  unfold round vit;simp -implicitDefEqProofs (disch:=try exact zd) only [go_sem,Ae,Af,hw,hlt,ho,Aq]
  (show some _=some _;kernel_rfl)
 ·have hlt:¬(g.nodes.length:Int)<g.nodes.length:=zo
  generalize (Aa g.nodes.length true).map eBl=Y at *;unfold round vit;simp -implicitDefEqProofs (disch:=try exact zd) only [go_sem,Ae,Af,hlt]
theorem qb1 {d:Nat} {ts:List ByteArray} {g:Gr} (hn:g.nodes.length<=400) (hr:g.roots.length<=1000) (hv:∀o∈g.nodes,o.vals.length<=23):vag (T (d+1)) vad vgr [.sl true vam (ts.map eStr),cGr true g]=some ([cWi false ts (w0 g) .n],[]):=by
 have key:=qr7 (d:=d) (ts:=ts) hn hv;have hr2:(g.roots.map vak).length<=1000:=by simpa using hr
 rw [List.take_length] at key;have e0:(Aa 0 true).map eBl= []:=rfl;rw [e0] at key;have e12:(Aa 12 (0:Int)).map vak=Aa (Int.toNat 12) (.a (.int .i64 0)):=rfl;unfold w0 cWi;dsimp only;rw [e12];generalize (Aa g.nodes.length true).map eBl=Y at *;rw [vab rfl];simp -implicitDefEqProofs (disch:=try exact zd) only [go_sem,Ae,Af,vgr,vqj,vaw key,At,if_false]
def denyAt (dn:List Int) (i:Nat):Int:=dn[i]?.getD 0
def plI (ts:List ByteArray) (l:List Act') (dn:List Int) (w:Wd):Nat->List Ans×Wd
 |0=>([],w)
 |i+1=>match l[i]? with
  |some x=>((plI ts l dn w i).1++ [(actW ts (plI ts l dn w i).2 x (denyAt dn i)).1],(actW ts (plI ts l dn w i).2 x (denyAt dn i)).2)
  |none=>plI ts l dn w i
theorem vpn {ts:List ByteArray} {l:List Act'} {dn:List Int} {w:Wd} {i:Nat} {x:Act'} (h:l[i]? =some x):plI ts l dn w (i+1)=((plI ts l dn w i).1++ [(actW ts (plI ts l dn w i).2 x (denyAt dn i)).1],(actW ts (plI ts l dn w i).2 x (denyAt dn i)).2):=by
 conv=>lhs;unfold plI
 rw [h]
def nPl (ts:List ByteArray) (w:Wd) (A:List PV):Sv->vcb
 | .n=> [(0,some (.bx false [.a (.int .i64 0),.rf 3,.rf 4,.rf 5,.rf 6,.rf 7,.a (.bool false),.a (.bool false),.a (.bool false),.a (.string ⟨#[]⟩),.rf 8,.a (.int .i64 0)])),(1,some (.bx false [.sz vam (Ag eStr ts),.rf 9,.rf 10,.rf 11,.rf 12,.a (.bool w.inR),.a (.bool w.dm),.a (.pointer none)])),(2,some (.bx false [.a (.int .i64 0),.rf 13,.rf 14,.rf 15,.rf 16,.rf 17,.a (.bool false),.a (.bool false),.a (.bool false),.a (.string ⟨#[]⟩),.rf 18,.a (.int .i64 0)])),(3,some (.sl false 0 vb9 [])),(4,some (.sl false 0 vae [])),(5,some (.sl false 0 vai [])),(6,some (.sl false 0 vae [])),(7,some (.sl false 0 vai [])),(8,some (.sl false 0 vfl [])),(9,some (.sl true 0 vai (Ag eObj w.ob))),(10,some (.sl true 0 vb3 (Ag eBl w.du))),(11,some (.sl true 0 vae (Ag vak w.hd))),(12,some (.sl true 0 vae (Ag vak w.sl))),(13,some (.sl false 0 vb9 A)),(14,some (.sl false 0 vae [])),(15,some (.sl false 0 vai [])),(16,some (.sl false 0 vae [])),(17,some (.sl false 0 vai [])),(18,some (.sl false 0 vfl []))]
 | .a X=> [(0,some (.bx false [.a (.int .i64 0),.rf 3,.rf 4,.rf 5,.rf 6,.rf 7,.a (.bool false),.a (.bool false),.a (.bool false),.a (.string ⟨#[]⟩),.rf 8,.a (.int .i64 0)])),(1,some (.bx false [.sz vam (Ag eStr ts),.rf 9,.rf 10,.rf 11,.rf 12,.a (.bool w.inR),.a (.bool w.dm),.rf 13])),(2,some (.bx false [.a (.int .i64 0),.rf 14,.rf 15,.rf 16,.rf 17,.rf 18,.a (.bool false),.a (.bool false),.a (.bool false),.a (.string ⟨#[]⟩),.rf 19,.a (.int .i64 0)])),(3,some (.sl false 0 vb9 [])),(4,some (.sl false 0 vae [])),(5,some (.sl false 0 vai [])),(6,some (.sl false 0 vae [])),(7,some (.sl false 0 vai [])),(8,some (.sl false 0 vfl [])),(9,some (.sl true 0 vai (Ag eObj w.ob))),(10,some (.sl true 0 vb3 (Ag eBl w.du))),(11,some (.sl true 0 vae (Ag vak w.hd))),(12,some (.sl true 0 vae (Ag vak w.sl))),(13,some (.bx false [.rf 20,.rf 21,.rf 22,.rf 23,.un,.a (.bool false),.a (.bool false),.a (.pointer none)])),(14,some (.sl false 0 vb9 A)),(15,some (.sl false 0 vae [])),(16,some (.sl false 0 vai [])),(17,some (.sl false 0 vae [])),(18,some (.sl false 0 vai [])),(19,some (.sl false 0 vfl [])),(20,some (.sl true 0 vam [])),(21,some (.sl true 0 vai X)),(22,some (.sl true 0 vb3 [])),(23,some (.sl true 0 vae []))]
 | .b X s=> [(0,some (.bx false [.a (.int .i64 0),.rf 3,.rf 4,.rf 5,.rf 6,.rf 7,.a (.bool false),.a (.bool false),.a (.bool false),.a (.string ⟨#[]⟩),.rf 8,.a (.int .i64 0)])),(1,some (.bx false [.sz vam (Ag eStr ts),.rf 9,.rf 10,.rf 11,.rf 12,.a (.bool w.inR),.a (.bool w.dm),.rf 13])),(2,some (.bx false [.a (.int .i64 0),.rf 14,.rf 15,.rf 16,.rf 17,.rf 18,.a (.bool false),.a (.bool false),.a (.bool false),.a (.string ⟨#[]⟩),.rf 19,.a (.int .i64 0)])),(3,some (.sl false 0 vb9 [])),(4,some (.sl false 0 vae [])),(5,some (.sl false 0 vai [])),(6,some (.sl false 0 vae [])),(7,some (.sl false 0 vai [])),(8,some (.sl false 0 vfl [])),(9,some (.sl true 0 vai (Ag eObj w.ob))),(10,some (.sl true 0 vb3 (Ag eBl w.du))),(11,some (.sl true 0 vae (Ag vak w.hd))),(12,some (.sl true 0 vae (Ag vak w.sl))),(13,some (.bx false [.rf 20,.rf 21,.rf 22,.rf 23,.rf 24,.a (.bool false),.a (.bool false),.a (.pointer none)])),(14,some (.sl false 0 vb9 A)),(15,some (.sl false 0 vae [])),(16,some (.sl false 0 vai [])),(17,some (.sl false 0 vae [])),(18,some (.sl false 0 vai [])),(19,some (.sl false 0 vfl [])),(20,some (.sl true 0 vam [])),(21,some (.sl true 0 vai X)),(22,some (.sl true 0 vb3 [])),(23,some (.sl true 0 vae [])),(24,some (.sl true 0 vae (Ag vak s)))]
def xPl:Sv->Nat
 | .n=>19
 | .a _=>24
 | .b _ _=>25
abbrev sPl (ts:List ByteArray) (l:List Act') (dn:List Int) (w:Wd) (A:List PV) (i:Nat) (sv:Sv):St:=⟨[(3,.sz vae (Ag vak dn)),(8,.rf 0),(9,.rf 1),(10,.rf 2),(24,.sz vdf (Ag ves l)),(25,.a (.int .i64 l.length)),(26,.a (.int .i64 (i:Nat)))],nPl ts w A sv,xPl sv⟩
theorem qfh {d:Nat} {ts:List ByteArray} {l:List Act'} {dn:List Int} {w w':Wd} (hl:l.length<=60) (hd:dn.length<=1048576) {i:Nat} {x:Act'} (hx:l[i]? =some x) {A:List PV} (hA:A.length<=60) (sv sv':Sv) {a:Ans} (h:aOf d ts w x (denyAt dn i) sv a w' sv'):
  round (T (d+6)) vad [3,8,9,10,24,25,26] vd4 (sPl ts l dn w A i sv)=some (.nrm,sPl ts l dn w' (A++ [eAns a]) (i+1) sv'):=by
 have hi:=(List.getElem?_eq_some_iff.1 hx).1;have hw:=va0 i zo;have hlt:(i:Int)<l.length:=zo
 unfold aOf at h;obtain ⟨xk,xa,xb,xc,xp,xq⟩:=x;obtain ⟨ob,du,sl,hds,ir,dm,wa,he⟩:=w;obtain ⟨ob',du',sl',hds',ir',dm',wa',he'⟩:=w';obtain ⟨ac,an⟩:=a;by_cases c:i<dn.length
 ·obtain ⟨v,hv⟩:∃v,dn[i]? =some v:=⟨_,Ad c⟩
  have e:denyAt dn i=v:=by unfold denyAt;rw [hv];rfl
  have c':(i:Int)<dn.length:=zo
  rw [e] at h;cases sv<;>cases sv'<;>
  ·simp only [cWi,cAns,vcd,vca,vb8] at h;unfold round vd4 sPl nPl xPl;simp (maxSteps:=3000000) -implicitDefEqProofs (disch:=try exact zd) only [go_sem,Ae,Af,hw,hlt,hx,c',hv,h,Aq]
   (show some _=some _;kernel_rfl)
 ·have e:denyAt dn i=0:=by unfold denyAt;rw [List.getElem?_eq_none zo];rfl
  have c':¬(i:Int)<dn.length:=zo
  rw [e] at h;cases sv<;>cases sv'<;>
  ·simp only [cWi,cAns,vcd,vca,vb8] at h;unfold round vd4 sPl nPl xPl;simp (maxSteps:=3000000) -implicitDefEqProofs (disch:=try exact zd) only [go_sem,Ae,Af,hw,hlt,hx,c',h,Aq]
   (show some _=some _;kernel_rfl)
def isW (ts:List ByteArray) (g:Gr) (l:List Act'):Bool:=decide (l.length<=60)&&(graphOk ts g&&(decide (g.roots.length=8)&&decide (g.nodes.length<=200)))
theorem qdf {d:Nat} {ts:List ByteArray} {g:Gr} (h:Small ts g) (l:List Act') (hl:l.length<=1048576):vag (T (d+7)) vad vd0 [.sl true vam (ts.map eStr),cGr true g,.sl true vdf (l.map ves)]=some ([.a (.bool (isW ts g l))],[]):=by
 have h1:=vor (d:=d) h;have hr:=h.roots;have hn:=h.nodes;unfold isW;generalize graphOk ts g=k at *;obtain ⟨rs,ns⟩:=g;dsimp only at *;by_cases c1:l.length<=60
 ·have c1':(l.length:Int)<=60:=zo
  rw [decide_eq_true c1,Au];cases k with
  |false=>rw [vab rfl];simp -implicitDefEqProofs (disch:=try exact zd) only [go_sem,Ae,Af,vd0,vhm,c1',h1]
  |true=>
   rw [Au];by_cases c2:rs.length=8
   ·have c2':(rs.length:Int)=8:=zo
    rw [decide_eq_true c2,Au];by_cases c3:ns.length<=200
    ·have c3':(ns.length:Int)<=200:=zo
     rw [decide_eq_true c3];rw [vab rfl];simp -implicitDefEqProofs (disch:=try exact zd) only [go_sem,Ae,Af,vd0,vhm,c1',h1,c2',c3']
    ·have c3':¬(ns.length:Int)<=200:=zo
     rw [decide_eq_false c3];rw [vab rfl];simp -implicitDefEqProofs (disch:=try exact zd) only [go_sem,Ae,Af,vd0,vhm,c1',h1,c2',c3']
   ·have c2':¬(rs.length:Int)=8:=zo
    rw [decide_eq_false c2,Aw];rw [vab rfl];simp -implicitDefEqProofs (disch:=try exact zd) only [go_sem,Ae,Af,vd0,vhm,c1',h1,c2']
 ·have c1':¬(l.length:Int)<=60:=zo
  rw [decide_eq_false c1,Aw];rw [vab rfl];simp -implicitDefEqProofs (disch:=try exact zd) only [go_sem,Ae,Af,vd0,vhm,c1']
abbrev ePl (ts:List ByteArray) (l:List Act') (dn:List Int) (w:Wd) (A:List PV) (sv:Sv):St:=⟨[(3,.sz vae (Ag vak dn)),(8,.rf 0),(9,.rf 1),(10,.rf 2),(24,.sz vdf (Ag ves l)),(25,.a (.int .i64 l.length)),(26,.a (.int .i64 l.length)),(27,.a (.bool false))],nPl ts w A sv,xPl sv+100⟩
theorem vne {d:Nat} {ts:List ByteArray} {B:Nat} {l:List Act'} (dn:List Int) {w:Wd} (I:Wok ts B w) (hT:Ty23 ts) (hB:B+60<=400) (hl:l.length<=60) {sv:Sv} (hs:SvR w sv):∀i,i<=l.length->Wok ts (B+i) (plI ts l dn w i).2/\(plI ts l dn w i).1.length=i
 |0,_=>⟨I,rfl⟩
 |i+1,hi=>by
  obtain ⟨J,hlen⟩:=vne (d:=d) dn I hT hB hl hs i zo;obtain ⟨x,hx⟩:∃x,l[i]? =some x:=⟨_,Ad zo⟩
  rw [vpn hx];refine ⟨?_,by dsimp only;rw [Aj,hlen];rfl⟩;by_cases hin:(plI ts l dn w i).2.inR=true
  ·exact (vsw (d:=d) J hT zo x (denyAt dn i) (.b _ _) λ_=>rfl).1
  ·exact (vsw (d:=d) J hT zo x (denyAt dn i) .n λh=>absurd h hin).1
theorem qp8 {d:Nat} {ts:List ByteArray} {B:Nat} {l:List Act'} {dn:List Int} {w:Wd} (I:Wok ts B w) (hT:Ty23 ts) (hB:B+60<=400) (hl:l.length<=60) (hd:dn.length<=1048576) (hs:SvR w .n):
  ∃e,(∃sv,SvR (plI ts l dn w l.length).2 sv/\e=ePl ts l dn (plI ts l dn w l.length).2 ((plI ts l dn w l.length).1.map eAns) sv)/\
  vbt (T (d+6)) vad [3,8,9,10,24,25,26] vd4 (sPl ts l dn w [] 0 .n)=some (.ext 0,e):=by
 refine ve5 (λr s=>∃(i:Nat) (sv:Sv),i+r=l.length/\SvR (plI ts l dn w i).2 sv/\s=sPl ts l dn (plI ts l dn w i).2 ((plI ts l dn w i).1.map eAns) i sv) 0 _ (m:=l.length) (vbc zo) ⟨0,.n,zo,hs,rfl⟩ ?_
 rintro r _ hr ⟨i,sv,hi,hsv,rfl⟩
 obtain ⟨J,hlen⟩:=vne (d:=d) (l:=l) dn I hT hB hl hs i zo;by_cases hpos:0<r
 ·left;obtain ⟨x,hx⟩:∃x,l[i]? =some x:=⟨_,Ad zo⟩
  obtain ⟨_,sv',hsv',ha⟩:=vsw (d:=d) J hT zo x (denyAt dn i) sv hsv;refine ⟨hpos,_,?_,i+1,sv',zo,?_,rfl⟩
  ·rw [vpn hx];dsimp only;rw [vb5];exact qfh hl hd hx (by rw [List.length_map,hlen];omega) sv sv' ha
  ·rw [vpn hx];exact hsv'
 ·right;obtain rfl:i=l.length:=zo
  refine ⟨_,?_,sv,hsv,rfl⟩;have hlt:¬((l.length:Nat):Int)<l.length:=zo
  generalize (plI ts l dn w l.length).2=w' at *;generalize (plI ts l dn w l.length).1.map eAns=A at *;obtain ⟨ob,du,sl,hds,ir,dm,wa,he⟩:=w';cases sv<;>
  ·unfold round vd4 sPl ePl nPl xPl;simp -implicitDefEqProofs (disch:=try exact zd) only [go_sem,Ae,Af,hlt]
abbrev cRun (code:Int) (A:List Ans) (n s:Gr) (i dm:Bool):CV:= .st [.a (.int .i64 code),.sl false vb9 (A.map eAns),.sl false vae (n.roots.map vak),.sl false vai (n.nodes.map eObj),.sl false vae (s.roots.map vak),.sl false vai (s.nodes.map eObj),.a (.bool i),.a (.bool dm),.a (.bool false),.a (.string ⟨#[]⟩),.sl false vfl [],.a (.int .i64 0)]
theorem qfc {d:Nat} {ts:List ByteArray} {w:Wd} (sv:Sv) {rs:List Int} {os:List Obj'} (R:Right ts ⟨rs,os⟩):vag (T (d+3)) vad vdb [cWi true ts w sv,.sl true vai (os.map eObj),.sl true vae (rs.map vak)]=some ([cGr false (plainG ts ⟨rs,os⟩)],[]):=by
 have h1:=vqo (d:=d) R;clear R;generalize plainG ts ⟨rs,os⟩=p at *;obtain ⟨pr,pn⟩:=p;cases sv<;>(rw [vab rfl];simp -implicitDefEqProofs (disch:=try exact zd) only [go_sem,Ae,Af,vdb,vis,cWi,h1])
theorem qfa {d:Nat} {ts:List ByteArray} {w:Wd} (X:List PV) {rs:List Int} {os:List Obj'} (R:Right ts ⟨rs,os⟩):vag (T (d+3)) vad vdb [.bx true [.sl true vam (ts.map eStr),.un,.sl true vb3 (w.du.map eBl),.sl true vae (w.hd.map vak),.sl true vae (w.sl.map vak),.a (.bool true),.a (.bool w.dm),cSa true X],.sl true vai (os.map eObj),.sl true vae (rs.map vak)]=some ([cGr false (plainG ts ⟨rs,os⟩)],[]):=by
 have h1:=vqo (d:=d) R;clear R;generalize plainG ts ⟨rs,os⟩=p at *;obtain ⟨pr,pn⟩:=p;rw [vab rfl];simp -implicitDefEqProofs (disch:=try exact zd) only [go_sem,Ae,Af,vdb,vis,h1]
theorem qfb {d:Nat} {ts:List ByteArray} {w:Wd} (sv:Sv) {rs:List Int} {os:List Obj'} (R:Right ts ⟨rs,os⟩):vag (T (d+3)) vad vdb [.bx true [.sl true vam (ts.map eStr),.un,.sl true vb3 (w.du.map eBl),.sl true vae (w.hd.map vak),.un,.a (.bool false),.a (.bool w.dm),cSv true sv],.sl true vai (os.map eObj),.sl true vae (rs.map vak)]=some ([cGr false (plainG ts ⟨rs,os⟩)],[]):=by
 have h1:=vqo (d:=d) R;clear R;generalize plainG ts ⟨rs,os⟩=p at *;obtain ⟨pr,pn⟩:=p;cases sv<;>(rw [vab rfl];simp -implicitDefEqProofs (disch:=try exact zd) only [go_sem,Ae,Af,vdb,vis,h1])
theorem vxl {s:ByteArray} {j:Nat} (h:kAt s j=114):refAt s j=true:=by
 unfold kAt at h;unfold refAt;cases hb:(ch s)[j]? with
 |none=>rw [hb] at h;exact absurd h (by decide)
 |some b=>
  rw [hb,Ai] at h;exact decide_eq_true zo
theorem vvm {ts:List ByteArray} {B:Nat} {w:Wd} (I:Wok ts B w) (hT:Ty23 ts) {rs:List Int} {os:List Obj'} (hr:Rin w.ob.length rs) (hl:rs.length<=1000) (ho:∀o∈os,ObOk ts w.ob.length o) (hn:os.length=w.ob.length):Right ts ⟨rs,os⟩:=by
 have hb:=I.b;have hbb:=I.bb;refine ⟨⟨by have:=hT.n1;omega,λs hs=>by have:=hT.z s hs;omega,by show rs.length<=1048576;omega,by show os.length<=1048576;omega,λo h=> ?_⟩,by show os.length<=400;omega,hl,λv hv=>by show 0<=v/\v<=(os.length:Int);rw [hn];exact hr v hv,λo h=> ?_,hT.n1⟩
 ·obtain ⟨s,g1,_,g3,_⟩:=ho o h;have:=hT.z s (Ab g1);omega
 ·obtain ⟨s,g1,g2,g3,g4⟩:=ho o h;refine ⟨o.ty.toNat,s,zo,g1,g3,hT.z0 s (Ab g1),hT.z s (Ab g1),λj v hv hr=>by show 0<=v/\v<=(os.length:Int);rw [hn];exact g4 j v hv (vrh hr)⟩
theorem vuy {ts:List ByteArray} {g:Gr} (h:graphOk ts g=true):Ty23 ts:=by
 unfold graphOk vgx at h;simp only [An,decide_eq_true_eq,List.all_eq_true] at h;have ht:=h.1;refine ⟨ht.1.1,ht.1.2,λs hs=> ?_,λs hs=> ?_⟩
 ·have:=ht.2 s hs;unfold okType at this;simp only [An,decide_eq_true_eq] at this;exact this.1.2
 ·have:=ht.2 s hs;unfold okType at this;simp only [An,decide_eq_true_eq] at this;exact this.1.1
theorem vwv {ts:List ByteArray} {g:Gr} (hs:Small ts g) (h:graphOk ts g=true) (h8:g.roots.length=8) (hn:g.nodes.length<=200):Wok ts 200 (w0 g):=by
 have R:=Right.of hs h;refine ⟨hn,by decide,λo ho=> ?_,Ak,h8,R.roots,Ak,λv hv=>by rw [(Al.1 hv).2];omega,λ_ h=>(by cases h),Am _,λh=>(by cases h),λ_ h=>(by cases h),Am _,λh=>(by cases h)⟩;obtain ⟨t,s,g1,g2,g3,g4,g5,g6⟩:=R.obj o ho;exact ⟨s,by rw [g1,Ac];exact g2,zo,g3,λj v hv hk=>g6 j v hv (vxl hk)⟩
abbrev nowG (w:Wd):Gr:=⟨w.hd++w.sl,w.ob⟩
abbrev safeG (w:Wd):Gr:=if w.inR then ⟨w.he,backO w⟩ else ⟨w.sl,w.ob⟩
theorem Wok.now {ts:List ByteArray} {B:Nat} {w:Wd} (I:Wok ts B w) (hT:Ty23 ts):Right ts (nowG w):=
 vvm I hT (λv hv=>by rcases Ao.1 hv with h|h;exact I.hdr v h;exact I.slr v h) (by rw [Aj,I.hd,I.sl];decide) I.ob rfl
theorem Wok.safe {ts:List ByteArray} {B:Nat} {w:Wd} (I:Wok ts B w) (hT:Ty23 ts) (hi:w.inR=true):Right ts ⟨w.he,backO w⟩:=
 vvm I hT I.her (by have:=I.hel;omega) (λo ho=>by rcases vrz ho with h|h;exact I.ob o h;exact I.wa o h) (vhg w _)
theorem Wok.safe0 {ts:List ByteArray} {B:Nat} {w:Wd} (I:Wok ts B w) (hT:Ty23 ts):Right ts ⟨w.sl,w.ob⟩:=
 vvm I hT I.slr (by rw [I.sl];decide) I.ob rfl
theorem qk4 {d:Nat} {ts:List ByteArray} {g:Gr} {l:List Act'} {dn:List Int} (hw:vag (T (d+8)) vad vd0 [.sl true vam (ts.map eStr),cGr true g,.sl true vdf (l.map ves)]=some ([.a (.bool true)],[]))
  (hn:vag (T (d+8)) vad vgr [.sl true vam (ts.map eStr),cGr true g]=some ([cWi false ts (w0 g) .n],[])) {B:Nat} {w:Wd} (I:Wok ts B w) (hT:Ty23 ts) (sv:Sv) (hsv:SvR w sv) {A:List Ans} (hA:A.length<=60)
  (key:vbt (T (d+9)) vad [3,8,9,10,24,25,26] vd4 (sPl ts l dn (w0 g) [] 0 .n)=some (.ext 0,ePl ts l dn w (A.map eAns) sv)):
  vag (T (d+9)) vad vdy [.sl true vam (ts.map eStr),cGr true g,.sl true vdf (l.map ves),.sl true vae (dn.map vak)]=some ([cRun 0 A (plainG ts (nowG w)) (plainG ts (safeG w)) w.inR w.dm],[]):=by
 have h1:=qfc (d:=d+5) (w:=w) (thSv sv) (I.now hT);have hl1:=I.hd;have hl2:(w.hd.map vak).length=12:=by simpa using hl1
 have hl3:=I.sl;have hl4:(w.sl.map vak).length=8:=by simpa using hl3
 rw [List.map_append] at h1;unfold nowG;generalize hP:plainG ts ⟨w.hd++w.sl,w.ob⟩=P at *;obtain ⟨pr,pn⟩:=P;simp only [cWi,vcd] at hn;cases hi:w.inR with
 |true=>
  obtain rfl:=hsv hi;obtain ⟨X,h2⟩:=vu7 (d:=d+7) (ts:=ts) (by have:=I.b;have:=I.bb;omega) I.du I.wal hi;have h3:=qfa (d:=d+5) (w:=w) (X.map PV.thaw) (I.safe hT hi);unfold safeG;rw [hi,if_pos rfl];generalize hS:plainG ts ⟨w.he,backO w⟩=S at *;obtain ⟨sr,sn⟩:=S;generalize backO w=O at *;clear hP hS I hT hsv;obtain ⟨ob,du,sl,hds,ir,dm,wa,he⟩:=w;dsimp only at *;subst hi;simp only [cWi,vla,vb8,zfm] at h1 h2;rw [vab rfl];simp (maxSteps:=3000000) -implicitDefEqProofs (disch:=try exact zd) only [go_sem,Ae,Af,vdy,vjz,hw,hn,vaw key,h1,h2,h3,nPl,xPl]
 |false=>
  have h2:=vuk (d:=d+7) (ts:=ts) sv hi;have h3:=qfb (d:=d+5) (w:=w) (thSv sv) (I.safe0 hT);unfold safeG;rw [hi,if_neg (by simp)];generalize hS:plainG ts ⟨w.sl,w.ob⟩=S at *;obtain ⟨sr,sn⟩:=S;clear hP hS I hT hsv;obtain ⟨ob,du,sl,hds,ir,dm,wa,he⟩:=w;dsimp only at *;subst hi;cases sv<;>
  ·simp only [cWi,vmb,vmk,vla,vcd,vca,vb8] at h1 h2 h3;rw [vab rfl];simp (maxSteps:=3000000) -implicitDefEqProofs (disch:=try exact zd) only [go_sem,Ae,Af,vdy,vjz,hw,hn,vaw key,h1,h2,h3,nPl,xPl]
def wpC (ts:List ByteArray) (g:Gr) (l:List Act') (dn:List Int):CV:=
 if isW ts g l then cRun 0 (plI ts l dn (w0 g) l.length).1 (plainG ts (nowG (plI ts l dn (w0 g) l.length).2)) (plainG ts (safeG (plI ts l dn (w0 g) l.length).2)) (plI ts l dn (w0 g) l.length).2.inR (plI ts l dn (w0 g) l.length).2.dm
 else cRun 1 [] ⟨[],[]⟩ ⟨[],[]⟩ false false
theorem voz {ts:List ByteArray} {g:Gr} {l:List Act'} (h:isW ts g l=true):l.length<=60/\graphOk ts g=true/\g.roots.length=8/\g.nodes.length<=200:=by
 unfold isW at h;simp only [An,decide_eq_true_eq] at h;exact ⟨h.1,h.2.1,h.2.2.1,h.2.2.2⟩
theorem vt6 {d:Nat} {ts:List ByteArray} {g:Gr} (h:Small ts g) (l:List Act') (dn:List Int) (hl:l.length<=1048576) (hd:dn.length<=1048576):
  vag (T (d+9)) vad vdy [.sl true vam (ts.map eStr),cGr true g,.sl true vdf (l.map ves),.sl true vae (dn.map vak)]=some ([wpC ts g l dn],[]):=by
 have hw:=qdf (d:=d+1) h l hl;unfold wpC;cases hi:isW ts g l with
 |false=>
  rw [hi] at hw;rw [if_neg (by simp)];rw [vab rfl];simp -implicitDefEqProofs (disch:=try exact zd) only [go_sem,Ae,Af,vdy,vjz,hw];rfl
 |true=>
  rw [hi] at hw;rw [if_pos rfl];obtain ⟨h1,h2,h3,h4⟩:=voz hi;have hT:=vuy h2;have I:=vwv h h2 h3 h4;have hn:=qb1 (d:=d+7) (ts:=ts) (g:=g) zo zo λo ho=>by
   obtain ⟨s,g1,_,g3,_⟩:=I.ob o ho;have:=hT.z s (Ab g1);omega
  obtain ⟨_,⟨sv,hsv,rfl⟩,key⟩:=qp8 (d:=d+3) (l:=l) (dn:=dn) I hT (by decide) h1 hd (λh=>by cases h);obtain ⟨J,hA⟩:=vne (d:=d) (sv:= .n) dn I hT (by decide) h1 (λh=>by cases h) l.length (Ar _);exact qk4 hw hn J hT sv hsv zo key
