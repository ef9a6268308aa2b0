/- Worlds of the reference: what becomes durable. Worlds of the reference: acts. Drawn handles and places in a world. Drawn acts in a world. -/
import Derived.Test.YtkidnhclcbcglaaGreatLawW
import Derived.Test.YtkidnhclcbcglaaGreatLawG
open Nat renaming reduceAdd->Aa,reduceBEq->Ab,le_succ->Aj,zero_add->Ak,add_zero->Al,le_refl->Ao
open List renaming getElem?_eq_getElem->Ac,length_append->Ad,length_map->Ae,mem_of_getElem?->Af,length_drop->Ah,nil_append->Ai,map_append->Am,length_set->An,drop->Ap
open Go.IntKind renaming i64->Ag
namespace Go.Proofs.YtkidnhclcbcglaaGreat.VM
open Go Sy
variable {Φ:Nat→Option Callee} {N:Nat}
set_option maxRecDepth 100000
set_option maxHeartbeats 8000000
abbrev nSp (ts:List ByteArray) (w:Wd) (E:List Int):vb5:=(0,bWd w 2)::(1,some (.sl false 0 vam (E.map vap)))::nWd 2 ts w (w.wa.map eObj)
theorem Rin.app {n:Nat} {a b:List Int} (h:Rin n a) (h2:Rin n b):Rin n (a++b):=fun x hx=>by
 rcases List.mem_append.1 hx with h3|h3
 ·exact h x h3
 ·exact h2 x h3
theorem Rin.drop {n:Nat} {a:List Int} (h:Rin n a) (k:Nat):Rin n (a.drop k):=fun x hx=>h x (List.mem_of_mem_drop hx)
theorem qmm {d:Nat} {ts:List ByteArray} {B:Nat} {w:Wd} (I:Wok ts B w) (hT:Ty23 ts):∃e,(∃E:List Int,Rin w.ob.length E∧E.length≤8+23 * w.ob.length∧e=⟨[(0,.rf 0),(2,.rf 1),(3,.a (.int .i64 (w.ob.length:Nat))),(17,.a (.bool false)),(10000,.rf 0)],nSp ts w E,709⟩)∧
  va7 (T (d+1)) vad [0,2,3,10000] vfb ⟨[(0,.rf 0),(2,.rf 1),(3,.a (.int .i64 (0:Nat))),(10000,.rf 0)],nSp ts w w.sl,9⟩=some (.ext 0,e):=by
 have hbb:=I.bb;have hb:=I.b;have hdul:=I.du;refine vdk (fun r s=>∃(i:Nat) (E:List Int),i+r=w.ob.length∧Rin w.ob.length E∧E.length≤8+23 * i∧s=⟨[(0,.rf 0),(2,.rf 1),(3,.a (.int .i64 (i:Nat))),(10000,.rf 0)],nSp ts w E,9⟩) 0 _ (m:=w.ob.length) (vay zo) ⟨0,w.sl,by omega,I.slr,by have:=I.sl;omega,rfl⟩ ?_
 rintro r _ hr ⟨i,E,hi,hE,hEl,rfl⟩
 by_cases hpos:0<r
 ·left;have hw:=vat i zo;have hlt:(i:Int)<w.ob.length:=by omega
  obtain ⟨u,hu⟩:∃b,w.du[i]? =some b:=⟨_,Ac zo⟩
  have h1:i<w.du.length:=by omega
  cases u with
  |false=>
   refine ⟨hpos,_,?_,i+1,E,by omega,hE,by omega,rfl⟩;clear I;obtain ⟨ob,du,sl,hs,ir,dm,wa,he⟩:=w;dsimp only at *;unfold round nSp nWd vfb;dsimp only at *;simp -implicitDefEqProofs (disch:=first|exact zd|fail) only [go_sem,Aa,Ab,hu,hw,hlt]
   (show some _=some _;kernel_rfl)
  |true=>
   obtain ⟨out,hR,hl,h2⟩:=qb5 (d:=d) I hT (m:=i) zo;refine ⟨hpos,_,?_,i+1,E++out,by omega,hE.app hR,by rw [Ad];omega,rfl⟩;clear I;have z1:(E.map vap).length≤100000:=by rw [Ae];omega
   have z2:(out.map vap).length≤100000:=by rw [Ae];omega
   obtain ⟨ob,du,sl,hs,ir,dm,wa,he⟩:=w;dsimp only at *;unfold round nSp nWd vfb;dsimp only at *;rw [Am];simp -implicitDefEqProofs (disch:=first|exact zd|fail) only [go_sem,Aa,Ab,hu,hw,hlt,h2]
   (show some _=some _;kernel_rfl)
 ·right;obtain rfl:i=w.ob.length:=by omega
  have hlt:¬((w.ob.length:Nat):Int)<w.ob.length:=by omega
  refine ⟨_,?_,E,hE,hEl,rfl⟩;clear I;obtain ⟨ob,du,sl,hs,ir,dm,wa,he⟩:=w;dsimp only at *;unfold round nSp nWd vfb;simp -implicitDefEqProofs (disch:=first|exact zd|fail) only [go_sem,Aa,Ab,hlt]
def cnF:List Bool→Nat
 | []=>0
 |b::l=>(if b=true then 0 else 1)+cnF l
theorem qdz:∀l:List Bool,cnF l≤l.length
 | []=>by simp [cnF]
 |b::l=>by have:=qdz l;unfold cnF;rw [List.length_cons];split<;>omega
theorem qhi:∀{l:List Bool} {m:Nat},l[m]? =some false→cnF (l.set m true)+1=cnF l
 |b::l,0,h=>by simp at h;subst h;simp [cnF];omega
 |b::l,m+1,h=>by
  have:=qhi (l:=l) (m:=m) (by simpa using h);rw [List.set_cons_succ];unfold cnF;omega
def Part (E:List Int) (lo:Nat) (t:TV):Prop:=lo≤E.length∧((t= .rf 1∧lo=0)∨t= .sb 1 lo (E.length-lo))
theorem qlw {d:Nat} {ts:List ByteArray} {B:Nat} {w:Wd} (I:Wok ts B w) (hT:Ty23 ts) (E0:List Int) (hE0:Rin w.ob.length E0) (hE1:E0.length≤8+23 * w.ob.length):∃e,(∃(D:List Bool) (E:List Int) (tv:TV),Wok ts B {w with du:=D}∧Part E E.length tv∧e=⟨[(0,.rf 0),(2,tv),(34,.a (.bool false)),(10000,.rf 0)],nSp ts {w with du:=D} E,309⟩)∧
  va7 (T (d+1)) vad [0,2,10000] vdc ⟨[(0,.rf 0),(2,.rf 1),(10000,.rf 0)],nSp ts w E0,9⟩=some (.ext 2,e):=by
 have hbb:=I.bb;have hb:=I.b;have hcn:=qdz w.du;have hdul:=I.du;refine vdk (fun r s=>∃(D:List Bool) (E:List Int) (lo:Nat) (tv:TV),Wok ts B {w with du:=D}∧Rin w.ob.length E∧Part E lo tv∧E.length≤100000∧(E.length-lo)+24 * cnF D≤r∧s=⟨[(0,.rf 0),(2,tv),(10000,.rf 0)],nSp ts {w with du:=D} E,9⟩) 2 _ (m:=100000) (vay zo) ⟨w.du,E0,0,.rf 1,I,hE0,⟨by omega,.inl ⟨rfl,rfl⟩⟩,by omega,by omega,rfl⟩ ?_
 rintro r _ hr ⟨D,E,lo,tv,J,hE,⟨hlo,hP⟩,hEl,hm,rfl⟩
 have hDl:=J.du;dsimp only at hDl;have n0:Int.toNat 0=0:=rfl;have n1:Int.toNat 1=1:=rfl;have zE:(List.take (E.length-lo) (Ap lo (E.map vap))).length=E.length-lo:=by simp
 have e0:Ag.wrap (0-1)= -1:=by rw [vai]<;>omega
 have e9:(-1:Int)<0:=by omega
 by_cases hlt:lo<E.length
 ·left;obtain ⟨x,hx⟩:∃b,E[lo]? =some b:=⟨_,Ac hlt⟩
  have hxr:=hE.get hx;have hgt:((E.length-lo:Nat):Int)>0:=by omega
  have s1:(((E.length-lo:Nat):Int)-1).toNat=E.length-(lo+1):=by omega
  have s2:((E.length:Int)-1).toNat=E.length-(0+1):=by omega
  have hz:∃(D':List Bool) (E':List Int) (lo':Nat) (tv':TV),(Wok ts B {w with du:=D'}∧Rin w.ob.length E'∧Part E' lo' tv'∧E'.length≤100000∧(E'.length-lo')+24 * cnF D'≤r-1)∧round (T (d+1)) vad [0,2,10000] vdc ⟨[(0,.rf 0),(2,tv),(10000,.rf 0)],nSp ts {w with du:=D} E,9⟩=some (.nrm,⟨[(0,.rf 0),(2,tv'),(10000,.rf 0)],nSp ts {w with du:=D'} E',9⟩):=by
   by_cases x0:x=0
   ·subst x0;refine ⟨D,E,lo+1,.sb 1 (lo+1) (E.length-(lo+1)),⟨J,hE,⟨by omega,.inr rfl⟩,hEl,by omega⟩,?_⟩;clear I J;obtain ⟨ob,du,sl,hs,ir,dm,wa,he⟩:=w;unfold round nSp nWd vdc;dsimp only at *;rcases hP with ⟨rfl,rfl⟩|rfl
    ·have hgt':(E.length:Int)>0:=by omega
     simp -implicitDefEqProofs (disch:=first|exact zd|fail) only [go_sem,Aa,Ab,n0,n1,hx,hgt',e0,s2,Ak]
     (show some _=some _;kernel_rfl)
    ·simp -implicitDefEqProofs (disch:=first|exact zd|fail) only [go_sem,Aa,Ab,zE,n0,n1,hx,hgt,e0,s1,Al]
     (show some _=some _;kernel_rfl)
   ·obtain ⟨m,rfl⟩:∃m:Nat,x=(m:Int)+1:=⟨(x-1).toNat,by omega⟩
    have e1:Ag.wrap ((m:Int)+1-1)=(m:Nat):=by rw [vai]<;>omega
    have hmn:¬((m:Nat):Int)<0:=by omega
    have hmD:m<D.length:=by omega
    obtain ⟨u,hu⟩:∃b,D[m]? =some b:=⟨_,Ac hmD⟩
    cases u with
    |true=>
     refine ⟨D,E,lo+1,.sb 1 (lo+1) (E.length-(lo+1)),⟨J,hE,⟨by omega,.inr rfl⟩,hEl,by omega⟩,?_⟩;clear I J;obtain ⟨ob,du,sl,hs,ir,dm,wa,he⟩:=w;unfold round nSp nWd vdc;dsimp only at *;rcases hP with ⟨rfl,rfl⟩|rfl
     ·have hgt':(E.length:Int)>0:=by omega
      simp -implicitDefEqProofs (disch:=first|exact zd|fail) only [go_sem,Aa,Ab,n0,n1,hx,hgt',e1,hmn,hu,s2,Ak]
      (show some _=some _;kernel_rfl)
     ·simp -implicitDefEqProofs (disch:=first|exact zd|fail) only [go_sem,Aa,Ab,zE,n0,n1,hx,hgt,e1,hmn,hu,s1,Al]
      (show some _=some _;kernel_rfl)
    |false=>
     have hc:=qhi hu;have J':Wok ts B {w with du:=D.set m true}:=⟨J.b,J.bb,J.ob,by rw [An];exact J.du,J.sl,J.slr,J.hd,J.hdr,J.wa,J.wal,J.he,J.her,J.hel⟩
     obtain ⟨out,hR,hl,h2⟩:=qb5 (d:=d) J' hT (m:=m) (by show m<w.ob.length;omega);have hcl:=qdz D;refine ⟨D.set m true,E.drop (lo+1)++out,0,.rf 1,⟨J',(hE.drop _).app hR,⟨by omega,.inl ⟨rfl,rfl⟩⟩,by rw [Ad,Ah];omega,by rw [Ad,Ah];omega⟩,?_⟩;have z1:((E.map vap).drop (lo+1)).length≤100000:=by rw [Ah,Ae];omega
     have z2:(out.map vap).length≤100000:=by rw [Ae];omega
     have hlo1:lo+1≤E.length:=hlt;have hds:(D.map eBl).set m (.a (.bool true))=(D.set m true).map eBl:=(List.map_set (f:=eBl)).symm;clear J';clear I J;obtain ⟨ob,du,sl,hs,ir,dm,wa,he⟩:=w;unfold round nSp nWd vdc;dsimp only at *;rw [Am,List.map_drop];rcases hP with ⟨rfl,rfl⟩|rfl
     ·have hgt':(E.length:Int)>0:=by omega
      have z1':(Ap 1 (E.map vap)).length≤100000:=z1;simp -implicitDefEqProofs (disch:=first|exact zd|fail) only [go_sem,Aa,Ab,n0,n1,hx,hgt',e1,hmn,hu,hds,s2,Ak,h2]
      (show some _=some _;kernel_rfl)
     ·simp -implicitDefEqProofs (disch:=first|exact zd|fail) only [go_sem,Aa,Ab,zE,n0,n1,hx,hgt,e1,hmn,hu,hds,s1,Al,h2]
      (show some _=some _;kernel_rfl)
  obtain ⟨D',E',lo',tv',⟨h1,h2,h3,h4,h5⟩,h6⟩:=hz;exact ⟨by omega,_,h6,D',E',lo',tv',h1,h2,h3,h4,h5,rfl⟩
 ·right;obtain rfl:lo=E.length:=by omega
  have hle:¬((E.length-E.length:Nat):Int)>0:=by omega
  refine ⟨_,?_,D,E,tv,J,⟨by omega,hP⟩,rfl⟩;clear I J;obtain ⟨ob,du,sl,hs,ir,dm,wa,he⟩:=w;unfold round nSp nWd vdc;dsimp only at *;rcases hP with ⟨rfl,h0⟩|rfl
  ·have hle':¬((E.length:Nat):Int)>0:=by omega
   simp -implicitDefEqProofs (disch:=first|exact zd|fail) only [go_sem,Aa,Ab,hle']
  ·simp -implicitDefEqProofs (disch:=first|exact zd|fail) only [go_sem,Aa,Ab,zE,hle]
theorem qjc {d:Nat} {ts:List ByteArray} {B:Nat} {w:Wd} (I:Wok ts B w) (hT:Ty23 ts):∃w':Wd,Wok ts B w'∧vaf (T (d+1)) vad vd1 [cWd false ts w]=some ([],[cWd false ts w']):=by
 obtain ⟨_,⟨E0,h1,h2,rfl⟩,k0⟩:=qmm (d:=d) I hT;obtain ⟨_,⟨D,E,tv,J,⟨_,hP⟩,rfl⟩,k1⟩:=qlw (d:=d) I hT E0 h1 h2;refine ⟨_,J,?_⟩;have z1:w.sl.length≤100000:=by rw [I.sl];omega
 clear I J;rw [vag rfl];obtain ⟨ob,du,sl,hs,ir,dm,wa,he⟩:=w;unfold nSp nWd at k0 k1;dsimp only at *;rcases hP with ⟨rfl,h0⟩|rfl
 ·simp -implicitDefEqProofs (disch:=first|exact zd|fail) only [go_sem,Aa,Ab,vd1,vkz,Ai,vao k0,vao k1]
 ·simp -implicitDefEqProofs (disch:=first|exact zd|fail) only [go_sem,Aa,Ab,vd1,vkz,Ai,vao k0,vao k1]
theorem Wok.over {ts:List ByteArray} {B:Nat} {w:Wd} (I:Wok ts B w):Wok ts B ⟨w.ob,w.du,w.sl,w.hd,false,false,[],[]⟩:=
 ⟨I.b,I.bb,I.ob,I.du,I.sl,I.slr,I.hd,I.hdr,fun _ h=>(by cases h),by simp,fun h=>(by cases h),fun _ h=>(by cases h),by simp⟩
theorem Wok.begin {ts:List ByteArray} {B:Nat} {w:Wd} (I:Wok ts B w):Wok ts B ⟨w.ob,w.du,w.sl,w.hd,true,w.dm,w.ob,w.sl⟩:=
 ⟨I.b,I.bb,I.ob,I.du,I.sl,I.slr,I.hd,I.hdr,I.ob,Ao _,fun _=>I.sl,I.slr,by rw [I.sl];exact Ao _⟩
theorem Wok.slot {ts:List ByteArray} {B:Nat} {w:Wd} (I:Wok ts B w) (n:Nat) {r:Int} (hr:0≤r∧r≤(w.ob.length:Int)):Wok ts B {w with sl:=w.sl.set n r}:=
 ⟨I.b,I.bb,I.ob,I.du,by rw [An];exact I.sl,I.slr.set n hr,I.hd,I.hdr,I.wa,I.wal,I.he,I.her,I.hel⟩
theorem Wok.vl {ts:List ByteArray} {B:Nat} {w:Wd} (I:Wok ts B w) (hT:Ty23 ts):∀o∈w.ob,o.vals.length≤1048576:=fun o ho=>by
 obtain ⟨s,h1,_,h3,_⟩:=I.ob o ho;have:=hT.z s (Af h1);omega
theorem qgc {d:Nat} {ts:List ByteArray} {B:Nat} {w:Wd} (I:Wok ts B w) (hT:Ty23 ts) (x:Act') (hk:10≤x.kind∧x.kind≤14):∃(a b:Int) (w':Wd),Wok ts B w'∧
  vaf (T (d+3)) vad vbb [cWd false ts w,cAct true x]=some ([.a (.int .i64 a),.a (.int .i64 b)],[cWd false ts w']):=by
 have hb:=I.b;have hbb:=I.bb;have hsl:=I.sl;by_cases k10:x.kind=10
 ·by_cases hin:w.inR=true
  ·refine ⟨6,0,w,I,?_⟩;rw [vag rfl];obtain ⟨xk,xa,xb,xc,xp,xq⟩:=x;obtain ⟨ob,du,sl,hs,ir,dm,wa,he⟩:=w;dsimp only at *;subst hin;simp -implicitDefEqProofs (disch:=first|exact zd|fail) only [go_sem,Aa,Ab,vbb,vbv,k10]
  ·have h1:=vxk (Φ:=T (d+2)) w.ob zo (I.vl hT);have z1:w.sl.length≤100000:=by omega
   refine ⟨0,0,_,I.begin,?_⟩;rw [vag rfl];obtain ⟨xk,xa,xb,xc,xp,xq⟩:=x;obtain ⟨ob,du,sl,hs,ir,dm,wa,he⟩:=w;dsimp only at *;obtain rfl:ir=false:=by cases ir<;>simp_all
   simp -implicitDefEqProofs (disch:=first|exact zd|fail) only [go_sem,Aa,Ab,vbb,vbv,k10,h1,Ai];done
 ·by_cases k12:x.kind=12
  ·have h1:=vd0 (Φ:=T (d+2)) (N:=vad) (n:=x.a) (lo:=0) (hi:=7);by_cases c1:0≤x.a∧x.a≤7
   ·rw [decide_eq_true c1] at h1;obtain ⟨n,hn⟩:∃n:Nat,x.a=n:=⟨x.a.toNat,by omega⟩
    obtain ⟨v,hv⟩:∃v,w.sl[n]? =some v:=⟨_,Ac zo⟩
    obtain ⟨a,b,hs',I',h2⟩:=qd3 (d:=d) I (I.slr.get hv);refine ⟨a,b,_,I',?_⟩;have hn8:n<8:=by omega
    rw [vag rfl];obtain ⟨xk,xa,xb,xc,xp,xq⟩:=x;obtain ⟨ob,du,sl,hs,ir,dm,wa,he⟩:=w;dsimp only at *;subst hn;simp -implicitDefEqProofs (disch:=first|exact zd|fail) only [go_sem,Aa,Ab,vbb,vbv,k12,h1,hv,h2]
   ·rw [decide_eq_false c1] at h1;refine ⟨8,0,w,I,?_⟩;rw [vag rfl];obtain ⟨xk,xa,xb,xc,xp,xq⟩:=x;obtain ⟨ob,du,sl,hs,ir,dm,wa,he⟩:=w;dsimp only at *;simp -implicitDefEqProofs (disch:=first|exact zd|fail) only [go_sem,Aa,Ab,vbb,vbv,k12,h1]
  ·by_cases k11:x.kind=11
   ·have h1:=vd0 (Φ:=T (d+2)) (N:=vad) (n:=x.a) (lo:=0) (hi:=7);by_cases c1:0≤x.a∧x.a≤7
    ·rw [decide_eq_true c1] at h1;obtain ⟨n,hn⟩:∃n:Nat,x.a=n:=⟨x.a.toNat,by omega⟩
     obtain ⟨v,hv⟩:∃v,w.sl[n]? =some v:=⟨_,Ac zo⟩
     have hn8:n<8:=by omega
     have h3:=vmp (d:=d+1) (ts:=ts) I.hd x.b;by_cases hbad:x.b≠-1∧usedW w x.b=false
     ·obtain ⟨b1,b2⟩:=hbad;rw [b2] at h3;refine ⟨2,0,w,I,?_⟩;rw [vag rfl];obtain ⟨xk,xa,xb,xc,xp,xq⟩:=x;obtain ⟨ob,du,sl,hs,ir,dm,wa,he⟩:=w;dsimp only at *;subst hn;simp -implicitDefEqProofs (disch:=first|exact zd|fail) only [go_sem,Aa,Ab,vbb,vbv,k11,h1,b1,h3]
     ·have hB11:x.b≤11:=by
       by_cases b1:x.b= -1
       ·omega
       ·obtain ⟨q,_,h1,h2,_⟩:=vpf I (h:=x.b) (by cases hu:usedW w x.b;exact absurd ⟨b1,hu⟩ hbad;rfl);omega
      have h2:=qfo (d:=d+2) (ts:=ts) I.hd x.b hB11;have hr:=qgw I x.b;have hgo:¬x.b≠-1∨x.b≠-1∧usedW w x.b=true:=by
       by_cases b1:x.b≠-1
       ·exact .inr ⟨b1,by cases hu:usedW w x.b;exact absurd ⟨b1,hu⟩ hbad;rfl⟩
       ·exact .inl b1
      generalize hy:(if x.b<0 then 0 else hAt w x.b)=y at *;by_cases hin:w.inR=true
      ·refine ⟨0,0,_,I.slot n hr,?_⟩;rw [vag rfl];obtain ⟨xk,xa,xb,xc,xp,xq⟩:=x;obtain ⟨ob,du,sl,hs,ir,dm,wa,he⟩:=w;dsimp only at *;subst hn hin;rcases hgo with b1|⟨b1,b2⟩
       ·simp -implicitDefEqProofs (disch:=first|exact zd|fail) only [go_sem,Aa,Ab,vbb,vbv,k11,h1,b1,h2,hv]
       ·rw [b2] at h3;simp -implicitDefEqProofs (disch:=first|exact zd|fail) only [go_sem,Aa,Ab,vbb,vbv,k11,h1,b1,h3,h2,hv]
      ·refine ⟨6,0,w,I,?_⟩;rw [vag rfl];obtain ⟨xk,xa,xb,xc,xp,xq⟩:=x;obtain ⟨ob,du,sl,hs,ir,dm,wa,he⟩:=w;dsimp only at *;obtain rfl:ir=false:=by cases ir<;>simp_all
       subst hn;rcases hgo with b1|⟨b1,b2⟩
       ·simp -implicitDefEqProofs (disch:=first|exact zd|fail) only [go_sem,Aa,Ab,vbb,vbv,k11,h1,b1]
       ·rw [b2] at h3;simp -implicitDefEqProofs (disch:=first|exact zd|fail) only [go_sem,Aa,Ab,vbb,vbv,k11,h1,b1,h3]
    ·rw [decide_eq_false c1] at h1;refine ⟨8,0,w,I,?_⟩;rw [vag rfl];obtain ⟨xk,xa,xb,xc,xp,xq⟩:=x;obtain ⟨ob,du,sl,hs,ir,dm,wa,he⟩:=w;dsimp only at *;simp -implicitDefEqProofs (disch:=first|exact zd|fail) only [go_sem,Aa,Ab,vbb,vbv,k11,h1]
   ·by_cases hin:w.inR=true
    ·by_cases k13:x.kind=13
     ·obtain ⟨w',I',h2⟩:=qjc (d:=d+1) I hT;have h3:=qn7 (d:=d+2) (ts:=ts) (w:=w');refine ⟨0,0,_,I'.over,?_⟩;rw [vag rfl];obtain ⟨xk,xa,xb,xc,xp,xq⟩:=x;obtain ⟨ob,du,sl,hs,ir,dm,wa,he⟩:=w;dsimp only at *;subst hin;simp -implicitDefEqProofs (disch:=first|exact zd|fail) only [go_sem,Aa,Ab,vbb,vbv,k13,h2,h3];rfl
     ·obtain ⟨w',I',h2⟩:=qfg (d:=d+1) I hin;refine ⟨0,0,_,I',?_⟩;rw [vag rfl];obtain ⟨xk,xa,xb,xc,xp,xq⟩:=x;obtain ⟨ob,du,sl,hs,ir,dm,wa,he⟩:=w;dsimp only at *;subst hin;simp -implicitDefEqProofs (disch:=first|exact zd|fail) only [go_sem,Aa,Ab,vbb,vbv,k10,k11,k12,k13,h2]
    ·refine ⟨6,0,w,I,?_⟩;rw [vag rfl];obtain ⟨xk,xa,xb,xc,xp,xq⟩:=x;obtain ⟨ob,du,sl,hs,ir,dm,wa,he⟩:=w;dsimp only at *;obtain rfl:ir=false:=by cases ir<;>simp_all
     simp -implicitDefEqProofs (disch:=first|exact zd|fail) only [go_sem,Aa,Ab,vbb,vbv,k10,k11,k12]
theorem Wok.crash {ts:List ByteArray} {B:Nat} {w:Wd} (I:Wok ts B w):Wok ts B {w with hd:=List.replicate 12 0}:=
 ⟨I.b,I.bb,I.ob,I.du,I.sl,I.slr,rfl,fun x hx=>by rw [(List.mem_replicate.1 hx).2];omega,I.wa,I.wal,I.he,I.her,I.hel⟩
theorem Wok.doom {ts:List ByteArray} {B:Nat} {w:Wd} (I:Wok ts B w) (b:Bool):Wok ts B {w with dm:=b}:=
 ⟨I.b,I.bb,I.ob,I.du,I.sl,I.slr,I.hd,I.hdr,I.wa,I.wal,I.he,I.her,I.hel⟩
theorem qvr {d:Nat} {ts:List ByteArray} {B:Nat} {w:Wd} (I:Wok ts B w) (hB:B+1≤1000) (hT:Ty23 ts) (x:Act'):∃(a b:Int) (w':Wd),Wok ts (B+1) w'∧
  vaf (T (d+4)) vad vb3 [cWd false ts w,cAct true x]=some ([.a (.int .i64 a),.a (.int .i64 b)],[cWd false ts w']):=by
 have I1:=I.mono (Aj B) hB;have h1:=qp7 (d:=d+2) x.kind;have h2:=vd0 (Φ:=T (d+3)) (N:=vad) (n:=x.kind) (lo:=1) (hi:=18);have h3:=vd0 (Φ:=T (d+3)) (N:=vad) (n:=x.kind) (lo:=2) (hi:=5);have h4:=vd0 (Φ:=T (d+3)) (N:=vad) (n:=x.kind) (lo:=1) (hi:=9);have h5:=vd0 (Φ:=T (d+3)) (N:=vad) (n:=x.kind) (lo:=10) (hi:=14);have n12:Int.toNat 12=12:=rfl;by_cases hbad:w.dm=true∧¬(14≤x.kind∧x.kind≤18)
 ·obtain ⟨b1,b2⟩:=hbad;rw [decide_eq_false b2] at h1;refine ⟨7,0,w,I1,?_⟩;rw [vag rfl];obtain ⟨xk,xa,xb,xc,xp,xq⟩:=x;obtain ⟨ob,du,sl,hs,ir,dm,wa,he⟩:=w;dsimp only at *;subst b1;simp -implicitDefEqProofs (disch:=first|exact zd|fail) only [go_sem,Aa,Ab,vb3,vdn,h1]
 ·have hgo:w.dm=false∨w.dm=true∧(14≤x.kind∧x.kind≤18):=by
   cases hd:w.dm
   ·exact .inl rfl
   ·by_cases b2:14≤x.kind∧x.kind≤18
    ·exact .inr ⟨rfl,b2⟩
    ·exact absurd ⟨hd,b2⟩ hbad
  have fin:(∃(a b:Int) (w':Wd),Wok ts (B+1) w'∧((w.dm=false→vaf (T (d+4)) vad vb3 [cWd false ts w,cAct true x]=some ([.a (.int .i64 a),.a (.int .i64 b)],[cWd false ts w']))∧
    (w.dm=true→(14≤x.kind∧x.kind≤18)→vaf (T (d+4)) vad vb3 [cWd false ts w,cAct true x]=some ([.a (.int .i64 a),.a (.int .i64 b)],[cWd false ts w']))))→∃(a b:Int) (w':Wd),Wok ts (B+1) w'∧
    vaf (T (d+4)) vad vb3 [cWd false ts w,cAct true x]=some ([.a (.int .i64 a),.a (.int .i64 b)],[cWd false ts w']):=by
   rintro ⟨a,b,w',J,p1,p2⟩
   refine ⟨a,b,w',J,?_⟩;rcases hgo with h|⟨h,h'⟩
   ·exact p1 h
   ·exact p2 h h'
  apply fin;clear fin hgo hbad;by_cases c2:1≤x.kind∧x.kind≤18
  ·rw [decide_eq_true c2] at h2;by_cases c3:2≤x.kind∧x.kind≤5
   ·rw [decide_eq_true c3] at h3;obtain ⟨a,b,w',J,h6⟩:=qh8 (d:=d) I hT x c3;refine ⟨a,b,w',J.mono (Aj B) hB,fun hd=> ?_,fun _ h=>absurd h zo⟩;clear h1;rw [vag rfl];obtain ⟨xk,xa,xb,xc,xp,xq⟩:=x;obtain ⟨ob,du,sl,hs,ir,dm,wa,he⟩:=w;dsimp only at *;subst hd;simp -implicitDefEqProofs (disch:=first|exact zd|fail) only [go_sem,Aa,Ab,vb3,vdn,h2,h3,h6]
   ·rw [decide_eq_false c3] at h3;by_cases c4:1≤x.kind∧x.kind≤9
    ·rw [decide_eq_true c4] at h4;obtain ⟨a,b,w',J,h6⟩:=qof (d:=d+1) I hB hT x;refine ⟨a,b,w',J,fun hd=> ?_,fun _ h=>absurd h zo⟩;clear h1;rw [vag rfl];obtain ⟨xk,xa,xb,xc,xp,xq⟩:=x;obtain ⟨ob,du,sl,hs,ir,dm,wa,he⟩:=w;dsimp only at *;subst hd;simp -implicitDefEqProofs (disch:=first|exact zd|fail) only [go_sem,Aa,Ab,vb3,vdn,h2,h3,h4,h6]
    ·rw [decide_eq_false c4] at h4;by_cases c5:10≤x.kind∧x.kind≤14
     ·rw [decide_eq_true c5] at h5;obtain ⟨a,b,w',J,h6⟩:=qgc (d:=d) I hT x c5;refine ⟨a,b,w',J.mono (Aj B) hB,fun hd=> ?_,fun hd h=> ?_⟩
      ·clear h1;rw [vag rfl];obtain ⟨xk,xa,xb,xc,xp,xq⟩:=x;obtain ⟨ob,du,sl,hs,ir,dm,wa,he⟩:=w;dsimp only at *;subst hd;simp -implicitDefEqProofs (disch:=first|exact zd|fail) only [go_sem,Aa,Ab,vb3,vdn,h2,h3,h4,h5,h6]
      ·rw [decide_eq_true h] at h1;rw [vag rfl];obtain ⟨xk,xa,xb,xc,xp,xq⟩:=x;obtain ⟨ob,du,sl,hs,ir,dm,wa,he⟩:=w;dsimp only at *;subst hd;simp -implicitDefEqProofs (disch:=first|exact zd|fail) only [go_sem,Aa,Ab,vb3,vdn,h1,h2,h3,h4,h5,h6]
     ·rw [decide_eq_false c5] at h5;have c6:15≤x.kind∧x.kind≤18:=by omega
      rw [decide_eq_true zo] at h1;have hz:∀v:Bool,w.dm=v→(if v=true then vaf (T (d+3)) vad vgl [.a (.int .i64 x.kind)]=some ([.a (.bool true)],[]) else True):=fun v _=>by split;exact h1;trivial
      by_cases k18:x.kind=18
      ·cases hin:w.inR with
       |true=>
        obtain ⟨w',J,h6⟩:=qfg (d:=d+2) I hin;refine ⟨0,0,_,J.crash.mono (Aj B) hB,fun hd=> ?_,fun hd h=> ?_⟩
        all_goals
         rw [vag rfl];obtain ⟨xk,xa,xb,xc,xp,xq⟩:=x;obtain ⟨ob,du,sl,hs,ir,dm,wa,he⟩:=w;dsimp only at *;subst hd hin;simp -implicitDefEqProofs (disch:=first|exact zd|fail) only [go_sem,Aa,Ab,vb3,vdn,h1,h2,h3,h4,h5,h6,n12];rfl
       |false=>
        refine ⟨0,0,_,I1.crash,fun hd=> ?_,fun hd h=> ?_⟩
        all_goals
         rw [vag rfl];obtain ⟨xk,xa,xb,xc,xp,xq⟩:=x;obtain ⟨ob,du,sl,hs,ir,dm,wa,he⟩:=w;dsimp only at *;subst hd hin;simp -implicitDefEqProofs (disch:=first|exact zd|fail) only [go_sem,Aa,Ab,vb3,vdn,h1,h2,h3,h4,h5,n12];rfl
      ·refine ⟨0,0,w,I1,fun hd=> ?_,fun hd h=> ?_⟩
       all_goals
        rw [vag rfl];obtain ⟨xk,xa,xb,xc,xp,xq⟩:=x;obtain ⟨ob,du,sl,hs,ir,dm,wa,he⟩:=w;dsimp only at *;subst hd;simp -implicitDefEqProofs (disch:=first|exact zd|fail) only [go_sem,Aa,Ab,vb3,vdn,h1,h2,h3,h4,h5,k18]
  ·rw [decide_eq_false c2] at h2;refine ⟨1,0,w,I1,fun hd=> ?_,fun _ h=>absurd h zo⟩;clear h1;rw [vag rfl];obtain ⟨xk,xa,xb,xc,xp,xq⟩:=x;obtain ⟨ob,du,sl,hs,ir,dm,wa,he⟩:=w;dsimp only at *;subst hd;simp -implicitDefEqProofs (disch:=first|exact zd|fail) only [go_sem,Aa,Ab,vb3,vdn,h2]
theorem vru {d:Nat} {ts:List ByteArray} {B:Nat} {w:Wd} (I:Wok ts B w) (hB:B+1≤1000) (hT:Ty23 ts) (x:Act'):∃(a b:Int) (w':Wd),Wok ts (B+1) w'∧
  vaf (T (d+5)) vad vet [cWd false ts w,cAct true x,.a (.int .i64 0)]=some ([.st [.a (.int .i64 a),.a (.int .i64 b)]],[cWd false ts w']):=by
 obtain ⟨a,b,w',J,h1⟩:=qvr (d:=d) I hB hT x;by_cases c1:a≠0
 ·cases hin:w'.inR with
  |true=>
   refine ⟨a,b,_,J.doom true,?_⟩;rw [vag rfl];obtain ⟨xk,xa,xb,xc,xp,xq⟩:=x;obtain ⟨ob,du,sl,hs,ir,dm,wa,he⟩:=w;obtain ⟨ob',du',sl',hs',ir',dm',wa',he'⟩:=w';dsimp only at *;subst hin;simp -implicitDefEqProofs (disch:=first|exact zd|fail) only [go_sem,Aa,Ab,vet,vkp,h1,c1]
  |false=>
   refine ⟨a,b,_,J,?_⟩;rw [vag rfl];obtain ⟨xk,xa,xb,xc,xp,xq⟩:=x;obtain ⟨ob,du,sl,hs,ir,dm,wa,he⟩:=w;obtain ⟨ob',du',sl',hs',ir',dm',wa',he'⟩:=w';dsimp only at *;subst hin;simp -implicitDefEqProofs (disch:=first|exact zd|fail) only [go_sem,Aa,Ab,vet,vkp,h1,c1]
 ·refine ⟨a,b,_,J,?_⟩;rw [vag rfl];obtain ⟨xk,xa,xb,xc,xp,xq⟩:=x;obtain ⟨ob,du,sl,hs,ir,dm,wa,he⟩:=w;obtain ⟨ob',du',sl',hs',ir',dm',wa',he'⟩:=w';simp -implicitDefEqProofs (disch:=first|exact zd|fail) only [go_sem,Aa,Ab,vet,vkp,h1,c1]
theorem zib (l:List Bool):(l.map eBl).map PV.thaw=l.map eBl:=by rw [List.map_map];rfl
attribute [go_sem] zib
abbrev nWq (k:Nat) (ts:List ByteArray) (w:Wd):vb5:= [(k,some (.sl true 0 va9 (ts.map eStr))),(k+1,some (.sl true 0 vau (w.ob.map eObj))),(k+2,some (.sl true 0 vr1 (w.du.map eBl))),(k+3,some (.sl true 0 vam (w.sl.map vap))),(k+4,some (.sl true 0 vam (w.hd.map vap))),(k+5,some (.sl true 0 vau (w.wa.map eObj))),(k+6,some (.sl true 0 vam (w.he.map vap)))]
abbrev nHd (bs:List Nat) (p:Nat) (ts:List ByteArray) (w:Wd) (E:List Int):vb5:=(0,nRd bs p)::(1,bWd w 3)::(2,some (.sl false 0 vam (E.map vap)))::nWq 3 ts w
theorem qki {bs:List Nat} {p:Nat} {ts:List ByteArray} {w:Wd} (hd:w.hd.length=12):∃e,(∃E:List Int,E.length≤12∧e=⟨[(0,.rf 0),(1,.rf 1),(5,.rf 2),(6,.a (.int .i64 (12:Nat))),(9,.a (.bool false)),(10000,.rf 0),(10001,.rf 1)],nHd bs p ts w E,210⟩)∧
  va7 Φ vad [0,1,5,6,10000,10001] vfc ⟨[(0,.rf 0),(1,.rf 1),(5,.rf 2),(6,.a (.int .i64 (0:Nat))),(10000,.rf 0),(10001,.rf 1)],nHd bs p ts w [],10⟩=some (.ext 0,e):=by
 refine vdk (fun r s=>∃(i:Nat) (E:List Int),i+r=12∧E.length≤i∧s=⟨[(0,.rf 0),(1,.rf 1),(5,.rf 2),(6,.a (.int .i64 (i:Nat))),(10000,.rf 0),(10001,.rf 1)],nHd bs p ts w E,10⟩) 0 _ (m:=12) (vay zo) ⟨0,[],by omega,by simp,rfl⟩ ?_
 rintro r _ hr ⟨i,E,hi,hE,rfl⟩
 by_cases hpos:0<r
 ·left;have hw:=vat i zo;have hlt:(i:Int)<12:=by omega
  have hlt2:i<12:=by omega
  obtain ⟨x,hx⟩:∃b,w.hd[i]? =some b:=⟨_,Ac zo⟩
  by_cases c1:x>0
  ·refine ⟨hpos,_,?_,i+1,E++ [(i:Int)],by omega,by rw [Ad];simp;omega,rfl⟩;obtain ⟨ob,du,sl,hs,ir,dm,wa,he⟩:=w;unfold round nHd vfc;rw [vbt];dsimp only at *;simp -implicitDefEqProofs (disch:=first|exact zd|fail) only [go_sem,Aa,Ab,hw,hlt,hx,c1]
   (show some _=some _;kernel_rfl)
  ·refine ⟨hpos,_,?_,i+1,E,by omega,by omega,rfl⟩;obtain ⟨ob,du,sl,hs,ir,dm,wa,he⟩:=w;unfold round nHd vfc;dsimp only at *;simp -implicitDefEqProofs (disch:=first|exact zd|fail) only [go_sem,Aa,Ab,hw,hlt,hx,c1]
   (show some _=some _;kernel_rfl)
 ·right;obtain rfl:i=12:=by omega
  refine ⟨_,?_,E,by omega,rfl⟩;obtain ⟨ob,du,sl,hs,ir,dm,wa,he⟩:=w;unfold round nHd vfc;simp -implicitDefEqProofs (disch:=first|exact zd|fail) only [go_sem,Aa,Ab]
theorem vtr {d:Nat} {bs:List Nat} (hb:Bs bs) {p:Nat} (hp:p≤bs.length) {ts:List ByteArray} {w:Wd} (hd:w.hd.length=12):∃(v:Int) (q:Nat),q≤bs.length∧
  vaf (T (d+4)) vad vdj [cRd bs p,cWd false ts w]=some ([.a (.int .i64 v)],[cRd bs q,cWd false ts w]):=by
 obtain ⟨_,⟨E,hE,rfl⟩,key⟩:=qki (Φ:=T (d+4)) (bs:=bs) (p:=p) (ts:=ts) hd;unfold nHd at key;by_cases hl:(E.length:Int)=0
 ·obtain ⟨v,q,_,_,hq,h1⟩:=vi2 (d:=d) hb hp (-1) 11 zo zo zo;refine ⟨v,q,hq,?_⟩;rw [vag rfl];obtain ⟨ob,du,sl,hs,ir,dm,wa,he⟩:=w;dsimp only at *;simp -implicitDefEqProofs (disch:=first|exact zd|fail) only [go_sem,Aa,Ab,vdj,vjd,vao key,hl,h1];done
 ·obtain ⟨o,q,hq,h0⟩:=vce (d:=d+1) hb hp 16 zo zo;cases o with
  |true=>
   obtain ⟨v,q2,_,_,hq2,h1⟩:=vi2 (d:=d) hb hq (-1) 11 zo zo zo;refine ⟨v,q2,hq2,?_⟩;rw [vag rfl];obtain ⟨ob,du,sl,hs,ir,dm,wa,he⟩:=w;dsimp only at *;simp -implicitDefEqProofs (disch:=first|exact zd|fail) only [go_sem,Aa,Ab,vdj,vjd,vao key,hl,h0,h1];done
  |false=>
   obtain ⟨v,q2,hv,hq2,h1⟩:=vh4 (d:=d+2) hb hq E.length zo;have hvl:v<E.length:=by omega
   obtain ⟨y,hy⟩:∃b,E[v]? =some b:=⟨_,Ac hvl⟩
   refine ⟨y,q2,hq2,?_⟩;rw [vag rfl];obtain ⟨ob,du,sl,hs,ir,dm,wa,he⟩:=w;dsimp only at *;simp -implicitDefEqProofs (disch:=first|exact zd|fail) only [go_sem,Aa,Ab,vdj,vjd,vao key,hl,h0,h1,hy];done
abbrev nPc (bs:List Nat) (p:Nat) (ts:List ByteArray) (w:Wd) (E:List Int):vb5:=(0,nRd bs p)::(1,some (.sl false 0 vam (E.map vap)))::(2,bWd w 3)::nWq 3 ts w
theorem qo4 {bs:List Nat} {p:Nat} {ts:List ByteArray} {w:Wd} {s:ByteArray} (hs:s.size≤23) (k:Nat):∃e,(∃E:List Int,E.length≤23∧e=⟨[(0,.rf 0),(3,.a (.int .u8 (k:Nat))),(9,.rf 1),(10,.a (.string s)),(11,.a (.int .i64 (s.size:Nat))),(40,.a (.bool false)),(10000,.rf 0),(10001,.rf 2)],nPc bs p ts w E,410⟩)∧
  va7 Φ vad [0,3,9,10,11,10000,10001] vft ⟨[(0,.rf 0),(3,.a (.int .u8 (k:Nat))),(9,.rf 1),(10,.a (.string s)),(11,.a (.int .i64 (0:Nat))),(10000,.rf 0),(10001,.rf 2)],nPc bs p ts w [],10⟩=some (.ext 0,e):=by
 refine vdk (fun r st=>∃(i:Nat) (E:List Int),i+r=s.size∧E.length≤i∧st=⟨[(0,.rf 0),(3,.a (.int .u8 (k:Nat))),(9,.rf 1),(10,.a (.string s)),(11,.a (.int .i64 (i:Nat))),(10000,.rf 0),(10001,.rf 2)],nPc bs p ts w E,10⟩) 0 _ (m:=s.size) (vay zo) ⟨0,[],by omega,by simp,rfl⟩ ?_
 rintro r _ hr ⟨i,E,hi,hE,rfl⟩
 obtain ⟨ob,du,sl,hs,ir,dm,wa,he⟩:=w;by_cases hpos:0<r
 ·left;have hw:=vat i zo;have hlt:(i:Int)<s.size:=by omega
  have hlt2:i<s.size:=by omega
  have hx:=vi9 (s:=s) (j:=i) hlt2;by_cases c1:(bAt s i:Int)=k
  ·refine ⟨hpos,_,?_,i+1,E++ [(i:Int)],by omega,by rw [Ad];simp;omega,rfl⟩;unfold round nPc vft;rw [vbt];dsimp only at *;generalize bAt s i=y at *;simp -implicitDefEqProofs (disch:=first|exact zd|fail) only [go_sem,Aa,Ab,hw,hlt,hx,c1]
   (show some _=some _;kernel_rfl)
  ·refine ⟨hpos,_,?_,i+1,E,by omega,by omega,rfl⟩;unfold round nPc vft;dsimp only at *;generalize bAt s i=y at *;simp -implicitDefEqProofs (disch:=first|exact zd|fail) only [go_sem,Aa,Ab,hw,hlt,hx,c1]
   (show some _=some _;kernel_rfl)
 ·right;obtain rfl:i=s.size:=by omega
  have hlt:¬((s.size:Nat):Int)<s.size:=by omega
  refine ⟨_,?_,E,by omega,rfl⟩;unfold round nPc vft;simp -implicitDefEqProofs (disch:=first|exact zd|fail) only [go_sem,Aa,Ab,hlt]
theorem vsa {d:Nat} {bs:List Nat} (hb:Bs bs) {p:Nat} (hp:p≤bs.length) {ts:List ByteArray} {B:Nat} {w:Wd} (I:Wok ts B w) (hT:Ty23 ts) (h:Int) (k:Nat) (hk:k<256):∃(v:Int) (q:Nat),q≤bs.length∧
  vaf (T (d+4)) vad vc1 [cRd bs p,cWd false ts w,.a (.int .i64 h),.a (.int .u8 (k:Nat))]=some ([.a (.int .i64 v)],[cRd bs q,cWd false ts w]):=by
 have h1:=vmp (d:=d+2) (ts:=ts) I.hd h;cases hu:usedW w h with
 |false=>
  rw [hu] at h1;obtain ⟨v,q,_,_,hq,h2⟩:=vi2 (d:=d) hb hp 0 3 zo zo zo;refine ⟨v,q,hq,?_⟩;rw [vag rfl];obtain ⟨ob,du,sl,hs,ir,dm,wa,he⟩:=w;simp -implicitDefEqProofs (disch:=first|exact zd|fail) only [go_sem,Aa,Ab,vc1,vhy,h1,h2];done
 |true=>
  rw [hu] at h1;obtain ⟨n,m,hn,_,hn12,hnm,hm⟩:=vpf I hu;obtain ⟨o,ho⟩:∃o,w.ob[m]? =some o:=⟨_,Ac hm⟩
  obtain ⟨s,g1,g2,g3,g4⟩:=I.ob o (Af ho);have hsz:=hT.z s (Af g1);have hbb:=I.bb;have hB:=I.b;have hdl:=I.hd;have e1:Ag.wrap ((m:Int)+1-1)=(m:Nat):=by rw [vai]<;>omega
  obtain ⟨_,⟨E,hE,rfl⟩,key⟩:=qo4 (Φ:=T (d+4)) (bs:=bs) (p:=p) (ts:=ts) (w:=w) hsz k;unfold nPc at key;clear I hu
  have fin:∀(v:Int) (q:Nat),q≤bs.length→((E.length=0∧vaf (T (d+3)) vad vck [cRd bs p,.a (.int .i64 0),.a (.int .i64 3)]=some ([.a (.int .i64 v)],[cRd bs q]))∨
    (¬(E.length:Int)=0∧∃q0,vaf (T (d+3)) vad vb7 [cRd bs p,.a (.int .i64 20)]=some ([.a (.bool true)],[cRd bs q0])∧vaf (T (d+3)) vad vck [cRd bs q0,.a (.int .i64 0),.a (.int .i64 3)]=some ([.a (.int .i64 v)],[cRd bs q]))∨
    (¬(E.length:Int)=0∧∃q0 u,vaf (T (d+3)) vad vb7 [cRd bs p,.a (.int .i64 20)]=some ([.a (.bool false)],[cRd bs q0])∧vaf (T (d+3)) vad vcy [cRd bs q0,.a (.int .i64 (E.length:Nat))]=some ([.a (.int .i64 (u:Nat))],[cRd bs q])∧E[u]? =some v∧u<E.length))→
    ∃(v:Int) (q:Nat),q≤bs.length∧vaf (T (d+4)) vad vc1 [cRd bs p,cWd false ts w,.a (.int .i64 h),.a (.int .u8 (k:Nat))]=some ([.a (.int .i64 v)],[cRd bs q,cWd false ts w]):=by
   intro v q hq hc;refine ⟨v,q,hq,?_⟩;rw [vag rfl];obtain ⟨ob,du,sl,hs,ir,dm,wa,he⟩:=w;obtain ⟨t,vs⟩:=o;dsimp only at *;obtain ⟨t,rfl⟩:∃n:Nat,t=n:=⟨t.toNat,by omega⟩
   rw [Int.toNat_natCast] at g1;have htl:=(List.getElem?_eq_some_iff.1 g1).1;subst hn;rcases hc with ⟨c1,h2⟩|⟨c1,q0,h2,h3⟩|⟨c1,q0,u,h2,h3,h4,h5⟩
   ·have c1':(E.length:Int)=0:=by omega
    simp -implicitDefEqProofs (disch:=first|exact zd|fail) only [go_sem,Aa,Ab,vc1,vhy,h1,hnm,e1,ho,g1,vao key,c1',h2]
   ·simp -implicitDefEqProofs (disch:=first|exact zd|fail) only [go_sem,Aa,Ab,vc1,vhy,h1,hnm,e1,ho,g1,vao key,c1,h2,h3]
   ·simp -implicitDefEqProofs (disch:=first|exact zd|fail) only [go_sem,Aa,Ab,vc1,vhy,h1,hnm,e1,ho,g1,vao key,c1,h2,h3,h4]
  by_cases hl:E.length=0
  ·obtain ⟨v,q,_,_,hq,h2⟩:=vi2 (d:=d) hb hp 0 3 zo zo zo;exact fin v q hq (.inl ⟨hl,h2⟩)
  ·obtain ⟨o,q,hq,h0⟩:=vce (d:=d+1) hb hp 20 zo zo;cases o with
   |true=>
    obtain ⟨v,q2,_,_,hq2,h2⟩:=vi2 (d:=d) hb hq 0 3 zo zo zo;exact fin v q2 hq2 (.inr (.inl ⟨by omega,q,h0,h2⟩))
   |false=>
    obtain ⟨v,q2,hv,hq2,h2⟩:=vh4 (d:=d+2) hb hq E.length zo;have hvl:v<E.length:=by omega
    exact fin _ q2 hq2 (.inr (.inr ⟨by omega,q,v,h0,h2,Ac hvl,hvl⟩))
theorem vky {d:Nat} {bs:List Nat} (hb:Bs bs) {p:Nat} (hp:p≤bs.length) {ts:List ByteArray} {B:Nat} {w:Wd} (I:Wok ts B w) (hT:Ty23 ts) (k pw h:Int):∃(y:Act') (q:Nat) (u:CV),y.keep.length≤100∧q≤bs.length∧(u= .un∨u= .sl false vam [])∧
  vaf (T (d+5)) vad vbc [cRd bs p,cWd false ts w,.st [.a (.int .i64 k),.a (.int .i64 0),.a (.int .i64 0),.a (.int .i64 0),.a (.int .i64 pw),.sl false vam []],.a (.int .i64 h)]=some ([cAct false y],[cRd bs q,cWd false ts w,.st [.a (.int .i64 k),.a (.int .i64 0),.a (.int .i64 0),.a (.int .i64 0),.a (.int .i64 pw),u]]):=by
 have hn0:=hT.n0;have hn1:=hT.n1;have hdl:=I.hd;by_cases k1:k=1
 ·subst k1;obtain ⟨v,q,_,hq,h1⟩:=vh4 (d:=d+3) hb hp ts.length zo;obtain ⟨o,q1,hq1,h2⟩:=vce (d:=d+2) hb hq 24 zo zo;have e1:Ag.wrap ((ts.length:Int)-1)=(ts.length:Int)-1:=by rw [vai]<;>omega
  cases o with
  |false=>
   refine ⟨⟨1,v,0,0,pw,[]⟩,q1,.un,by simp,hq1,.inl rfl,?_⟩;rw [vag rfl];obtain ⟨ob,du,sl,hs,ir,dm,wa,he⟩:=w;simp -implicitDefEqProofs (disch:=first|exact zd|fail) only [go_sem,Aa,Ab,vbc,vbu,h1,h2];rfl
  |true=>
   obtain ⟨v2,q2,_,_,hq2,h3⟩:=vi2 (d:=d+1) hb hq1 0 ((ts.length:Int)-1) zo zo zo;refine ⟨⟨1,v2,0,0,pw,[]⟩,q2,.un,by simp,hq2,.inl rfl,?_⟩;rw [vag rfl];obtain ⟨ob,du,sl,hs,ir,dm,wa,he⟩:=w;simp -implicitDefEqProofs (disch:=first|exact zd|fail) only [go_sem,Aa,Ab,vbc,vbu,h1,h2,e1,h3];rfl
 by_cases k2:k=2
 ·subst k2;obtain ⟨v,q,hq,h1⟩:=vsa (d:=d) hb hp I hT h 105 zo;rw [show ((105:Nat):Int)=105 from rfl] at h1;refine ⟨⟨2,h,v,0,pw,[]⟩,q,.un,by simp,hq,.inl rfl,?_⟩;rw [vag rfl];obtain ⟨ob,du,sl,hs,ir,dm,wa,he⟩:=w;simp -implicitDefEqProofs (disch:=first|exact zd|fail) only [go_sem,Aa,Ab,vbc,vbu,h1];rfl
 by_cases k3:k=3
 ·subst k3;obtain ⟨v,q,hq,h1⟩:=vsa (d:=d) hb hp I hT h 105 zo;rw [show ((105:Nat):Int)=105 from rfl] at h1;obtain ⟨u,q1,hu,hq1,h2⟩:=va5 (d:=d+3) hb hq 1000 zo zo;have e1:Ag.wrap ((u:Int)-100)=(u:Int)-100:=by rw [vai]<;>omega
  refine ⟨⟨3,h,v,(u:Int)-100,pw,[]⟩,q1,.un,by simp,hq1,.inl rfl,?_⟩;rw [vag rfl];obtain ⟨ob,du,sl,hs,ir,dm,wa,he⟩:=w;simp -implicitDefEqProofs (disch:=first|exact zd|fail) only [go_sem,Aa,Ab,vbc,vbu,h1,h2,e1];rfl
 by_cases k4:k=4
 ·subst k4;obtain ⟨v,q,hq,h1⟩:=vsa (d:=d) hb hp I hT h 114 zo;rw [show ((114:Nat):Int)=114 from rfl] at h1;refine ⟨⟨4,h,v,0,pw,[]⟩,q,.un,by simp,hq,.inl rfl,?_⟩;rw [vag rfl];obtain ⟨ob,du,sl,hs,ir,dm,wa,he⟩:=w;simp -implicitDefEqProofs (disch:=first|exact zd|fail) only [go_sem,Aa,Ab,vbc,vbu,h1];rfl
 by_cases k5:k=5
 ·subst k5;obtain ⟨v,q,hq,h1⟩:=vsa (d:=d) hb hp I hT h 114 zo;rw [show ((114:Nat):Int)=114 from rfl] at h1;obtain ⟨c,q1,hq1,h2⟩:=vtr (d:=d) hb hq (ts:=ts) hdl;obtain ⟨o,q2,hq2,h3⟩:=vce (d:=d+2) hb hq1 8 zo zo;cases o with
  |false=>
   refine ⟨⟨5,h,v,c,pw,[]⟩,q2,.un,by simp,hq2,.inl rfl,?_⟩;rw [vag rfl];obtain ⟨ob,du,sl,hs,ir,dm,wa,he⟩:=w;simp (maxSteps:=3000000) -implicitDefEqProofs (disch:=first|exact zd|fail) only [go_sem,Aa,Ab,vbc,vbu,h1,h2,h3];rfl
  |true=>
   refine ⟨⟨5,h,v,-1,pw,[]⟩,q2,.un,by simp,hq2,.inl rfl,?_⟩;rw [vag rfl];obtain ⟨ob,du,sl,hs,ir,dm,wa,he⟩:=w;simp (maxSteps:=3000000) -implicitDefEqProofs (disch:=first|exact zd|fail) only [go_sem,Aa,Ab,vbc,vbu,h1,h2,h3];rfl
 by_cases k7:k=7
 ·subst k7;obtain ⟨c,q,hq,h1⟩:=vtr (d:=d) hb hp (ts:=ts) hdl;refine ⟨⟨7,h,c,0,pw,[]⟩,q,.un,by simp,hq,.inl rfl,?_⟩;rw [vag rfl];obtain ⟨ob,du,sl,hs,ir,dm,wa,he⟩:=w;simp -implicitDefEqProofs (disch:=first|exact zd|fail) only [go_sem,Aa,Ab,vbc,vbu,h1];rfl
 by_cases k11:k=11
 ·subst k11;obtain ⟨a,q,ha,hq,h1⟩:=va5 (d:=d+3) hb hp 3 zo zo;obtain ⟨o,q1,hq1,h2⟩:=vce (d:=d+2) hb hq 8 zo zo;obtain ⟨o2,q2,hq2,h3⟩:=vce (d:=d+2) hb hq1 30 zo zo;obtain ⟨a2,q3,_,_,hq3,h4⟩:=vi2 (d:=d+1) hb hq2 0 7 zo zo zo;cases o with
  |false=>
   cases o2 with
   |false=>
    refine ⟨⟨11,a,h,0,pw,[]⟩,q2,.un,by simp,hq2,.inl rfl,?_⟩;rw [vag rfl];obtain ⟨ob,du,sl,hs,ir,dm,wa,he⟩:=w;simp (maxSteps:=3000000) -implicitDefEqProofs (disch:=first|exact zd|fail) only [go_sem,Aa,Ab,vbc,vbu,h1,h2,h3];rfl
   |true=>
    refine ⟨⟨11,a2,h,0,pw,[]⟩,q3,.un,by simp,hq3,.inl rfl,?_⟩;rw [vag rfl];obtain ⟨ob,du,sl,hs,ir,dm,wa,he⟩:=w;simp -implicitDefEqProofs (disch:=first|exact zd|fail) only [go_sem,Aa,Ab,vbc,vbu,h1,h2,h3,h4];rfl
  |true=>
   cases o2 with
   |false=>
    refine ⟨⟨11,a,-1,0,pw,[]⟩,q2,.un,by simp,hq2,.inl rfl,?_⟩;rw [vag rfl];obtain ⟨ob,du,sl,hs,ir,dm,wa,he⟩:=w;simp (maxSteps:=3000000) -implicitDefEqProofs (disch:=first|exact zd|fail) only [go_sem,Aa,Ab,vbc,vbu,h1,h2,h3];rfl
   |true=>
    refine ⟨⟨11,a2,-1,0,pw,[]⟩,q3,.un,by simp,hq3,.inl rfl,?_⟩;rw [vag rfl];obtain ⟨ob,du,sl,hs,ir,dm,wa,he⟩:=w;simp -implicitDefEqProofs (disch:=first|exact zd|fail) only [go_sem,Aa,Ab,vbc,vbu,h1,h2,h3,h4];rfl
 by_cases k12:k=12
 ·subst k12;obtain ⟨a,q,ha,hq,h1⟩:=va5 (d:=d+3) hb hp 3 zo zo;refine ⟨⟨12,a,0,0,pw,[]⟩,q,.un,by simp,hq,.inl rfl,?_⟩;rw [vag rfl];obtain ⟨ob,du,sl,hs,ir,dm,wa,he⟩:=w;simp -implicitDefEqProofs (disch:=first|exact zd|fail) only [go_sem,Aa,Ab,vbc,vbu,h1];rfl
 by_cases k17:k=17
 ·subst k17;obtain ⟨a,q,ha,hq,h1⟩:=va5 (d:=d+3) hb hp 24 zo zo;refine ⟨⟨17,a,0,0,pw,[]⟩,q,.un,by simp,hq,.inl rfl,?_⟩;rw [vag rfl];obtain ⟨ob,du,sl,hs,ir,dm,wa,he⟩:=w;simp -implicitDefEqProofs (disch:=first|exact zd|fail) only [go_sem,Aa,Ab,vbc,vbu,h1];rfl
 by_cases k18:k=18
 ·subst k18;obtain ⟨a,q,ha,hq,h1⟩:=va5 (d:=d+3) hb hp 10 zo zo;obtain ⟨X,q1,hX,hq1,h2⟩:=qdw (d:=d) hb hq a zo;refine ⟨⟨18,h,0,0,pw,X⟩,q1,.sl false vam [],by show X.length≤100;omega,hq1,.inr rfl,?_⟩;rw [vag rfl];obtain ⟨ob,du,sl,hs,ir,dm,wa,he⟩:=w;simp -implicitDefEqProofs (disch:=first|exact zd|fail) only [go_sem,Aa,Ab,vbc,vbu,h1,h2]
 refine ⟨⟨k,h,0,0,pw,[]⟩,p,.un,by simp,hp,.inl rfl,?_⟩;rw [vag rfl];obtain ⟨ob,du,sl,hs,ir,dm,wa,he⟩:=w;simp -implicitDefEqProofs (disch:=first|exact zd|fail) only [go_sem,Aa,Ab,vbc,vbu,k1,k2,k3,k4,k5,k7,k11,k12,k17,k18];rfl
