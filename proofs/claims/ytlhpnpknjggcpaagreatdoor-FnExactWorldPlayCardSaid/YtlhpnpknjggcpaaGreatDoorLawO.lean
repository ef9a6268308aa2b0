/- Worlds of the reference: what becomes durable, in plain words. Worlds of the reference: what becomes durable. Worlds of the reference: acts on regions and slots. Worlds of the reference: an act. Worlds of the reference: an act does what the program's does. -/
import Derived.Test.YtlhpnpknjggcpaaGreatDoorLawQ
import Derived.Test.YtlhpnpknjggcpaaGreatDoorLawC
open Nat renaming reduceAdd->Aa,reduceBEq->Ab,le_refl->Aq,zero_add->Av,add_zero->Aw
open List renaming getElem?_eq_getElem->Ac,getElem?_eq_some_iff->Ad,mem_of_getElem?->Af,mem_append->Ah,replicate->Ai,length_map->Aj,mem_singleton->Ak,getElem?_set->Al,length_append->Am,length_drop->An,nil_append->Ap,getElem?_eq_none->Ar,mem_cons_of_mem->At,map_append->Ax,mem_cons->Ay,drop->Az
open Int renaming toNat_natCast->Ae,toNat->Au
open Classical renaming byContradiction->Ag
open Option renaming getD_some->Ao
namespace Go.Proofs.YtlhpnpknjggcpaaGreatDoor.VM
open Go Sy
variable {Φ:Nat→Option Callee} {N:Nat}
set_option maxRecDepth 100000
set_option maxHeartbeats 8000000
def nmW (ts:List ByteArray) (ob:List Obj') (m:Nat):List Int:=match ob[m]? with
 |some o=>(match ts[o.ty.toNat]? with|some s=>nmI s o.vals o.vals.length|none=> [])
 |none=> []
theorem qdk {s:ByteArray} {vs:List Int} {v:Int}:∀{i:Nat},i≤vs.length→(v∈nmI s vs i↔∃j,j<i∧kAt s j=114∧vs[j]? =some v)
 |0,_=>by simp [nmI]
 |i+1,hi=>by
  have ih:=qdk (s:=s) (vs:=vs) (v:=v) (i:=i) zo;obtain ⟨x,hx⟩:∃x,vs[i]? =some x:=⟨_,Ac zo⟩
  have e:nmI s vs (i+1)=if kAt s i=114 then nmI s vs i++ [x] else nmI s vs i:=by
   conv=>lhs;unfold nmI
   rw [hx];rfl
  rw [e];by_cases c:kAt s i=114
  ·rw [if_pos c,Ah,ih];constructor
   ·rintro (⟨j,h1,h2,h3⟩|h)
    ·exact ⟨j,by omega,h2,h3⟩
    ·rw [Ak.1 h];exact ⟨i,by omega,c,hx⟩
   ·rintro ⟨j,h1,h2,h3⟩
    by_cases e:j=i
    ·subst e;rw [hx] at h3;cases h3;exact .inr (Ak.2 rfl)
    ·exact .inl ⟨j,by omega,h2,h3⟩
  ·rw [if_neg c,ih];constructor
   ·rintro ⟨j,h1,h2,h3⟩
    exact ⟨j,by omega,h2,h3⟩
   ·rintro ⟨j,h1,h2,h3⟩
    by_cases e:j=i
    ·subst e;exact absurd h2 c
    ·exact ⟨j,by omega,h2,h3⟩
theorem vxh {ts:List ByteArray} {ob:List Obj'} {m:Nat} {v:Int}:v∈nmW ts ob m↔Ref ts ob m v:=by
 unfold nmW Ref;constructor
 ·intro h;cases ho:ob[m]? with
  |none=>rw [ho] at h;cases h
  |some o=>
   rw [ho] at h;dsimp only at h;cases hs:ts[o.ty.toNat]? with
   |none=>rw [hs] at h;cases h
   |some s=>
    rw [hs] at h;obtain ⟨j,h1,h2,h3⟩:=(qdk (Aq _)).1 h;exact ⟨o,s,j,rfl,hs,qk5 h2,h3⟩
 ·rintro ⟨o,s,j,ho,hs,hr,hj⟩
  rw [ho];dsimp only;rw [hs];exact (qdk (Aq _)).2 ⟨j,(Ad.1 hj).1,vt3 hr,hj⟩
theorem vzw {ts:List ByteArray} {B:Nat} {w:Wd} (I:Wok ts B w) (hT:Ty23 ts) {m:Nat} (hm:m<w.ob.length):Rin w.ob.length (nmW ts w.ob m)∧(nmW ts w.ob m).length≤23:=by
 obtain ⟨o,ho⟩:∃o,w.ob[m]? =some o:=⟨_,Ac hm⟩
 obtain ⟨s,g1,g2,g3,g4⟩:=I.ob o (Af ho);have hz:=hT.z s (Af g1);constructor
 ·intro v hv;obtain ⟨o',s',j,h1,h2,h3,h4⟩:=vxh.1 hv;rw [ho] at h1;cases h1;rw [g1] at h2;cases h2;exact g4 j v h4 (vt3 h3)
 ·unfold nmW;rw [ho];dsimp only;rw [g1];have:=vu6 s o.vals o.vals.length;dsimp only;omega
theorem qav {d:Nat} {ts:List ByteArray} {B:Nat} {w:Wd} (I:Wok ts B w) (hT:Ty23 ts) {m:Nat} (hm:m<w.ob.length) (D:List Bool):vaf (T (d+1)) vae vep [cWf true ts {w with du:=D},.a (.int .i64 (m:Nat))]=some ([.sl false vag ((nmW ts w.ob m).map vak)],[]):=by
 obtain ⟨⟨ot,vs⟩,ho⟩:∃o,w.ob[m]? =some o:=⟨_,Ac hm⟩
 obtain ⟨s,g1,g2,g3,g4⟩:=I.ob _ (Af ho);have hz:=hT.z s (Af g1);obtain ⟨t,rfl⟩:∃t:Nat,ot=t:=⟨ot.toNat,by dsimp only at g2;omega⟩
 dsimp only at g1 g3;rw [Ae] at g1;have:=qzt (d:=d) (ts:=ts) (w:={w with du:=D}) ho g1 g3 hz;unfold nmW;rw [ho];dsimp only;rw [Ae,g1];exact this
def spE (ts:List ByteArray) (w:Wd):Nat→List Int
 |0=>w.sl
 |i+1=>if w.du[i]? =some true then spE ts w i++nmW ts w.ob i else spE ts w i
theorem Rin.app {n:Nat} {a b:List Int} (h:Rin n a) (h2:Rin n b):Rin n (a++b):=fun x hx=>by
 rcases Ah.1 hx with h3|h3
 ·exact h x h3
 ·exact h2 x h3
theorem Rin.drop {n:Nat} {a:List Int} (h:Rin n a) (k:Nat):Rin n (a.drop k):=fun x hx=>h x (List.mem_of_mem_drop hx)
theorem qis {ts:List ByteArray} {B:Nat} {w:Wd} (I:Wok ts B w) (hT:Ty23 ts):∀i,i≤w.ob.length→Rin w.ob.length (spE ts w i)∧(spE ts w i).length≤8+23 * i
 |0,_=>⟨I.slr,by show w.sl.length≤_;rw [I.sl];decide⟩
 |i+1,hi=>by
  obtain ⟨h1,h2⟩:=qis I hT i zo;obtain ⟨h3,h4⟩:=vzw I hT (m:=i) zo;unfold spE;split
  ·exact ⟨h1.app h3,by rw [Am];omega⟩
  ·exact ⟨h1,by omega⟩
theorem vxm {ts:List ByteArray} {w:Wd} {v:Int}:∀{i},v∈spE ts w i↔v∈w.sl∨∃k,k<i∧w.du[k]? =some true∧v∈nmW ts w.ob k
 |0=>by simp [spE]
 |i+1=>by
  have ih:=vxm (ts:=ts) (w:=w) (v:=v) (i:=i);unfold spE;by_cases c:w.du[i]? =some true
  ·rw [if_pos c,Ah,ih];constructor
   ·rintro ((h|⟨k,h1,h2,h3⟩)|h)
    ·exact .inl h
    ·exact .inr ⟨k,by omega,h2,h3⟩
    ·exact .inr ⟨i,by omega,c,h⟩
   ·rintro (h|⟨k,h1,h2,h3⟩)
    ·exact .inl (.inl h)
    ·by_cases e:k=i
     ·subst e;exact .inr h3
     ·exact .inl (.inr ⟨k,by omega,h2,h3⟩)
  ·rw [if_neg c,ih];constructor
   ·rintro (h|⟨k,h1,h2,h3⟩)
    ·exact .inl h
    ·exact .inr ⟨k,by omega,h2,h3⟩
   ·rintro (h|⟨k,h1,h2,h3⟩)
    ·exact .inl h
    ·by_cases e:k=i
     ·subst e;exact absurd h2 c
     ·exact .inr ⟨k,by omega,h2,h3⟩
theorem vxi {du:List Bool} {v:Int}:∀{i},v∈dRI du i↔∃k:Nat,k<i∧du[k]? =some true∧v=(k:Int)+1
 |0=>by simp [dRI]
 |i+1=>by
  have ih:=vxi (du:=du) (v:=v) (i:=i);unfold dRI;by_cases c:du[i]? =some true
  ·rw [if_pos c,Ah,ih];constructor
   ·rintro (⟨k,h1,h2,h3⟩|h)
    ·exact ⟨k,by omega,h2,h3⟩
    ·exact ⟨i,by omega,c,Ak.1 h⟩
   ·rintro ⟨k,h1,h2,h3⟩
    by_cases e:k=i
    ·subst e;exact .inr (Ak.2 h3)
    ·exact .inl ⟨k,by omega,h2,h3⟩
  ·rw [if_neg c,ih];constructor
   ·rintro ⟨k,h1,h2,h3⟩
    exact ⟨k,by omega,h2,h3⟩
   ·rintro ⟨k,h1,h2,h3⟩
    by_cases e:k=i
    ·subst e;exact absurd h2 c
    ·exact ⟨k,by omega,h2,h3⟩
theorem qk8 {du:List Bool} {F:List Nat} {k:Nat}:∀{i},i≤F.length→((sdI du F i)[k]? =some true↔du[k]? =some true∨k<du.length∧∃j,j<i∧F[j]? =some k)
 |0,_=>by simp [sdI]
 |i+1,hi=>by
  have ih:=qk8 (du:=du) (F:=F) (k:=k) (i:=i) zo;have hl:=vlv du F i;obtain ⟨x,hx⟩:∃x,F[i]? =some x:=⟨_,Ac zo⟩
  have e:sdI du F (i+1)=(sdI du F i).set x true:=by
   conv=>lhs;unfold sdI
   rw [hx]
  rw [e,Al];by_cases c:x=k
  ·subst c;rw [if_pos rfl];by_cases c2:x<(sdI du F i).length
   ·rw [if_pos c2];exact ⟨fun _=> .inr ⟨by omega,i,by omega,hx⟩,fun _=>rfl⟩
   ·rw [if_neg c2];constructor
    ·intro h;cases h
    ·rintro (h|⟨h,_⟩)
     ·have:=(Ad.1 h).1;omega
     ·omega
  ·rw [if_neg c,ih];constructor
   ·rintro (h|⟨h1,j,h2,h3⟩)
    ·exact .inl h
    ·exact .inr ⟨h1,j,by omega,h3⟩
   ·rintro (h|⟨h1,j,h2,h3⟩)
    ·exact .inl h
    ·by_cases e:j=i
     ·subst e;rw [hx] at h3;cases h3;exact absurd rfl c
     ·exact .inr ⟨h1,j,by omega,h3⟩
theorem vxs {ts:List ByteArray} {B:Nat} {w:Wd} (I:Wok ts B w) (hT:Ty23 ts) {k:Nat}:(comD ts w)[k]? =some true↔k∈found ts (gCm w):=by
 have hdu:=I.du;rw [show comD ts w=sdI w.du (found ts (gCm w)) (found ts (gCm w)).length from rfl,qk8 (Aq _)];constructor
 ·rintro (h|⟨_,j,_,h⟩)
  ·have:=vq6 (vp6 I hT) (v:=(k:Int)+1) (Ah.2 (.inr (vxi.2 ⟨k,(Ad.1 h).1,h,rfl⟩))) zo
   rwa [show ((k:Int)+1-1).toNat=k by omega] at this
  ·exact Af h
 ·intro h;obtain ⟨i,hi⟩:=List.mem_iff_getElem?.1 h;have:=qn8 h;exact .inr ⟨by rw [hdu];exact this,i,(Ad.1 hi).1,hi⟩
structure SpI (ts:List ByteArray) (w:Wd) (D:List Bool) (P:List Int):Prop where
 l:D.length=w.ob.length
 up:∀k:Nat,w.du[k]? =some true→D[k]? =some true
 so:∀k:Nat,D[k]? =some true→k∈found ts (gCm w)
 sp:∀x∈P,0<x→(x-1).toNat∈found ts (gCm w)
 cs:∀v∈w.sl,0<v→D[(v-1).toNat]? =some true∨v∈P
 cn:∀k:Nat,D[k]? =some true→∀v∈nmW ts w.ob k,0<v→D[(v-1).toNat]? =some true∨v∈P
theorem SpI.start {ts:List ByteArray} {B:Nat} {w:Wd} (I:Wok ts B w) (hT:Ty23 ts):SpI ts w w.du (spE ts w w.ob.length):=by
 have R:=vp6 I hT;have hdf:∀k:Nat,w.du[k]? =some true→k∈found ts (gCm w):=fun k h=>by
  have:=vq6 R (v:=(k:Int)+1) (Ah.2 (.inr (vxi.2 ⟨k,(Ad.1 h).1,h,rfl⟩))) zo
  rwa [show ((k:Int)+1-1).toNat=k by omega] at this
 refine ⟨I.du,fun _ h=>h,hdf,fun x hx h0=> ?_,fun v hv _=> .inr (vxm.2 (.inl hv)),fun k hk v hv _=> .inr (vxm.2 (.inr ⟨k,by have:=(Ad.1 hk).1;have:=I.du;omega,hk,hv⟩))⟩;rcases vxm.1 hx with h|⟨k,_,h2,h3⟩
 ·exact vq6 R (Ah.2 (.inl h)) h0
 ·exact vw2 R (hdf k h2) (vxh.1 h3) h0
theorem SpI.skip {ts:List ByteArray} {w:Wd} {D:List Bool} {x:Int} {P:List Int} (h:SpI ts w D (x::P)) (hx:x≤0∨D[(x-1).toNat]? =some true):SpI ts w D P:=by
 have f:∀v:Int,0<v→(D[(v-1).toNat]? =some true∨v∈x::P)→D[(v-1).toNat]? =some true∨v∈P:=fun v h0 hv=>by
  rcases hv with hv|hv
  ·exact .inl hv
  ·rcases Ay.1 hv with rfl|hv
   ·rcases hx with hx|hx
    ·omega
    ·exact .inl hx
   ·exact .inr hv
 exact ⟨h.l,h.up,h.so,fun y hy=>h.sp y (At _ hy),fun v hv h0=>f v h0 (h.cs v hv h0),fun k hk v hv h0=>f v h0 (h.cn k hk v hv h0)⟩
theorem SpI.step {ts:List ByteArray} {B:Nat} {w:Wd} (I:Wok ts B w) (hT:Ty23 ts) {D:List Bool} {m:Nat} {P:List Int} (h:SpI ts w D (((m:Int)+1)::P)) (hm:m<D.length):SpI ts w (D.set m true) (P++nmW ts w.ob m):=by
 have R:=vp6 I hT;have hf:m∈found ts (gCm w):=by
  have:=h.sp ((m:Int)+1) List.mem_cons_self zo
  rwa [show ((m:Int)+1-1).toNat=m by omega] at this
 have g:∀{k:Nat},D[k]? =some true→(D.set m true)[k]? =some true:=fun {k} hk=>by
  rw [Al];split
  ·rfl
  ·exact hk
 have f:∀v:Int,0<v→(D[(v-1).toNat]? =some true∨v∈((m:Int)+1)::P)→(D.set m true)[(v-1).toNat]? =some true∨v∈P++nmW ts w.ob m:=fun v h0 hv=>by
  rcases hv with hv|hv
  ·exact .inl (g hv)
  ·rcases Ay.1 hv with rfl|hv
   ·exact .inl (by rw [show ((m:Int)+1-1).toNat=m by omega,Al,if_pos rfl,if_pos hm])
   ·exact .inr (Ah.2 (.inl hv))
 have sp':∀{k:Nat},(D.set m true)[k]? =some true→k=m∨D[k]? =some true:=fun {k} hk=>by
  rw [Al] at hk;split at hk
  ·rename_i e;exact .inl e.symm
  ·exact .inr hk
 refine ⟨by rw [List.length_set];exact h.l,fun k hk=>g (h.up k hk),fun k hk=> ?_,fun y hy h0=> ?_,fun v hv h0=>f v h0 (h.cs v hv h0),fun k hk v hv h0=> ?_⟩
 ·rcases sp' hk with rfl|hk
  ·exact hf
  ·exact h.so k hk
 ·rcases Ah.1 hy with hy|hy
  ·exact h.sp y (At _ hy) h0
  ·exact vw2 R hf (vxh.1 hy) h0
 ·rcases sp' hk with rfl|hk
  ·exact .inr (Ah.2 (.inr hv))
  ·exact f v h0 (h.cn k hk v hv h0)
theorem qs3 {a b:List Bool} (hl:a.length=b.length) (h:∀k:Nat,a[k]? =some true↔b[k]? =some true):a=b:=by
 refine List.ext_getElem? fun k=> ?_;by_cases c:k<a.length
 ·obtain ⟨x,hx⟩:∃x,a[k]? =some x:=⟨_,Ac c⟩
  obtain ⟨y,hy⟩:∃y,b[k]? =some y:=⟨_,Ac zo⟩
  have:=h k;rw [hx,hy] at this⊢;cases x<;>cases y<;>simp_all
 ·rw [Ar zo,Ar zo]
theorem SpI.done {ts:List ByteArray} {B:Nat} {w:Wd} (I:Wok ts B w) (hT:Ty23 ts) {D:List Bool} (h:SpI ts w D []):D=comD ts w:=by
 refine qs3 ?_ fun k=> ?_
 ·rw [h.l,show (comD ts w).length=w.du.length from vlv _ _ _,I.du]
 ·rw [vxs I hT];refine ⟨h.so k,fun hk=> ?_⟩;refine qd2 (P:=fun k=>D[k]? =some true) (fun v hv h0=> ?_) (fun k hk v hv h0=> ?_) k hk
  ·rcases Ah.1 hv with hv|hv
   ·rcases h.cs v hv h0 with h1|h1
    ·exact h1
    ·cases h1
   ·obtain ⟨k,_,h2,h3⟩:=vxi.1 hv;rw [h3,show ((k:Int)+1-1).toNat=k by omega];exact h.up k h2
  ·rcases h.cn k hk v (vxh.2 hv) h0 with h1|h1
   ·exact h1
   ·cases h1
abbrev nSp (ts:List ByteArray) (w:Wd) (D:List Bool) (E:List Int):vcs:= [(0,some (.bx false [.sz vam (List.map eStr ts),.rf 2,.rf 3,.rf 4,.rf 5,.a (.bool w.inR),.a (.bool w.dm),.rf 6,.rf 7])),(1,some (.sl false 0 vag (E.map vak))),(2,some (.sl true 0 vai (w.ob.map eObj))),(3,some (.sl true 0 vb8 (D.map eBl))),(4,some (.sl true 0 vag (w.sl.map vak))),(5,some (.sl true 0 vag (w.hd.map vak))),(6,some (.sl true 0 vai (w.wa.map eObj))),(7,some (.sl true 0 vag (w.he.map vak)))]
theorem qmw {d:Nat} {ts:List ByteArray} {B:Nat} {w:Wd} (I:Wok ts B w) (hT:Ty23 ts):
  vbt (T (d+2)) vae [0,2,3,10000] vfl ⟨[(0,.rf 0),(2,.rf 1),(3,.a (.int .i64 (0:Nat))),(10000,.rf 0)],nSp ts w w.du (spE ts w 0),8⟩=some (.ext 0,⟨[(0,.rf 0),(2,.rf 1),(3,.a (.int .i64 (w.ob.length:Nat))),(17,.a (.bool false)),(10000,.rf 0)],nSp ts w w.du (spE ts w w.ob.length),708⟩):=by
 have hbb:=I.bb;have hb:=I.b;have hdul:=I.du;refine vbx (m:=w.ob.length) (fun i=>⟨[(0,.rf 0),(2,.rf 1),(3,.a (.int .i64 (i:Nat))),(10000,.rf 0)],nSp ts w w.du (spE ts w i),8⟩) _ (va1 zo) (fun i hi=> ?_) ?_
 ·have hw:=vaw i zo;have hlt:(i:Int)<w.ob.length:=by omega
  obtain ⟨u,hu⟩:∃b,w.du[i]? =some b:=⟨_,Ac zo⟩
  have h1:i<w.du.length:=by omega
  obtain ⟨hE,hEl⟩:=qis I hT i zo;have hstep:spE ts w (i+1)=if u=true then spE ts w i++nmW ts w.ob i else spE ts w i:=by
   conv=>lhs;unfold spE
   rw [hu];cases u<;>simp
  rw [hstep];cases u with
  |false=>
   rw [if_neg (by simp)];clear I hstep;generalize spE ts w i=E at *;obtain ⟨ob,du,sl,hs,ir,dm,wa,he⟩:=w;dsimp only at *;unfold round nSp vfl;dsimp only at *;simp -implicitDefEqProofs (disch:=first|exact zd|fail) only [go_sem,Aa,Ab,hu,hw,hlt]
   (show some _=some _;kernel_rfl)
  |true=>
   rw [if_pos rfl];have h2:=qav (d:=d) I hT (m:=i) zo w.du;obtain ⟨_,hl⟩:=vzw I hT (m:=i) zo;clear I hstep;generalize spE ts w i=E at *;generalize nmW ts w.ob i=out at *;have z1:(E.map vak).length≤100000:=by rw [Aj];omega
   have z2:(out.map vak).length≤100000:=by rw [Aj];omega
   obtain ⟨ob,du,sl,hs,ir,dm,wa,he⟩:=w;dsimp only [cWf] at *;unfold round nSp vfl;dsimp only at *;rw [Ax];simp -implicitDefEqProofs (disch:=first|exact zd|fail) only [go_sem,Aa,Ab,hu,hw,hlt,h2]
   (show some _=some _;kernel_rfl)
 ·have hlt:¬((w.ob.length:Nat):Int)<w.ob.length:=by omega
  clear I;generalize spE ts w w.ob.length=E at *;obtain ⟨ob,du,sl,hs,ir,dm,wa,he⟩:=w;dsimp only at *;unfold round nSp vfl;simp -implicitDefEqProofs (disch:=first|exact zd|fail) only [go_sem,Aa,Ab,hlt]
def cnF:List Bool→Nat
 | []=>0
 |b::l=>(if b=true then 0 else 1)+cnF l
theorem qid:∀l:List Bool,cnF l≤l.length
 | []=>by simp [cnF]
 |b::l=>by have:=qid l;unfold cnF;rw [List.length_cons];split<;>omega
theorem qko:∀{l:List Bool} {m:Nat},l[m]? =some false→cnF (l.set m true)+1=cnF l
 |b::l,0,h=>by simp at h;subst h;simp [cnF];omega
 |b::l,m+1,h=>by
  have:=qko (l:=l) (m:=m) (by simpa using h);rw [List.set_cons_succ];unfold cnF;omega
def Part (E:List Int) (lo:Nat) (t:TV):Prop:=lo≤E.length∧((t= .rf 1∧lo=0)∨t= .sb 1 lo (E.length-lo))
abbrev SpL (ts:List ByteArray) (w:Wd) (D:List Bool) (E:List Int) (lo:Nat) (tv:TV) (r:Nat):Prop:=SpI ts w D (E.drop lo)∧Rin w.ob.length E∧Part E lo tv∧E.length≤100000∧(E.length-lo)+24 * cnF D≤r
theorem qms {d:Nat} {ts:List ByteArray} {B:Nat} {w:Wd} (I:Wok ts B w) (hT:Ty23 ts):∃e,(∃(E:List Int) (tv:TV),Part E E.length tv∧e=⟨[(0,.rf 0),(2,tv),(34,.a (.bool false)),(10000,.rf 0)],nSp ts w (comD ts w) E,308⟩)∧
  vbt (T (d+2)) vae [0,2,10000] vdk ⟨[(0,.rf 0),(2,.rf 1),(10000,.rf 0)],nSp ts w w.du (spE ts w w.ob.length),8⟩=some (.ext 2,e):=by
 have hbb:=I.bb;have hb:=I.b;have hcn:=qid w.du;have hdul:=I.du;obtain ⟨hE0,hE1⟩:=qis I hT w.ob.length (Aq _);refine vpd (fun r s=>∃(D:List Bool) (E:List Int) (lo:Nat) (tv:TV),SpL ts w D E lo tv r∧s=⟨[(0,.rf 0),(2,tv),(10000,.rf 0)],nSp ts w D E,8⟩) 2 _ (m:=100000) (va1 zo) ⟨w.du,spE ts w w.ob.length,0,.rf 1,⟨.start I hT,hE0,⟨by omega,.inl ⟨rfl,rfl⟩⟩,by omega,by omega⟩,rfl⟩ ?_
 rintro r _ hr ⟨D,E,lo,tv,⟨J,hE,⟨hlo,hP⟩,hEl,hm⟩,rfl⟩
 have hDl:=J.l;have n0:Au 0=0:=rfl;have n1:Au 1=1:=rfl;have zE:(List.take (E.length-lo) (Az lo (E.map vak))).length=E.length-lo:=by simp
 have e0:IntKind.i64.wrap (0-1)= -1:=by rw [vay]<;>omega
 have e9:(-1:Int)<0:=by omega
 by_cases hlt:lo<E.length
 ·left;obtain ⟨x,hx⟩:∃b,E[lo]? =some b:=⟨_,Ac hlt⟩
  have hdr:E.drop lo=x::E.drop (lo+1):=by
   rw [List.drop_eq_getElem_cons hlt];rw [Ac hlt] at hx;cases hx;rfl
  rw [hdr] at J;have hxr:=hE.get hx;have hgt:((E.length-lo:Nat):Int)>0:=by omega
  have s1:(((E.length-lo:Nat):Int)-1).toNat=E.length-(lo+1):=by omega
  have s2:((E.length:Int)-1).toNat=E.length-(0+1):=by omega
  have hz:∃(D':List Bool) (E':List Int) (lo':Nat) (tv':TV),SpL ts w D' E' lo' tv' (r-1)∧round (T (d+2)) vae [0,2,10000] vdk ⟨[(0,.rf 0),(2,tv),(10000,.rf 0)],nSp ts w D E,8⟩=some (.nrm,⟨[(0,.rf 0),(2,tv'),(10000,.rf 0)],nSp ts w D' E',8⟩):=by
   by_cases x0:x=0
   ·subst x0;refine ⟨D,E,lo+1,.sb 1 (lo+1) (E.length-(lo+1)),⟨J.skip (.inl zo),hE,⟨by omega,.inr rfl⟩,hEl,by omega⟩,?_⟩;clear I J hdr;obtain ⟨ob,du,sl,hs,ir,dm,wa,he⟩:=w;unfold round nSp vdk;dsimp only at *;rcases hP with ⟨rfl,rfl⟩|rfl
    ·have hgt':(E.length:Int)>0:=by omega
     simp -implicitDefEqProofs (disch:=first|exact zd|fail) only [go_sem,Aa,Ab,n0,n1,hx,hgt',e0,s2,Av]
     (show some _=some _;kernel_rfl)
    ·simp -implicitDefEqProofs (disch:=first|exact zd|fail) only [go_sem,Aa,Ab,zE,n0,n1,hx,hgt,e0,s1,Aw]
     (show some _=some _;kernel_rfl)
   ·obtain ⟨m,rfl⟩:∃m:Nat,x=(m:Int)+1:=⟨(x-1).toNat,by omega⟩
    have e1:IntKind.i64.wrap ((m:Int)+1-1)=(m:Nat):=by rw [vay]<;>omega
    have hmn:¬((m:Nat):Int)<0:=by omega
    have hmD:m<D.length:=by omega
    obtain ⟨u,hu⟩:∃b,D[m]? =some b:=⟨_,Ac hmD⟩
    cases u with
    |true=>
     refine ⟨D,E,lo+1,.sb 1 (lo+1) (E.length-(lo+1)),⟨J.skip (.inr (by rw [show ((m:Int)+1-1).toNat=m by omega];exact hu)),hE,⟨by omega,.inr rfl⟩,hEl,by omega⟩,?_⟩;clear I J hdr;obtain ⟨ob,du,sl,hs,ir,dm,wa,he⟩:=w;unfold round nSp vdk;dsimp only at *;rcases hP with ⟨rfl,rfl⟩|rfl
     ·have hgt':(E.length:Int)>0:=by omega
      simp -implicitDefEqProofs (disch:=first|exact zd|fail) only [go_sem,Aa,Ab,n0,n1,hx,hgt',e1,hmn,hu,s2,Av]
      (show some _=some _;kernel_rfl)
     ·simp -implicitDefEqProofs (disch:=first|exact zd|fail) only [go_sem,Aa,Ab,zE,n0,n1,hx,hgt,e1,hmn,hu,s1,Aw]
      (show some _=some _;kernel_rfl)
    |false=>
     have hc:=qko hu;have h2:=qav (d:=d) I hT (m:=m) zo (D.set m true);obtain ⟨hR,hl⟩:=vzw I hT (m:=m) zo;have J':=J.step I hT hmD;have hcl:=qid D;refine ⟨D.set m true,E.drop (lo+1)++nmW ts w.ob m,0,.rf 1,⟨J',(hE.drop _).app hR,⟨by omega,.inl ⟨rfl,rfl⟩⟩,by rw [Am,An];omega,by rw [Am,An];omega⟩,?_⟩;clear J' hR hdr;generalize nmW ts w.ob m=out at *;have z1:((E.map vak).drop (lo+1)).length≤100000:=by rw [An,Aj];omega
     have z2:(out.map vak).length≤100000:=by rw [Aj];omega
     have hlo1:lo+1≤E.length:=hlt;have hds:(D.map eBl).set m (.a (.bool true))=(D.set m true).map eBl:=(List.map_set (f:=eBl)).symm;clear I J;obtain ⟨ob,du,sl,hs,ir,dm,wa,he⟩:=w;dsimp only [cWf] at *;unfold round nSp vdk;dsimp only at *;rw [Ax,List.map_drop];rcases hP with ⟨rfl,rfl⟩|rfl
     ·have hgt':(E.length:Int)>0:=by omega
      have z1':(Az 1 (E.map vak)).length≤100000:=z1;simp -implicitDefEqProofs (disch:=first|exact zd|fail) only [go_sem,Aa,Ab,n0,n1,hx,hgt',e1,hmn,hu,hds,s2,Av,h2]
      (show some _=some _;kernel_rfl)
     ·simp -implicitDefEqProofs (disch:=first|exact zd|fail) only [go_sem,Aa,Ab,zE,n0,n1,hx,hgt,e1,hmn,hu,hds,s1,Aw,h2]
      (show some _=some _;kernel_rfl)
  obtain ⟨D',E',lo',tv',h1,h6⟩:=hz;have h2:0<r:=by omega
  exact ⟨h2,_,h6,D',E',lo',tv',h1,rfl⟩
 ·right;obtain rfl:lo=E.length:=by omega
  have hle:¬((E.length-E.length:Nat):Int)>0:=by omega
  rw [List.drop_length] at J;rw [←J.done I hT];refine ⟨_,?_,E,tv,⟨by omega,hP⟩,rfl⟩;clear I J;obtain ⟨ob,du,sl,hs,ir,dm,wa,he⟩:=w;unfold round nSp vdk;dsimp only at *;rcases hP with ⟨rfl,h0⟩|rfl
  ·have hle':¬((E.length:Nat):Int)>0:=by omega
   simp -implicitDefEqProofs (disch:=first|exact zd|fail) only [go_sem,Aa,Ab,hle']
  ·simp -implicitDefEqProofs (disch:=first|exact zd|fail) only [go_sem,Aa,Ab,zE,hle]
theorem qxy {d:Nat} {ts:List ByteArray} {B:Nat} {w:Wd} (I:Wok ts B w) (hT:Ty23 ts):vaf (T (d+2)) vae vec [cWf false ts w]=some ([],[cWf false ts {w with du:=comD ts w}]):=by
 have k0:=qmw (d:=d) I hT;obtain ⟨_,⟨E,tv,⟨_,hP⟩,rfl⟩,k1⟩:=qms (d:=d) I hT;have z1:w.sl.length≤100000:=by rw [I.sl];omega
 clear I;rw [show spE ts w 0=w.sl from rfl] at k0;generalize spE ts w w.ob.length=E0 at *;generalize comD ts w=D at *;rw [vab rfl];obtain ⟨ob,du,sl,hs,ir,dm,wa,he⟩:=w;unfold nSp at k0 k1;dsimp only [cWf] at *;rcases hP with ⟨rfl,h0⟩|rfl
 ·simp -implicitDefEqProofs (disch:=first|exact zd|fail) only [go_sem,Aa,Ab,vec,vlg,Ap,va5 k0,va5 k1]
 ·simp -implicitDefEqProofs (disch:=first|exact zd|fail) only [go_sem,Aa,Ab,vec,vlg,Ap,va5 k0,va5 k1]
theorem qsh {d:Nat} {ts:List ByteArray} {B:Nat} {w:Wd} (I:Wok ts B w) (x:Act') (hk:x.kind=10) (hi:w.inR=true):rOf (d+3) vap ts w x 6 0 w:=by
 clear I;unfold rOf;obtain ⟨xk,xa,xb,xc,xp,xq⟩:=x;obtain ⟨ob,du,sl,hd,ir,dm,wa,he⟩:=w;dsimp only at *;subst hk hi;rw [vab rfl];simp -implicitDefEqProofs (disch:=first|exact zd|fail) only [go_sem,Aa,Ab,vap,vbl,cWf]
theorem qwl {d:Nat} {ts:List ByteArray} {B:Nat} {w:Wd} (I:Wok ts B w) (hT:Ty23 ts) (x:Act') (hk:x.kind=10) (hi:w.inR=false):rOf (d+3) vap ts w x 0 0 {w with inR:=true,wa:=w.ob,he:=w.sl}:=by
 have hb:w.ob.length≤1048576:=by have:=I.b;have:=I.bb;omega
 have hv:∀o∈w.ob,o.vals.length≤1048576:=fun o ho=>by
  obtain ⟨s,g1,_,g3,_⟩:=I.ob o ho;have:=hT.z s (Af g1);omega
 have t1:=qvn (Φ:=T (d+2)) w.ob hb hv;have hs:(w.sl.map vak).length=8:=by rw [Aj];exact I.sl
 have hs2:=I.sl;clear I;unfold rOf;obtain ⟨xk,xa,xb,xc,xp,xq⟩:=x;obtain ⟨ob,du,sl,hd,ir,dm,wa,he⟩:=w;dsimp only at *;subst hk hi;rw [vab rfl];simp -implicitDefEqProofs (disch:=first|exact zd|fail) only [go_sem,Aa,Ab,vap,vbl,cWf,t1,Ap]
theorem qr8 {d:Nat} {ts:List ByteArray} {B:Nat} {w:Wd} (I:Wok ts B w) (x:Act') (hk:x.kind=11) (c:¬(0≤x.a∧x.a≤7)):rOf (d+3) vap ts w x 8 0 w:=by
 have t1:=vcq (Φ:=T (d+2)) (N:=vae) (n:=x.a) (lo:=0) (hi:=7);rw [decide_eq_false c] at t1;clear I;unfold rOf;obtain ⟨xk,xa,xb,xc,xp,xq⟩:=x;obtain ⟨ob,du,sl,hd,ir,dm,wa,he⟩:=w;dsimp only at *;subst hk;rw [vab rfl];simp -implicitDefEqProofs (disch:=first|exact zd|fail) only [go_sem,Aa,Ab,vap,vbl,cWf,t1]
theorem qt9 {d:Nat} {ts:List ByteArray} {B:Nat} {w:Wd} (I:Wok ts B w) (x:Act') (hk:x.kind=12) (c:¬(0≤x.a∧x.a≤7)):rOf (d+3) vap ts w x 8 0 w:=by
 have t1:=vcq (Φ:=T (d+2)) (N:=vae) (n:=x.a) (lo:=0) (hi:=7);rw [decide_eq_false c] at t1;clear I;unfold rOf;obtain ⟨xk,xa,xb,xc,xp,xq⟩:=x;obtain ⟨ob,du,sl,hd,ir,dm,wa,he⟩:=w;dsimp only at *;subst hk;rw [vab rfl];simp -implicitDefEqProofs (disch:=first|exact zd|fail) only [go_sem,Aa,Ab,vap,vbl,cWf,t1]
theorem qse {d:Nat} {ts:List ByteArray} {B:Nat} {w:Wd} (I:Wok ts B w) (x:Act') (hk:x.kind=12) {n:Nat} (hn:x.a=(n:Nat)) {v:Int} (hv:w.sl[n]? =some v) (hz:v=0):rOf (d+3) vap ts w x 0 (-1) w:=by
 have t1:=vcq (Φ:=T (d+2)) (N:=vae) (n:=x.a) (lo:=0) (hi:=7);have hsl:=I.sl;have l1:=(Ad.1 hv).1;rw [decide_eq_true zo] at t1;have hl:=I.hd;have t2:=qo3 (d:=d) (ts:=ts) (w:=w);subst hz;clear I;unfold rOf;obtain ⟨xk,xa,xb,xc,xp,xq⟩:=x;obtain ⟨ob,du,sl,hd,ir,dm,wa,he⟩:=w;dsimp only at *;subst hk hn;rw [vab rfl];simp -implicitDefEqProofs (disch:=first|exact zd|fail) only [go_sem,Aa,Ab,vap,vbl,cWf,t1,hv,t2]
theorem quv {d:Nat} {ts:List ByteArray} {B:Nat} {w:Wd} (I:Wok ts B w) (x:Act') (hk:x.kind=12) {n:Nat} (hn:x.a=(n:Nat)) {v:Int} (hv:w.sl[n]? =some v) (hz:v≠0) (hf:plc0 w.hd<0):rOf (d+3) vap ts w x 9 0 w:=by
 have t1:=vcq (Φ:=T (d+2)) (N:=vae) (n:=x.a) (lo:=0) (hi:=7);have hsl:=I.sl;have l1:=(Ad.1 hv).1;rw [decide_eq_true zo] at t1;have hl:=I.hd;have t2:=qnn (d:=d) (ts:=ts) hl hz hf;clear I;unfold rOf;obtain ⟨xk,xa,xb,xc,xp,xq⟩:=x;obtain ⟨ob,du,sl,hd,ir,dm,wa,he⟩:=w;dsimp only at *;subst hk hn;rw [vab rfl];simp -implicitDefEqProofs (disch:=first|exact zd|fail) only [go_sem,Aa,Ab,vap,vbl,cWf,t1,hv,t2]
theorem qxm {d:Nat} {ts:List ByteArray} {B:Nat} {w:Wd} (I:Wok ts B w) (x:Act') (hk:x.kind=12) {n:Nat} (hn:x.a=(n:Nat)) {v:Int} (hv:w.sl[n]? =some v) (hz:v≠0) (hf:¬plc0 w.hd<0):rOf (d+3) vap ts w x 0 (plc0 w.hd) {w with hd:=w.hd.set (plc0 w.hd).toNat v}:=by
 have t1:=vcq (Φ:=T (d+2)) (N:=vae) (n:=x.a) (lo:=0) (hi:=7);have hsl:=I.sl;have l1:=(Ad.1 hv).1;rw [decide_eq_true zo] at t1;have hl:=I.hd;have t2:=qvm (d:=d) (ts:=ts) hl hz hf;generalize plc0 w.hd=p at *;clear I;unfold rOf;obtain ⟨xk,xa,xb,xc,xp,xq⟩:=x;obtain ⟨ob,du,sl,hd,ir,dm,wa,he⟩:=w;dsimp only at *;subst hk hn;rw [vab rfl];simp -implicitDefEqProofs (disch:=first|exact zd|fail) only [go_sem,Aa,Ab,vap,vbl,cWf,t1,hv,t2]
theorem qry {d:Nat} {ts:List ByteArray} {B:Nat} {w:Wd} (I:Wok ts B w) (x:Act') (hk:x.kind=11) {n:Nat} (hn:x.a=(n:Nat)) {v:Int} (hv:w.sl[n]? =some v) (hb:x.b≠-1) (hu:usedW w x.b=false):rOf (d+3) vap ts w x 2 0 w:=by
 have t1:=vcq (Φ:=T (d+2)) (N:=vae) (n:=x.a) (lo:=0) (hi:=7);have hsl:=I.sl;have l1:=(Ad.1 hv).1;rw [decide_eq_true zo] at t1;have hl:=I.hd;have t2:=veu (d:=d+1) I x.b;rw [hu] at t2;clear I;unfold rOf;obtain ⟨xk,xa,xb,xc,xp,xq⟩:=x;obtain ⟨ob,du,sl,hd,ir,dm,wa,he⟩:=w;dsimp only at *;subst hk hn;rw [vab rfl];simp -implicitDefEqProofs (disch:=first|exact zd|fail) only [go_sem,Aa,Ab,vap,vbl,cWf,t1,t2]
theorem qnw {d:Nat} {ts:List ByteArray} {B:Nat} {w:Wd} (I:Wok ts B w) (x:Act') (hk:x.kind=11) {n:Nat} (hn:x.a=(n:Nat)) {v:Int} (hv:w.sl[n]? =some v) (hi:w.inR=false) (hb:x.b= -1):rOf (d+3) vap ts w x 6 0 w:=by
 have t1:=vcq (Φ:=T (d+2)) (N:=vae) (n:=x.a) (lo:=0) (hi:=7);have hsl:=I.sl;have l1:=(Ad.1 hv).1;rw [decide_eq_true zo] at t1;have hl:=I.hd;clear I;unfold rOf;obtain ⟨xk,xa,xb,xc,xp,xq⟩:=x;obtain ⟨ob,du,sl,hd,ir,dm,wa,he⟩:=w;dsimp only at *;subst hk hn hi hb;rw [vab rfl];simp -implicitDefEqProofs (disch:=first|exact zd|fail) only [go_sem,Aa,Ab,vap,vbl,cWf,t1]
theorem qov {d:Nat} {ts:List ByteArray} {B:Nat} {w:Wd} (I:Wok ts B w) (x:Act') (hk:x.kind=11) {n:Nat} (hn:x.a=(n:Nat)) {v:Int} (hv:w.sl[n]? =some v) (hi:w.inR=false) (hb:x.b≠-1) (hu:usedW w x.b=true):rOf (d+3) vap ts w x 6 0 w:=by
 have t1:=vcq (Φ:=T (d+2)) (N:=vae) (n:=x.a) (lo:=0) (hi:=7);have hsl:=I.sl;have l1:=(Ad.1 hv).1;rw [decide_eq_true zo] at t1;have hl:=I.hd;have t2:=veu (d:=d+1) I x.b;rw [hu] at t2;clear I;unfold rOf;obtain ⟨xk,xa,xb,xc,xp,xq⟩:=x;obtain ⟨ob,du,sl,hd,ir,dm,wa,he⟩:=w;dsimp only at *;subst hk hn hi;rw [vab rfl];simp -implicitDefEqProofs (disch:=first|exact zd|fail) only [go_sem,Aa,Ab,vap,vbl,cWf,t1,t2]
theorem qul {d:Nat} {ts:List ByteArray} {B:Nat} {w:Wd} (I:Wok ts B w) (x:Act') (hk:x.kind=11) {n:Nat} (hn:x.a=(n:Nat)) {v:Int} (hv:w.sl[n]? =some v) (hi:w.inR=true) (hc:x.b≤11) (hb:x.b= -1):rOf (d+3) vap ts w x 0 0 {w with sl:=w.sl.set n (refW w x.b)}:=by
 have t1:=vcq (Φ:=T (d+2)) (N:=vae) (n:=x.a) (lo:=0) (hi:=7);have hsl:=I.sl;have l1:=(Ad.1 hv).1;rw [decide_eq_true zo] at t1;have hl:=I.hd;have t3:=quf (d:=d+2) (ts:=ts) hl x.b hc;generalize refW w x.b=r at *;clear I;unfold rOf;obtain ⟨xk,xa,xb,xc,xp,xq⟩:=x;obtain ⟨ob,du,sl,hd,ir,dm,wa,he⟩:=w;dsimp only at *;subst hk hn hi hb;rw [vab rfl];simp -implicitDefEqProofs (disch:=first|exact zd|fail) only [go_sem,Aa,Ab,vap,vbl,cWf,t1,hv,t3]
theorem qu7 {d:Nat} {ts:List ByteArray} {B:Nat} {w:Wd} (I:Wok ts B w) (x:Act') (hk:x.kind=11) {n:Nat} (hn:x.a=(n:Nat)) {v:Int} (hv:w.sl[n]? =some v) (hi:w.inR=true) (hc:x.b≤11) (hb:x.b≠-1) (hu:usedW w x.b=true):rOf (d+3) vap ts w x 0 0 {w with sl:=w.sl.set n (refW w x.b)}:=by
 have t1:=vcq (Φ:=T (d+2)) (N:=vae) (n:=x.a) (lo:=0) (hi:=7);have hsl:=I.sl;have l1:=(Ad.1 hv).1;rw [decide_eq_true zo] at t1;have hl:=I.hd;have t3:=quf (d:=d+2) (ts:=ts) hl x.b hc;generalize refW w x.b=r at *;have t2:=veu (d:=d+1) I x.b;rw [hu] at t2;clear I;unfold rOf;obtain ⟨xk,xa,xb,xc,xp,xq⟩:=x;obtain ⟨ob,du,sl,hd,ir,dm,wa,he⟩:=w;dsimp only at *;subst hk hn hi;rw [vab rfl];simp -implicitDefEqProofs (disch:=first|exact zd|fail) only [go_sem,Aa,Ab,vap,vbl,cWf,t1,hv,t3,t2]
theorem qs0 {d:Nat} {ts:List ByteArray} {B:Nat} {w:Wd} (I:Wok ts B w) (x:Act') (hk:x.kind=13) (hi:w.inR=false):rOf (d+3) vap ts w x 6 0 w:=by
 clear I;unfold rOf;obtain ⟨xk,xa,xb,xc,xp,xq⟩:=x;obtain ⟨ob,du,sl,hd,ir,dm,wa,he⟩:=w;dsimp only at *;subst hk hi;rw [vab rfl];simp -implicitDefEqProofs (disch:=first|exact zd|fail) only [go_sem,Aa,Ab,vap,vbl,cWf]
theorem qus {d:Nat} {ts:List ByteArray} {B:Nat} {w:Wd} (I:Wok ts B w) (x:Act') (hk:x.kind=14) (hi:w.inR=false):rOf (d+3) vap ts w x 6 0 w:=by
 clear I;unfold rOf;obtain ⟨xk,xa,xb,xc,xp,xq⟩:=x;obtain ⟨ob,du,sl,hd,ir,dm,wa,he⟩:=w;dsimp only at *;subst hk hi;rw [vab rfl];simp -implicitDefEqProofs (disch:=first|exact zd|fail) only [go_sem,Aa,Ab,vap,vbl,cWf]
theorem qx7 {d:Nat} {ts:List ByteArray} {B:Nat} {w:Wd} (I:Wok ts B w) (hT:Ty23 ts) (x:Act') (hk:x.kind=13) (hi:w.inR=true):rOf (d+3) vap ts w x 0 0 ⟨w.ob,comD ts w,w.sl,w.hd,false,false,[],[]⟩:=by
 have t1:=qxy (d:=d) I hT;have t2:=zdn (d:=d+2) (ts:=ts) (w:={w with du:=comD ts w});generalize comD ts w=D at *;clear I;unfold rOf;obtain ⟨xk,xa,xb,xc,xp,xq⟩:=x;obtain ⟨ob,du,sl,hd,ir,dm,wa,he⟩:=w;dsimp only at *;subst hk hi;rw [vab rfl];simp -implicitDefEqProofs (disch:=first|exact zd|fail) only [go_sem,Aa,Ab,vap,vbl,cWf,t1,t2]
theorem qxs {d:Nat} {ts:List ByteArray} {B:Nat} {w:Wd} (I:Wok ts B w) (x:Act') (hk:x.kind=14) (hi:w.inR=true):rOf (d+3) vap ts w x 0 0 ⟨backO w,w.du,w.he,w.hd,false,false,[],[]⟩:=by
 have t1:=qva (d:=d+1) (ts:=ts) (w:=w) (by have:=I.b;have:=I.bb;omega) I.du I.wal;generalize backO w=O at *;clear I;unfold rOf;obtain ⟨xk,xa,xb,xc,xp,xq⟩:=x;obtain ⟨ob,du,sl,hd,ir,dm,wa,he⟩:=w;dsimp only at *;subst hk hi;rw [vab rfl];simp -implicitDefEqProofs (disch:=first|exact zd|fail) only [go_sem,Aa,Ab,vap,vbl,cWf,t1]
theorem vkc {d:Nat} {n lo hi:Int} (c:lo≤n∧n≤hi):vaf (T d) vae vfn [.a (.int .i64 n),.a (.int .i64 lo),.a (.int .i64 hi)]=some ([.a (.bool true)],[]):=by
 have h:=vcq (Φ:=T d) (N:=vae) (n:=n) (lo:=lo) (hi:=hi);rw [decide_eq_true c] at h;exact h
theorem vh6 {d:Nat} {n lo hi:Int} (c:¬(lo≤n∧n≤hi)):vaf (T d) vae vfn [.a (.int .i64 n),.a (.int .i64 lo),.a (.int .i64 hi)]=some ([.a (.bool false)],[]):=by
 have h:=vcq (Φ:=T d) (N:=vae) (n:=n) (lo:=lo) (hi:=hi);rw [decide_eq_false c] at h;exact h
theorem za6 {d:Nat} {ts:List ByteArray} {w:Wd} (x:Act') (hd:w.dm=true) (hk:¬(14≤x.kind∧x.kind≤18)):rOf (d+4) va3 ts w x 7 0 w:=by
 have tc:=vsu (d:=d+2) x.kind;rw [decide_eq_false hk] at tc;unfold rOf at *;obtain ⟨xk,xa,xb,xc,xp,xq⟩:=x;obtain ⟨ob,du,sl,hd,ir,dm,wa,he⟩:=w;dsimp only at *;subst hd;rw [vab rfl];simp -implicitDefEqProofs (disch:=first|exact zd|fail) only [go_sem,Aa,Ab,va3,vcd,cWf,tc]
theorem qr7 {d:Nat} {ts:List ByteArray} {w:Wd} (x:Act') (cd:¬(w.dm=true∧¬(14≤x.kind∧x.kind≤18))) (hk:¬(1≤x.kind∧x.kind≤18)):rOf (d+4) va3 ts w x 1 0 w:=by
 have tc:=vsu (d:=d+2) x.kind;have t1:=vh6 (d:=d+3) (n:=x.kind) (lo:=1) (hi:=18) zo;unfold rOf at *;obtain ⟨xk,xa,xb,xc,xp,xq⟩:=x;obtain ⟨ob,du,sl,hd,ir,dm,wa,he⟩:=w;dsimp only at *;cases dm with
 |false=>
  rw [vab rfl];simp -implicitDefEqProofs (disch:=first|exact zd|fail) only [go_sem,Aa,Ab,va3,vcd,cWf,t1]
 |true=>
  have c:14≤xk∧xk≤18:=Ag fun h=>cd ⟨rfl,h⟩;rw [decide_eq_true c] at tc;rw [vab rfl];simp -implicitDefEqProofs (disch:=first|exact zd|fail) only [go_sem,Aa,Ab,va3,vcd,cWf,t1,tc]
theorem vui {d:Nat} {ts:List ByteArray} {w:Wd} (x:Act') (cd:¬(w.dm=true∧¬(14≤x.kind∧x.kind≤18))) (hk:2≤x.kind∧x.kind≤5) {c n:Int} {w':Wd} (h:rOf (d+3) va2 ts w x c n w'):rOf (d+4) va3 ts w x c n w':=by
 have tc:=vsu (d:=d+2) x.kind;have t1:=vkc (d:=d+3) (n:=x.kind) (lo:=1) (hi:=18) zo;have t2:=vkc (d:=d+3) (n:=x.kind) (lo:=2) (hi:=5) zo;obtain ⟨ob',du',sl',hd',ir',dm',wa',he'⟩:=w';unfold rOf at *;obtain ⟨xk,xa,xb,xc,xp,xq⟩:=x;obtain ⟨ob,du,sl,hd,ir,dm,wa,he⟩:=w;dsimp only at *;cases dm with
 |false=>
  rw [vab rfl];simp -implicitDefEqProofs (disch:=first|exact zd|fail) only [go_sem,Aa,Ab,va3,vcd,cWf,t1,t2,h]
 |true=>
  have c:14≤xk∧xk≤18:=Ag fun h=>cd ⟨rfl,h⟩;rw [decide_eq_true c] at tc;rw [vab rfl];simp -implicitDefEqProofs (disch:=first|exact zd|fail) only [go_sem,Aa,Ab,va3,vcd,cWf,t1,t2,h,tc]
theorem vq3 {d:Nat} {ts:List ByteArray} {w:Wd} (x:Act') (cd:¬(w.dm=true∧¬(14≤x.kind∧x.kind≤18))) (hk:x.kind=1∨6≤x.kind∧x.kind≤9) {c n:Int} {w':Wd} (h:rOf (d+3) vax ts w x c n w'):rOf (d+4) va3 ts w x c n w':=by
 have tc:=vsu (d:=d+2) x.kind;have t1:=vkc (d:=d+3) (n:=x.kind) (lo:=1) (hi:=18) zo;have t2:=vh6 (d:=d+3) (n:=x.kind) (lo:=2) (hi:=5) zo;have t3:=vkc (d:=d+3) (n:=x.kind) (lo:=1) (hi:=9) zo;obtain ⟨ob',du',sl',hd',ir',dm',wa',he'⟩:=w';unfold rOf at *;obtain ⟨xk,xa,xb,xc,xp,xq⟩:=x;obtain ⟨ob,du,sl,hd,ir,dm,wa,he⟩:=w;dsimp only at *;cases dm with
 |false=>
  rw [vab rfl];simp -implicitDefEqProofs (disch:=first|exact zd|fail) only [go_sem,Aa,Ab,va3,vcd,cWf,t1,t2,t3,h]
 |true=>
  have c:14≤xk∧xk≤18:=Ag fun h=>cd ⟨rfl,h⟩;rw [decide_eq_true c] at tc;rw [vab rfl];simp -implicitDefEqProofs (disch:=first|exact zd|fail) only [go_sem,Aa,Ab,va3,vcd,cWf,t1,t2,t3,h,tc]
theorem vlt {d:Nat} {ts:List ByteArray} {w:Wd} (x:Act') (cd:¬(w.dm=true∧¬(14≤x.kind∧x.kind≤18))) (hk:10≤x.kind∧x.kind≤14) {c n:Int} {w':Wd} (h:rOf (d+3) vap ts w x c n w'):rOf (d+4) va3 ts w x c n w':=by
 have tc:=vsu (d:=d+2) x.kind;have t1:=vkc (d:=d+3) (n:=x.kind) (lo:=1) (hi:=18) zo;have t2:=vh6 (d:=d+3) (n:=x.kind) (lo:=2) (hi:=5) zo;have t3:=vh6 (d:=d+3) (n:=x.kind) (lo:=1) (hi:=9) zo;have t4:=vkc (d:=d+3) (n:=x.kind) (lo:=10) (hi:=14) zo;obtain ⟨ob',du',sl',hd',ir',dm',wa',he'⟩:=w';unfold rOf at *;obtain ⟨xk,xa,xb,xc,xp,xq⟩:=x;obtain ⟨ob,du,sl,hd,ir,dm,wa,he⟩:=w;dsimp only at *;cases dm with
 |false=>
  rw [vab rfl];simp -implicitDefEqProofs (disch:=first|exact zd|fail) only [go_sem,Aa,Ab,va3,vcd,cWf,t1,t2,t3,t4,h]
 |true=>
  have c:14≤xk∧xk≤18:=Ag fun h=>cd ⟨rfl,h⟩;rw [decide_eq_true c] at tc;rw [vab rfl];simp -implicitDefEqProofs (disch:=first|exact zd|fail) only [go_sem,Aa,Ab,va3,vcd,cWf,t1,t2,t3,t4,h,tc]
theorem zeb {d:Nat} {ts:List ByteArray} {w:Wd} (x:Act') (cd:¬(w.dm=true∧¬(14≤x.kind∧x.kind≤18))) (hk:15≤x.kind∧x.kind≤17):rOf (d+4) va3 ts w x 0 0 w:=by
 have tc:=vsu (d:=d+2) x.kind;have t1:=vkc (d:=d+3) (n:=x.kind) (lo:=1) (hi:=18) zo;have t2:=vh6 (d:=d+3) (n:=x.kind) (lo:=2) (hi:=5) zo;have t3:=vh6 (d:=d+3) (n:=x.kind) (lo:=1) (hi:=9) zo;have t4:=vh6 (d:=d+3) (n:=x.kind) (lo:=10) (hi:=14) zo;have hk18:¬x.kind=18:=by omega
 unfold rOf at *;obtain ⟨xk,xa,xb,xc,xp,xq⟩:=x;obtain ⟨ob,du,sl,hd,ir,dm,wa,he⟩:=w;dsimp only at *;cases dm with
 |false=>
  rw [vab rfl];simp -implicitDefEqProofs (disch:=first|exact zd|fail) only [go_sem,Aa,Ab,va3,vcd,cWf,t1,t2,t3,t4,hk18]
 |true=>
  have c:14≤xk∧xk≤18:=Ag fun h=>cd ⟨rfl,h⟩;rw [decide_eq_true c] at tc;rw [vab rfl];simp -implicitDefEqProofs (disch:=first|exact zd|fail) only [go_sem,Aa,Ab,va3,vcd,cWf,t1,t2,t3,t4,hk18,tc]
theorem qww {d:Nat} {ts:List ByteArray} {w:Wd} (x:Act') (cd:¬(w.dm=true∧¬(14≤x.kind∧x.kind≤18))) (hk:x.kind=18) (hi:w.inR=false):rOf (d+4) va3 ts w x 0 0 {w with hd:=Ai 12 0}:=by
 have tc:=vsu (d:=d+2) x.kind;have t1:=vkc (d:=d+3) (n:=x.kind) (lo:=1) (hi:=18) zo;have t2:=vh6 (d:=d+3) (n:=x.kind) (lo:=2) (hi:=5) zo;have t3:=vh6 (d:=d+3) (n:=x.kind) (lo:=1) (hi:=9) zo;have t4:=vh6 (d:=d+3) (n:=x.kind) (lo:=10) (hi:=14) zo;have ez:(Ai 12 (0:Int)).map vak=Ai (Au 12) (.a (.int .i64 0)):=rfl;unfold rOf cWf;dsimp only;rw [ez];obtain ⟨xk,xa,xb,xc,xp,xq⟩:=x;obtain ⟨ob,du,sl,hd,ir,dm,wa,he⟩:=w;dsimp only at *;subst hi hk;cases dm with
 |false=>
  rw [vab rfl];simp -implicitDefEqProofs (disch:=first|exact zd|fail) only [go_sem,Aa,Ab,va3,vcd,t1,t2,t3,t4]
 |true=>
  have c:14≤(18:Int)∧(18:Int)≤18:=Ag fun h=>cd ⟨rfl,h⟩;rw [decide_eq_true c] at tc;rw [vab rfl];simp -implicitDefEqProofs (disch:=first|exact zd|fail) only [go_sem,Aa,Ab,va3,vcd,t1,t2,t3,t4,tc]
theorem za0 {d:Nat} {ts:List ByteArray} {w:Wd} (x:Act') (cd:¬(w.dm=true∧¬(14≤x.kind∧x.kind≤18))) (hk:x.kind=18) (hi:w.inR=true) (hb:w.ob.length≤1000) (hdu:w.du.length=w.ob.length) (hwal:w.wa.length≤w.ob.length):rOf (d+4) va3 ts w x 0 0 ⟨backO w,w.du,w.he,Ai 12 0,false,false,[],[]⟩:=by
 have tc:=vsu (d:=d+2) x.kind;have t1:=vkc (d:=d+3) (n:=x.kind) (lo:=1) (hi:=18) zo;have t2:=vh6 (d:=d+3) (n:=x.kind) (lo:=2) (hi:=5) zo;have t3:=vh6 (d:=d+3) (n:=x.kind) (lo:=1) (hi:=9) zo;have t4:=vh6 (d:=d+3) (n:=x.kind) (lo:=10) (hi:=14) zo;have ez:(Ai 12 (0:Int)).map vak=Ai (Au 12) (.a (.int .i64 0)):=rfl;have t5:=qva (d:=d+2) (ts:=ts) hb hdu hwal;unfold cWf at t5;unfold rOf cWf;dsimp only at t5⊢;rw [ez];generalize backO w=O at *;obtain ⟨xk,xa,xb,xc,xp,xq⟩:=x;obtain ⟨ob,du,sl,hd,ir,dm,wa,he⟩:=w;dsimp only at *;subst hi hk;cases dm with
 |false=>
  rw [vab rfl];simp -implicitDefEqProofs (disch:=first|exact zd|fail) only [go_sem,Aa,Ab,va3,vcd,t1,t2,t3,t4,t5]
 |true=>
  have c:14≤(18:Int)∧(18:Int)≤18:=Ag fun h=>cd ⟨rfl,h⟩;rw [decide_eq_true c] at tc;rw [vab rfl];simp -implicitDefEqProofs (disch:=first|exact zd|fail) only [go_sem,Aa,Ab,va3,vcd,t1,t2,t3,t4,t5,tc]
def Two (ts:List ByteArray):Prop:=∀s∈ts,∀j,j<s.size→kAt s j=105∨kAt s j=114
theorem qre {ts:List ByteArray} {B:Nat} {w:Wd} (I:Wok ts B w) {x:Act'} (u1:usedW w x.a=true) (c1:0≤x.b∧x.b≤((objW w x.a).vals.length:Int)-1):∃(n m j t:Nat) (vs:List Int) (s:ByteArray) (v:Int),
  x.a=(n:Nat)∧w.hd[n]? =some ((m:Int)+1)∧m<1000∧w.ob[m]? =some ⟨t,vs⟩∧ts[t]? =some s∧x.b=(j:Nat)∧j<s.size∧vs[j]? =some v∧kindW ts (objW w x.a) x.b=kAt s j∧valW w x=v:=by
 obtain ⟨n,m,hn,hn12,hnm,hm,hm1,hh⟩:=vjd I u1;obtain ⟨⟨ot,vs⟩,ho⟩:∃o,w.ob[m]? =some o:=⟨_,Ac hm⟩
 obtain ⟨s,g1,g2,g3,g4⟩:=I.ob _ (Af ho);dsimp only at g1 g2 g3;obtain ⟨t,rfl⟩:∃t:Nat,ot=t:=⟨ot.toNat,by omega⟩
 rw [Ae] at g1;have eo:objW w x.a=⟨t,vs⟩:=by unfold objW;rw [hh,show ((m:Int)+1).toNat-1=m by omega,ho];rfl
 rw [eo] at c1⊢;dsimp only at c1;obtain ⟨j,hj⟩:∃j:Nat,x.b=j:=⟨x.b.toNat,by omega⟩
 obtain ⟨v,hv⟩:∃v,vs[j]? =some v:=⟨_,Ac zo⟩
 have ek:kindW ts ⟨t,vs⟩ x.b=kAt s j:=by unfold kindW;rw [Ae,g1,hj];rfl
 refine ⟨n,m,j,t,vs,s,v,hn,hnm,hm1,ho,g1,hj,by omega,hv,ek,?_⟩;unfold valW;rw [eo,hj,Ae];dsimp only;rw [hv];rfl
theorem qye {ts:List ByteArray} {B:Nat} {w:Wd} (I:Wok ts B w) (hK:Two ts) (x:Act'):fldW ts w x=if fld0W ts w x=0 then (if x.kind=4∧valW w x≠0∧plc0 w.hd<0 then 9 else 0) else fld0W ts w x:=by
 unfold fldW fld0W;by_cases c0:usedW w x.a=false∨x.kind=5∧x.c≠-1∧usedW w x.c=false
 ·rw [if_pos c0,if_pos c0,if_neg (by decide)]
 rw [if_neg c0,if_neg c0];by_cases c1:0≤x.b∧x.b≤((objW w x.a).vals.length:Int)-1
 case neg=>rw [if_pos c1,if_pos c1,if_neg (by decide)]
 have n1:¬¬(0≤x.b∧x.b≤((objW w x.a).vals.length:Int)-1):=fun h=>h c1;rw [if_neg n1,if_neg n1];have u1:usedW w x.a=true:=by
  cases hu:usedW w x.a with
  |true=>rfl
  |false=>exact absurd (.inl hu) c0
 obtain ⟨n,m,j,t,vs,s,v,_,_,_,_,g1,_,hjs,_,ek,_⟩:=qre I u1 c1;have hk:=hK s (Af g1) j hjs;have e:(¬(x.kind=4∨x.kind=5)↔kindW ts (objW w x.a) x.b=114)↔kindW ts (objW w x.a) x.b≠knd x:=by
  rw [ek];unfold knd;by_cases p:x.kind=4∨x.kind=5
  ·rw [if_pos p];exact ⟨fun h hq=>h.2 hq p,fun h=>⟨fun h2=>absurd p h2,fun h2=>absurd h2 h⟩⟩
  ·rw [if_neg p];exact ⟨fun h=>by have:=h.1 p;omega,fun h=>⟨fun _=>by omega,fun _=>p⟩⟩
 by_cases c2:kindW ts (objW w x.a) x.b≠knd x
 ·rw [if_pos (e.2 c2),if_pos c2,if_neg (by decide)]
 rw [if_neg (fun h=>c2 (e.1 h)),if_neg c2];by_cases c3:(x.kind=3∨x.kind=5)∧w.inR=false∧durW w x.a=true
 ·rw [if_pos c3,if_pos c3,if_neg (by decide)]
 rw [if_neg c3,if_neg c3,if_pos rfl]
theorem qsa {ts:List ByteArray} {w:Wd} {x:Act'} (h:fld0W ts w x=0):usedW w x.a=true∧(0≤x.b∧x.b≤((objW w x.a).vals.length:Int)-1):=by
 unfold fld0W at h;by_cases c0:usedW w x.a=false∨x.kind=5∧x.c≠-1∧usedW w x.c=false
 ·rw [if_pos c0] at h;exact absurd h (by decide)
 rw [if_neg c0] at h;by_cases c1:0≤x.b∧x.b≤((objW w x.a).vals.length:Int)-1
 case neg=>rw [if_pos c1] at h;exact absurd h (by decide)
 refine ⟨?_,c1⟩;cases hu:usedW w x.a with
 |true=>rfl
 |false=>exact absurd (.inl hu) c0
abbrev DoS (d:Nat) (ts:List ByteArray) (w:Wd) (x:Act'):Prop:=rOf (d+4) va3 ts w x (codeW ts w x) (if codeW ts w x=0 then (effW ts w x).1 else 0) (if codeW ts w x=0 then (effW ts w x).2 else w)
theorem DoS.bad {d:Nat} {ts:List ByteArray} {w:Wd} {x:Act'} {c:Int} (e:codeW ts w x=c) (h:c≠0) (r:rOf (d+4) va3 ts w x c 0 w):DoS d ts w x:=by
 unfold DoS;rw [e,if_neg h,if_neg h];exact r
theorem DoS.ok {d:Nat} {ts:List ByteArray} {w w':Wd} {x:Act'} {n:Int} (e:codeW ts w x=0) (h:effW ts w x=(n,w')) (r:rOf (d+4) va3 ts w x 0 n w'):DoS d ts w x:=by
 unfold DoS;rw [e,if_pos rfl,if_pos rfl,h];exact r
theorem qyq {d:Nat} {ts:List ByteArray} {B:Nat} {w:Wd} (I:Wok ts B w) (hT:Ty23 ts) (hK:Two ts) (hB:B+1≤400) (x:Act'):DoS d ts w x:=by
 have hb:=I.b;have hbb:=I.bb;have hdu:=I.du;by_cases cd:w.dm=true∧¬(14≤x.kind∧x.kind≤18)
 ·exact .bad (c:=7) (by unfold codeW;rw [if_pos cd]) (by decide) (za6 x cd.1 cd.2)
 have code:∀c:Int,(if x.kind=1 then (if ¬(0≤x.a∧x.a≤(ts.length:Int)-1) then 3 else if plc0 w.hd<0 then 9 else 0)
  else if 2≤x.kind∧x.kind≤5 then fldW ts w x
  else if x.kind=6∨x.kind=8∨x.kind=9 then (if usedW w x.a then 0 else 2)
  else if x.kind=7 then (if usedW w x.a&&usedW w x.b then 0 else 2)
  else if x.kind=10 then (if w.inR then 6 else 0)
  else if x.kind=11 then (if ¬(0≤x.a∧x.a≤7) then 8 else if x.b≠-1∧usedW w x.b=false then 2 else if w.inR then 0 else 6)
  else if x.kind=12 then (if ¬(0≤x.a∧x.a≤7) then 8 else if w.sl[x.a.toNat]?.getD 0≠0∧plc0 w.hd<0 then 9 else 0)
  else if x.kind=13∨x.kind=14 then (if w.inR then 0 else 6)
  else if 15≤x.kind∧x.kind≤18 then 0 else 1)=c→codeW ts w x=c:=fun c h=>by unfold codeW;rw [if_neg cd];exact h
 by_cases k1:x.kind=1
 ·have hn12:=hT.n1;rw [if_pos k1] at code;by_cases c1:0≤x.a∧x.a≤(ts.length:Int)-1
  case neg=>exact .bad (code 3 (by rw [if_pos c1])) (by decide) (vq3 x cd (.inl k1) (quq (d:=d+1) I x k1 hn12 c1))
  rw [if_neg (fun h=>h c1)] at code;by_cases c2:plc0 w.hd<0
  ·exact .bad (code 9 (by rw [if_pos c2])) (by decide) (vq3 x cd (.inl k1) (qsq (d:=d+1) I x k1 hn12 c1 c2))
  obtain ⟨n,hn⟩:∃n:Nat,x.a=n:=⟨x.a.toNat,by omega⟩
  obtain ⟨s,hs⟩:∃s,ts[n]? =some s:=⟨_,Ac zo⟩
  have hz:=hT.z s (Af hs);refine .ok (code 0 (by rw [if_neg c2])) ?_ (vq3 x cd (.inl k1) (qw4 (d:=d+1) I x k1 hn12 hn hs hz c2 zo));unfold effW szW;rw [if_pos k1,hn,Ae,hs];rfl
 rw [if_neg k1] at code;by_cases k25:2≤x.kind∧x.kind≤5
 ·rw [if_pos k25] at code;have hf:=zbi (d:=d) I hT x k25;have hrel:=qye I hK x;by_cases f0:fld0W ts w x=0
  case neg=>
   rw [if_neg f0] at hrel;refine .bad (code _ hrel) f0 (vui x cd k25 ?_);generalize fld0W ts w x=c at *;by_cases k2:x.kind=2
   ·rw [show knd x=105 by unfold knd;rw [if_neg zo]] at hf;exact qiw (d:=d) x k2 f0 hf
   by_cases k3:x.kind=3
   ·rw [show knd x=105 by unfold knd;rw [if_neg zo]] at hf;exact qhk (d:=d) x k3 f0 hf
   rw [show knd x=114 by unfold knd;rw [if_pos zo]] at hf;by_cases k4:x.kind=4
   ·exact qgv (d:=d) x k4 f0 hf
   ·exact qgh (d:=d) x zo f0 hf
  rw [if_pos f0] at hrel;rw [f0] at hf;by_cases c9:x.kind=4∧valW w x≠0∧plc0 w.hd<0
  ·rw [if_pos c9] at hrel;obtain ⟨u1,c1⟩:=qsa f0;obtain ⟨n,m,j,t,vs,s,v,hn,hnm,hm1,ho,g1,hj,hjs,hv,ek,ev⟩:=qre I u1 c1;rw [ev] at c9;rw [show knd x=114 by unfold knd;rw [if_pos zo]] at hf;exact .bad (code _ hrel) (by decide) (vui x cd k25 (qlu (d:=d) x c9.1 hn hnm hm1 ho hj hv I.hd c9.2.1 c9.2.2 hf))
  rw [if_neg c9] at hrel;obtain ⟨n,m,j,t,vs,s,v,F⟩:=vo2 I hrel;by_cases k2:x.kind=2
  ·rw [show knd x=105 by unfold knd;rw [if_neg zo]] at hf;exact .ok (code _ hrel) (by unfold effW;rw [if_neg k1,if_pos k2,F.valW]) (vui x cd k25 (qqs (d:=d) x k2 F.fa F.fh F.fm1 F.fo F.fb F.fv hf))
  by_cases k3:x.kind=3
  ·rw [show knd x=105 by unfold knd;rw [if_neg zo]] at hf;exact .ok (code _ hrel) (by unfold effW;rw [if_neg k1,if_neg k2,if_pos k3,F.mAt,F.fb,Ae,vq8 F.fo]) (vui x cd k25 (qno (d:=d) x k3 F.fa F.fh F.fm1 F.fo F.fb F.fv hf))
  rw [show knd x=114 by unfold knd;rw [if_pos zo]] at hf;by_cases k4:x.kind=4
  ·by_cases hz:v=0
   ·exact .ok (code _ hrel) (by unfold effW handW;rw [if_neg k1,if_neg k2,if_neg k3,if_pos k4,F.valW,if_pos hz]) (vui x cd k25 (ql7 (d:=d) x k4 F.fa F.fh F.fm1 F.fo F.fb F.fv hz hf))
   ·exact .ok (code _ hrel) (by unfold effW handW;rw [if_neg k1,if_neg k2,if_neg k3,if_pos k4,F.valW,if_neg hz]) (vui x cd k25 (qq1 (d:=d) x k4 F.fa F.fh F.fm1 F.fo F.fb F.fv I.hd hz (F.ff k4 hz) hf))
  have k5:x.kind=5:=by omega
  exact .ok (code _ hrel) (by unfold effW;rw [if_neg k1,if_neg k2,if_neg k3,if_neg k4,if_pos k5,F.mAt,F.fb,Ae,vq8 F.fo]) (vui x cd k25 (qoc (d:=d) x k5 F.fa F.fh F.fm1 F.fo F.fb F.fv I.hd (qao I (F.fc k5)) hf))
 rw [if_neg k25] at code;have k2:¬x.kind=2:=by omega
 have k3:¬x.kind=3:=by omega
 have k4:¬x.kind=4:=by omega
 have k5:¬x.kind=5:=by omega
 by_cases k69:6≤x.kind∧x.kind≤9
 ·cases hu:usedW w x.a with
  |false=>
   refine .bad (code 2 ?_) (by decide) (vq3 x cd (.inr k69) ?_)
   ·by_cases k7:x.kind=7
    ·rw [if_neg zo,if_pos k7,hu];rfl
    ·rw [if_pos zo,hu];rfl
   ·by_cases k6:x.kind=6
    ·exact qs1 (d:=d+1) I x k6 hu
    by_cases k7:x.kind=7
    ·exact qub (d:=d+1) I x k7 hu
    by_cases k8:x.kind=8
    ·exact qrz (d:=d+1) I x k8 hu
    ·exact qux (d:=d+1) I x zo hu
  |true=>
   obtain ⟨n,m,hn,hn12,hnm,hm,hm1,hh⟩:=vjd I hu;by_cases k7:x.kind=7
   ·rw [if_neg zo,if_pos k7,hu,Bool.true_and] at code;cases hv:usedW w x.b with
    |false=>exact .bad (code 2 (by rw [hv];rfl)) (by decide) (vq3 x cd (.inr k69) (qs4 (d:=d+1) I x k7 hu hv))
    |true=>
     obtain ⟨n2,m2,hn2,hn122,hnm2,hm2,hm12,hh2⟩:=vjd I hv;refine .ok (code 0 (by rw [hv];rfl)) ?_ (vq3 x cd (.inr k69) (qw8 (d:=d+1) I x k7 hu hv hn hn2 hnm hnm2));unfold effW;rw [if_neg k1,if_neg k2,if_neg k3,if_neg k4,if_neg k5,if_neg zo,if_pos k7,hh,hh2]
   ·rw [if_pos zo,hu,if_pos rfl] at code;obtain ⟨⟨ot,vs⟩,ho⟩:∃o,w.ob[m]? =some o:=⟨_,Ac hm⟩
    obtain ⟨u,hdu2⟩:∃u,w.du[m]? =some u:=⟨_,Ac zo⟩
    have eo:objW w x.a=⟨ot,vs⟩:=by unfold objW;rw [hh,show ((m:Int)+1).toNat-1=m by omega,ho];rfl
    have ed:durW w x.a=u:=by unfold durW;rw [hh,show ((m:Int)+1).toNat-1=m by omega,hdu2];rfl
    by_cases k6:x.kind=6
    ·exact .ok (code 0 rfl) (by unfold effW;rw [if_neg k1,if_neg k2,if_neg k3,if_neg k4,if_neg k5,if_pos k6,hn,Ae]) (vq3 x cd (.inr k69) (qv2 (d:=d+1) I x k6 hu hn hnm hm1))
    by_cases k8:x.kind=8
    ·exact .ok (code 0 rfl) (by unfold effW;rw [if_neg k1,if_neg k2,if_neg k3,if_neg k4,if_neg k5,if_neg k6,if_neg k7,if_pos k8,eo]) (vq3 x cd (.inr k69) (qyi (d:=d+1) I x k8 hu hn hnm hm1 ho))
    have k9:x.kind=9:=by omega
    exact .ok (code 0 rfl) (by unfold effW;rw [if_neg k1,if_neg k2,if_neg k3,if_neg k4,if_neg k5,if_neg k6,if_neg k7,if_neg k8,if_pos k9,ed]) (vq3 x cd (.inr k69) (qvz (d:=d+1) I x k9 hu hn hnm hm1 hdu2))
 rw [if_neg zo,if_neg zo] at code;have pre:∀{α:Type} {a1 a2 a3 a4 a5 a6 a7 a8 a9 y:α},(if x.kind=1 then a1 else if x.kind=2 then a2 else if x.kind=3 then a3 else if x.kind=4 then a4 else if x.kind=5 then a5 else if x.kind=6 then a6 else if x.kind=7 then a7 else if x.kind=8 then a8 else if x.kind=9 then a9 else y)=y:=by
  intros;rw [if_neg k1,if_neg k2,if_neg k3,if_neg k4,if_neg k5,if_neg zo,if_neg zo,if_neg zo,if_neg zo]
 by_cases k10:x.kind=10
 ·rw [if_pos k10] at code;cases hi:w.inR with
  |true=>exact .bad (code 6 (by rw [hi];rfl)) (by decide) (vlt x cd zo (qsh (d:=d) I x k10 hi))
  |false=>exact .ok (code 0 (by rw [hi];rfl)) (by unfold effW;rw [pre,if_pos k10]) (vlt x cd zo (qwl (d:=d) I hT x k10 hi))
 rw [if_neg k10] at code;by_cases k11:x.kind=11
 ·rw [if_pos k11] at code;by_cases c1:0≤x.a∧x.a≤7
  case neg=>exact .bad (code 8 (by rw [if_pos c1])) (by decide) (vlt x cd zo (qr8 (d:=d) I x k11 c1))
  rw [if_neg (fun h=>h c1)] at code;obtain ⟨n,hn⟩:∃n:Nat,x.a=n:=⟨x.a.toNat,by omega⟩
  have hs:=I.sl;obtain ⟨v,hv⟩:∃v,w.sl[n]? =some v:=⟨_,Ac zo⟩
  by_cases c2:x.b≠-1∧usedW w x.b=false
  ·exact .bad (code 2 (by rw [if_pos c2])) (by decide) (vlt x cd zo (qry (d:=d) I x k11 hn hv c2.1 c2.2))
  rw [if_neg c2] at code;cases hi:w.inR with
  |false=>
   refine .bad (code 6 (by rw [hi];rfl)) (by decide) (vlt x cd zo ?_);by_cases e:x.b= -1
   ·exact qnw (d:=d) I x k11 hn hv hi e
   ·cases hu:usedW w x.b with
    |true=>exact qov (d:=d) I x k11 hn hv hi e hu
    |false=>exact absurd ⟨e,hu⟩ c2
  |true=>
   have e0:effW ts w x=(0,{w with sl:=w.sl.set n (refW w x.b)}):=by unfold effW;rw [pre,if_neg k10,if_pos k11,hn,Ae]
   refine .ok (code 0 (by rw [hi];rfl)) e0 (vlt x cd zo ?_);by_cases e:x.b= -1
   ·exact qul (d:=d) I x k11 hn hv hi zo e
   ·cases hu:usedW w x.b with
    |true=>exact qu7 (d:=d) I x k11 hn hv hi (qao I (.inr hu)) e hu
    |false=>exact absurd ⟨e,hu⟩ c2
 rw [if_neg k11] at code;by_cases k12:x.kind=12
 ·rw [if_pos k12] at code;by_cases c1:0≤x.a∧x.a≤7
  case neg=>exact .bad (code 8 (by rw [if_pos c1])) (by decide) (vlt x cd zo (qt9 (d:=d) I x k12 c1))
  rw [if_neg (fun h=>h c1)] at code;obtain ⟨n,hn⟩:∃n:Nat,x.a=n:=⟨x.a.toNat,by omega⟩
  have hs:=I.sl;obtain ⟨v,hv⟩:∃v,w.sl[n]? =some v:=⟨_,Ac zo⟩
  rw [hn,Ae,hv,Ao] at code;by_cases hz:v=0
  ·exact .ok (code 0 (by rw [if_neg zo])) (by unfold effW handW;rw [pre,if_neg k10,if_neg k11,if_pos k12,hn,Ae,hv,Ao,if_pos hz]) (vlt x cd zo (qse (d:=d) I x k12 hn hv hz))
  ·by_cases c2:plc0 w.hd<0
   ·exact .bad (code 9 (by rw [if_pos ⟨hz,c2⟩])) (by decide) (vlt x cd zo (quv (d:=d) I x k12 hn hv hz c2))
   ·exact .ok (code 0 (by rw [if_neg (fun h=>c2 h.2)])) (by unfold effW handW;rw [pre,if_neg k10,if_neg k11,if_pos k12,hn,Ae,hv,Ao,if_neg hz]) (vlt x cd zo (qxm (d:=d) I x k12 hn hv hz c2))
 rw [if_neg k12] at code;by_cases k1314:x.kind=13∨x.kind=14
 ·rw [if_pos k1314] at code;cases hi:w.inR with
  |false=>
   refine .bad (code 6 (by rw [hi];rfl)) (by decide) (vlt x cd zo ?_);rcases k1314 with k|k
   ·exact qs0 (d:=d) I x k hi
   ·exact qus (d:=d) I x k hi
  |true=>
   rcases k1314 with k|k
   ·exact .ok (code 0 (by rw [hi];rfl)) (by unfold effW;rw [pre,if_neg k10,if_neg k11,if_neg k12,if_pos k]) (vlt x cd zo (qx7 (d:=d) I hT x k hi))
   ·exact .ok (code 0 (by rw [hi];rfl)) (by unfold effW;rw [pre,if_neg k10,if_neg k11,if_neg k12,if_neg zo,if_pos k]) (vlt x cd zo (qxs (d:=d) I x k hi))
 rw [if_neg k1314] at code;have pre2:∀{α:Type} {a1 a2 a3 a4 a5 y:α},(if x.kind=10 then a1 else if x.kind=11 then a2 else if x.kind=12 then a3 else if x.kind=13 then a4 else if x.kind=14 then a5 else y)=y:=by
  intros;rw [if_neg k10,if_neg k11,if_neg k12,if_neg zo,if_neg zo]
 by_cases k1518:15≤x.kind∧x.kind≤18
 case neg=>exact .bad (code 1 (by rw [if_neg k1518])) (by decide) (qr7 x cd zo)
 rw [if_pos k1518] at code;by_cases k18:x.kind=18
 ·cases hi:w.inR with
  |false=>exact .ok (code 0 rfl) (by unfold effW;rw [pre,pre2,if_pos k18,hi,if_neg (by simp)]) (qww (d:=d) x cd k18 hi)
  |true=>exact .ok (code 0 rfl) (by unfold effW;rw [pre,pre2,if_pos k18,hi,if_pos rfl]) (za0 (d:=d) x cd k18 hi zo hdu I.wal)
 ·exact .ok (code 0 rfl) (by unfold effW;rw [pre,pre2,if_neg k18]) (zeb (d:=d) x cd zo)
