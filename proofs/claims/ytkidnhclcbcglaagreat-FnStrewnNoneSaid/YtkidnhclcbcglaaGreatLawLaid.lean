/- Images in which a drawn graph lies. -/
import Derived.Test.YtkidnhclcbcglaaGreatLawG
open Nat renaming reduceAdd->Aa,reduceBEq->Ab,zero_add->Ay
open List renaming getElem?_eq_getElem->Ac,cons_append->Ad,nil_append->Ae,getElem?_eq_some_iff->Ag,length_take->Ah,mem_of_getElem?->Ai,length_map->Aj,map->An,map_map->Ao,map_singleton->Ap,take->Aq,getElem?_take->Ar,getElem?_map->As,all_eq_true->At,take_length->Au,map_append->Av,drop_zero->Ax,mem_map->Az
open Go.IntKind renaming i64->Af
open Option renaming getD_some->Ak
open Int renaming toNat_natCast->Al,tdiv->Am,ofNat_tdiv->Aw
namespace Go.Proofs.YtkidnhclcbcglaaGreat.VM
open Go Sy
variable {Φ:Nat→Option Callee} {N:Nat}
set_option maxRecDepth 100000
set_option maxHeartbeats 8000000
theorem zd2 (l:List Int):(l.map vap).map PV.thaw=l.map vap:=by rw [Ao];rfl
theorem zbp (l:List ByteArray):(l.map eStr).map PV.thaw=l.map eStr:=by rw [Ao];rfl
theorem zbj (l:List Obj'):(l.map eObj).map PV.thaw=l.map eObj:=by rw [Ao];rfl
theorem Conf.sm {c:Cf} (h:Conf c):CfSm c:=h.small
theorem Conf.okb {c:Cf} (h:Conf c):confOk c=true:=by
 unfold confOk vg0;simp only [Bool.and_eq_true,decide_eq_true_eq,At];exact ⟨⟨⟨⟨⟨h.l0,h.l1⟩,h.g0,h.g1⟩,h.g2⟩,h.y0,h.y1⟩,⟨h.n0,h.n1⟩,h.ok⟩
attribute [go_sem] zd2 zbp zbj
abbrev cS (c:Cf) (k:Nat):TV:= .st [.a (.int .i64 c.lines),.a (.int .i64 c.log),.a (.int .i64 c.young),.rf k]
abbrev cB (c:Cf) (k:Nat):Option Node:=some (.bx false [.a (.int .i64 c.lines),.a (.int .i64 c.log),.a (.int .i64 c.young),.rf k])
abbrev nL0 (bs:List Nat) (q:Nat) (c:Cf) (g:Gr) (tys:List Int):vb5:= [(0,nRd bs q),(1,cB c 4),(2,some (.bx false [.rf 5,.rf 6])),(3,some (.sl false 0 vam (tys.map vap))),(4,some (.sl true 0 va9 (c.types.map eStr))),(5,some (.sl true 0 vam (g.roots.map vap))),(6,some (.sl true 0 vau (g.nodes.map eObj)))]
abbrev sL0 (bs:List Nat) (q:Nat) (c:Cf) (g:Gr) (im:ByteArray) (i:Nat) (tys:List Int):St:=⟨[(0,.rf 0),(3,.rf 1),(5,.rf 2),(6,.a (.string im)),(7,.rf 3),(8,.a (.int .i64 (i:Nat))),(10000,.rf 0),(10001,cS c 4)],nL0 bs q c g tys,7⟩
theorem qq3 {d:Nat} (bs:List Nat) (q:Nat) (c:Cf) (g:Gr) (im:ByteArray) (hn:g.nodes.length≤9):
  va7 (T (d+1)) vad [0,3,5,6,7,8,10000,10001] viq (sL0 bs q c g im 0 ((g.nodes.take 0).map Obj'.ty))=
   some (.ext 0,⟨[(0,.rf 0),(3,.rf 1),(5,.rf 2),(6,.a (.string im)),(7,.rf 3),(8,.a (.int .i64 (g.nodes.length:Nat))),(31,.a (.bool false)),(10000,.rf 0),(10001,cS c 4)],nL0 bs q c g ((g.nodes.take g.nodes.length).map Obj'.ty),507⟩):=by
 refine vc5 (m:=g.nodes.length) (fun i=>sL0 bs q c g im i ((g.nodes.take i).map Obj'.ty)) _ (vay zo) (fun i hi=> ?_) ?_
 ·obtain ⟨o,hx⟩:∃b,g.nodes[i]? =some b:=⟨_,Ac hi⟩
  have hw:=vat i zo;rw [List.take_add_one,hx,Option.toList_some,Av,Ap];have hln:((g.nodes.take i).map Obj'.ty).length≤1048576:=by rw [Aj,Ah];omega
  generalize (g.nodes.take i).map Obj'.ty=tys at *;obtain ⟨t,vs⟩:=o;obtain ⟨L,G,Y,ts⟩:=c;obtain ⟨rs,ns⟩:=g;unfold round sL0 nL0 viq;dsimp only at *;rw [vbt];simp -implicitDefEqProofs (disch:=first|exact zd|fail) only [go_sem,Aa,Ab,hw,hx]
  (show some _=some _;kernel_rfl)
 ·generalize (g.nodes.take g.nodes.length).map Obj'.ty=tys at *;obtain ⟨L,G,Y,ts⟩:=c;obtain ⟨rs,ns⟩:=g;unfold round sL0 nL0 viq;dsimp only at *;simp -implicitDefEqProofs (disch:=first|exact zd|fail) only [go_sem,Aa,Ab]
structure AtOk (c:Cf) (ts A:List Int):Prop where
 n:A.length≤ts.length
 a:∀(j:Nat) a t,A[j]? =some a→ts[j]? =some t→4+c.log≤a∧a+runN (vav c.types t)≤c.lines
theorem AtOk.plan {c:Cf} {m:ByteArray} {ts:List Int} (h:∀p,planOf c m ts=some p→PlOk c ts ts.length p):AtOk c ts ((planOf c m ts).getD (⟨#[]⟩,[])).2:=by
 cases hp:planOf c m ts with
 |none=>exact ⟨by simp,by simp⟩
 |some p=>
  have:=h p hp;exact ⟨by rw [Ak,this.n];exact Nat.le_refl _,this.at_⟩
def Tys (n:Nat) (t:TV) (k:Nat):Prop:=(t= .rf 3∧k=n)∨(t= .sb 3 0 k∧k≤n)
abbrev nL1 (bs:List Nat) (q:Nat) (c:Cf) (g:Gr) (tys A:List Int):vb5:= [(0,nRd bs q),(1,cB c 5),(2,some (.bx false [.rf 6,.rf 7])),(3,some (.sl false 0 vam (tys.map vap))),(4,some (.sl false 0 vam (A.map vap))),(5,some (.sl true 0 va9 (c.types.map eStr))),(6,some (.sl true 0 vam (g.roots.map vap))),(7,some (.sl true 0 vau (g.nodes.map eObj)))]
abbrev sL1 (im m:ByteArray) (t:TV) (w:vb8):vb8:= [(0,.rf 0),(3,.rf 1),(5,.rf 2),(6,.a (.string im)),(7,t),(9,.a (.string m)),(10,.rf 4)]++w
theorem qsz {d:Nat} (bs:List Nat) (q:Nat) {c:Cf} (hC:Conf c) (g:Gr) (im:ByteArray) {m:ByteArray} (hm:m.size=64) {tys A0:List Int} (hl:tys.length≤9) (hts:∀t∈tys,0≤t∧t<c.types.length) (hA0:AtOk c tys A0) (ok0:Bool):
  ∃e,(∃(t:TV) (k:Nat) (A:List Int) (ok:Bool) (i:Nat),Tys tys.length t k∧AtOk c (tys.take k) A∧e=⟨sL1 im m t [(13,.a (.int .i64 (i:Nat))),(67,.a (.bool false)),(10000,.rf 0),(10001,cS c 5)],nL1 bs q c g tys A,608⟩)∧
   va7 (T (d+5)) vad [0,3,5,6,7,9,10,12,13,10000,10001] vgh ⟨sL1 im m (.rf 3) [(12,.a (.bool ok0)),(13,.a (.int .i64 (0:Nat))),(10000,.rf 0),(10001,cS c 5)],nL1 bs q c g tys A0,8⟩=some (.ext 2,e):=by
 refine vdk (fun r s=>∃(t:TV) (k:Nat) (A:List Int) (ok:Bool) (i:Nat),i+r=9∧Tys tys.length t k∧AtOk c (tys.take k) A∧s=⟨sL1 im m t [(12,.a (.bool ok)),(13,.a (.int .i64 (i:Nat))),(10000,.rf 0),(10001,cS c 5)],nL1 bs q c g tys A,8⟩) 2 _ (m:=9) (vay zo) ⟨.rf 3,tys.length,A0,ok0,0,by omega,.inl ⟨rfl,rfl⟩,by rw [Au];exact hA0,rfl⟩ ?_
 rintro r s hr ⟨t,k,A,ok,i,hi,hT,hA,rfl⟩
 have hw:=vat i zo;cases ok with
 |true=>
  right;refine ⟨_,?_,t,k,A,true,i,hT,hA,rfl⟩;obtain ⟨L,G,Y,ts⟩:=c;obtain ⟨rs,ns⟩:=g;unfold round sL1 nL1 vgh;dsimp only [Ad,Ae];by_cases c0:(i:Int)<9
  ·rcases hT with ⟨rfl,rfl⟩|⟨rfl,hk⟩
   ·simp -implicitDefEqProofs (disch:=first|exact zd|fail) only [go_sem,Aa,Ab,c0]
   ·simp -implicitDefEqProofs (disch:=first|exact zd|fail) only [go_sem,Aa,Ab,c0]
  ·rcases hT with ⟨rfl,rfl⟩|⟨rfl,hk⟩
   ·simp -implicitDefEqProofs (disch:=first|exact zd|fail) only [go_sem,Aa,Ab,c0]
   ·simp -implicitDefEqProofs (disch:=first|exact zd|fail) only [go_sem,Aa,Ab,c0]
 |false=>
  by_cases hpos:0<r
  ·left;have c0:(i:Int)<9:=by omega
   obtain ⟨h7,h8⟩:=vw9 (d:=d) hC hm (ts:=tys.take (k/2)) (fun t ht=>hts t (List.mem_of_mem_take ht)) (by rw [Ah];omega);have hA':=AtOk.plan h8;have e1:Af.wrap (Am (k:Int) 2)=((k/2:Nat):Int):=by
    rcases hT with ⟨_,h⟩|⟨_,h⟩<;>(rw [show Am (k:Int) 2=((k/2:Nat):Int) from (Aw _ 2).symm,vai]<;>omega)
   have hmt:Aq (k/2) (An vap tys)=An vap (tys.take (k/2)):=(List.map_take).symm;have hk2:k/2≤tys.length:=by rcases hT with ⟨_,h⟩|⟨_,h⟩<;>omega
   have hkk:k/2≤k:=by omega
   refine ⟨hpos,_,?_,.sb 3 0 (k/2),k/2,_,(planOf c m (tys.take (k/2))).isSome,i+1,by omega,.inr ⟨rfl,hk2⟩,hA',rfl⟩;generalize planOf c m (tys.take (k/2))=pl at *;generalize tys.take (k/2)=ty2 at *;obtain ⟨L,G,Y,ts⟩:=c;obtain ⟨rs,ns⟩:=g;unfold round sL1 nL1 vgh;dsimp only [Ad,Ae] at *;rcases hT with ⟨rfl,rfl⟩|⟨rfl,hk⟩
   ·simp -implicitDefEqProofs (disch:=first|exact zd|fail) only [go_sem,Aa,Ab,c0,hw,e1,hmt,Ax,h7,Al]
    (show some _=some _;kernel_rfl)
   ·have hkl:k≤tys.length:=hk;have hlk:(Aq k (An vap tys)).length=k:=by simp;omega
    simp -implicitDefEqProofs (disch:=first|exact zd|fail) only [go_sem,Aa,Ab,c0,hw,hlk,e1,hmt,Ax,h7,Al,Ay]
    (show some _=some _;kernel_rfl)
  ·right;have c0:¬(i:Int)<9:=by omega
   refine ⟨_,?_,t,k,A,false,i,hT,hA,rfl⟩;obtain ⟨L,G,Y,ts⟩:=c;obtain ⟨rs,ns⟩:=g;unfold round sL1 nL1 vgh;dsimp only [Ad,Ae];rcases hT with ⟨rfl,rfl⟩|⟨rfl,hk⟩
   ·simp -implicitDefEqProofs (disch:=first|exact zd|fail) only [go_sem,Aa,Ab,c0]
   ·simp -implicitDefEqProofs (disch:=first|exact zd|fail) only [go_sem,Aa,Ab,c0]
theorem AtOk.in_ {c:Cf} (hC:Conf c) {ts A:List Int} (h:AtOk c ts A):∀a∈A,0≤a∧a≤128:=by
 intro a ha;obtain ⟨j,hj⟩:=List.getElem?_of_mem ha;have hjl:=(Ag.1 hj).1;have hn:=h.n;obtain ⟨t,ht⟩:∃t,ts[j]? =some t:=⟨_,Ac zo⟩
 have:=h.a j a t hj ht;have:=hC.l1;have:=hC.g0;omega
def layN (k:ByteArray) (A vs:List Int) (n:Nat):List Int:=(List.range n).map fun j=>if bAt k j=114 then vew A (vs[j]?.getD 0) else vs[j]?.getD 0
theorem qlm {k:ByteArray} {A vs:List Int} {j:Nat} {v:Int} (h:vs[j]? =some v):layN k A vs (j+1)=layN k A vs j++ [if bAt k j=114 then vew A v else v]:=by
 unfold layN;rw [List.range_succ,Av,Ap,h];rfl
abbrev nL3 (bs:List Nat) (q:Nat) (c:Cf) (g:Gr) (tys A:List Int) (t:Nat) (V:List Int):vb5:= [(0,nRd bs q),(1,cB c 6),(2,some (.bx false [.rf 7,.rf 8])),(3,some (.sl false 0 vam (tys.map vap))),(4,some (.sl false 0 vam (A.map vap))),(5,some (.bx false [.a (.int .i64 t),.rf 9])),(6,some (.sl true 0 va9 (c.types.map eStr))),(7,some (.sl true 0 vam (g.roots.map vap))),(8,some (.sl true 0 vau (g.nodes.map eObj))),(9,some (.sl false 0 vam (V.map vap)))]
abbrev sL3 (im:ByteArray) (t:TV) (i:Nat) (w:vb8):vb8:= [(0,.rf 0),(3,.rf 1),(5,.rf 2),(6,.a (.string im)),(7,t),(10,.rf 4),(14,.a (.int .i64 (i:Nat))),(15,.rf 5)]++w
theorem qrk {d:Nat} (bs:List Nat) (q:Nat) {c:Cf} (g:Gr) (im:ByteArray) {tys A:List Int} {tv:TV} {k:Nat} (hT:Tys tys.length tv k) (hA:∀a∈A,0≤a∧a≤128) (hAl:A.length≤9) (i t:Nat) {o:Obj'} (ho:g.nodes[i]? =some o) {s:ByteArray} (hs:c.types[t]? =some s) (hv:o.vals.length=s.size) (hz:s.size≤23) (hnn:∀(j:Nat) v,o.vals[j]? =some v→refAt s j=true→0≤v):
  va7 (T (d+1)) vad [0,3,5,6,7,10,14,15,16,10000,10001] vgi ⟨sL3 im tv i [(16,.a (.int .i64 (0:Nat))),(10000,.rf 0),(10001,cS c 6)],nL3 bs q c g tys A t (layN s A o.vals 0),10⟩=
   some (.ext 6,⟨sL3 im tv i [(16,.a (.int .i64 (o.vals.length:Nat))),(102,.a (.bool false)),(10000,.rf 0),(10001,cS c 6)],nL3 bs q c g tys A t (layN s A o.vals o.vals.length),910⟩):=by
 have htl:=(Ag.1 hs).1;have hil:=(Ag.1 ho).1;refine vc5 (m:=o.vals.length) (fun j=>⟨sL3 im tv i [(16,.a (.int .i64 (j:Nat))),(10000,.rf 0),(10001,cS c 6)],nL3 bs q c g tys A t (layN s A o.vals j),10⟩) _ (vay zo) (fun j hj=> ?_) ?_
 ·obtain ⟨v,hx⟩:∃b,o.vals[j]? =some b:=⟨_,Ac hj⟩
  rw [qlm hx];have hw:=vat j zo;have hix:=vi9 (s:=s) (j:=j) zo;have hln:(layN s A o.vals j).length≤1048576:=by unfold layN;rw [Aj,List.length_range];omega
  have hnv:=hnn j v hx;generalize layN s A o.vals j=ws at *;obtain ⟨t',vs⟩:=o;obtain ⟨L,G,Y,ts⟩:=c;obtain ⟨rs,ns⟩:=g;dsimp only at *;by_cases c1:bAt s j=114
  ·have c1':(bAt s j:Int)=114:=by omega
   have h1:=vxn (d:=d) (ls:=A) zo hA v (hnv (by
    unfold refAt;unfold bAt at c1;obtain ⟨b,hb⟩:∃b,(ch s)[j]? =some b:=⟨_,Ac (by rw [←ved];omega)⟩
    rw [hb,Ak] at c1;rw [hb]
    exact decide_eq_true zo))
   rw [if_pos c1];generalize vew A v=u at *;unfold round sL3 nL3 vgi;dsimp only [Ad,Ae];rw [vbt];rcases hT with ⟨rfl,rfl⟩|⟨rfl,hk⟩
   ·simp -implicitDefEqProofs (disch:=first|exact zd|fail) only [go_sem,Aa,Ab,hw,ho,hx,hs,hix,c1',h1]
    (show some _=some _;kernel_rfl)
   ·simp -implicitDefEqProofs (disch:=first|exact zd|fail) only [go_sem,Aa,Ab,hw,ho,hx,hs,hix,c1',h1]
    (show some _=some _;kernel_rfl)
  ·have c1':¬(bAt s j:Int)=114:=by omega
   rw [if_neg c1];unfold round sL3 nL3 vgi;dsimp only [Ad,Ae];rw [vbt];rcases hT with ⟨rfl,rfl⟩|⟨rfl,hk⟩
   ·simp -implicitDefEqProofs (disch:=first|exact zd|fail) only [go_sem,Aa,Ab,hw,ho,hx,hs,hix,c1']
    (show some _=some _;kernel_rfl)
   ·simp -implicitDefEqProofs (disch:=first|exact zd|fail) only [go_sem,Aa,Ab,hw,ho,hx,hs,hix,c1']
    (show some _=some _;kernel_rfl)
 ·generalize layN s A o.vals o.vals.length=ws at *;obtain ⟨t',vs⟩:=o;obtain ⟨L,G,Y,ts⟩:=c;obtain ⟨rs,ns⟩:=g;unfold round sL3 nL3 vgi;dsimp only [Ad,Ae] at *;rcases hT with ⟨rfl,rfl⟩|⟨rfl,hk⟩
  ·simp -implicitDefEqProofs (disch:=first|exact zd|fail) only [go_sem,Aa,Ab,ho]
  ·simp -implicitDefEqProofs (disch:=first|exact zd|fail) only [go_sem,Aa,Ab,ho]
abbrev sL2 (im:ByteArray) (t:TV) (i:Nat) (w:vb8):vb8:= [(0,.rf 0),(3,.rf 1),(5,.rf 2),(6,.a (.string im)),(7,t),(10,.rf 4),(14,.a (.int .i64 (i:Nat)))]++w
theorem qsj {d:Nat} (bs:List Nat) (q:Nat) {c:Cf} (hC:Conf c) (g:Gr) (im:ByteArray) (him:(im.size:Int)=64 * c.lines) {A:List Int} {tv:TV} {k:Nat} (hT:Tys (g.nodes.map Obj'.ty).length tv k) (hA:AtOk c ((g.nodes.map Obj'.ty).take k) A) (hn9:g.nodes.length≤9) (hG:GSh c.types g.nodes):
  ∃e,(∃im':ByteArray,(im'.size:Int)=64 * c.lines∧e=⟨sL2 im' tv A.length [(86,.a (.bool false)),(10000,.rf 0),(10001,cS c 5)],nL1 bs q c g (g.nodes.map Obj'.ty) A,408⟩)∧
  va7 (T (d+5)) vad [0,3,5,6,7,10,14,10000,10001] vit ⟨sL2 im tv 0 [(10000,.rf 0),(10001,cS c 5)],nL1 bs q c g (g.nodes.map Obj'.ty) A,8⟩=some (.ext 4,e):=by
 have hAl:A.length≤9:=by have:=hA.n;rw [Ah,Aj] at this;omega
 refine vdk (fun r s=>∃(im:ByteArray) (i:Nat),i+r=A.length∧(im.size:Int)=64 * c.lines∧s=⟨sL2 im tv i [(10000,.rf 0),(10001,cS c 5)],nL1 bs q c g (g.nodes.map Obj'.ty) A,8⟩) 4 _ (m:=A.length) (vay zo) ⟨im,0,by omega,him,rfl⟩ ?_
 rintro r s hr ⟨im,i,hi,him,rfl⟩
 by_cases hpos:0<r
 ·left;have hw:=vat i zo;have hlt:(i:Int)<A.length:=by omega
  obtain ⟨a,hx⟩:∃b,A[i]? =some b:=⟨_,Ac zo⟩
  have hn:=hA.n;rw [Ah,Aj] at hn;have hik:i<k:=by omega
  obtain ⟨o,ho⟩:∃b,g.nodes[i]? =some b:=⟨_,Ac zo⟩
  obtain ⟨t,s,g1,g2,g3,g4⟩:=hG o (Ai ho);have hty:(g.nodes.map Obj'.ty)[i]? =some (t:Int):=by rw [As,ho,Option.map_some,g1]
  have hb:=hA.a i a t hx (by rw [Ar,if_pos hik];exact hty);have hka:vav c.types (t:Int)=s:=by unfold vav;rw [Al,g2];rfl
  rw [hka] at hb;have hsz:=hC.ty s (Ai g2);have k3:=qrk (d:=d+4) bs q (c:=c) g im hT (hA.in_ hC) hAl i t ho g2 g3 hsz.2 g4;have hl0:=hC.l0;have hl1:=hC.l1;have hg0:=hC.g0;obtain ⟨a,rfl⟩:∃n:Nat,a=n:=⟨a.toNat,by omega⟩
  have e1:Af.wrap (64 * (a:Int))=((64 * a:Nat):Int):=by rw [vai _ zo zo];omega
  have h4:=vnj (d:=d) hC.tys ⟨(t:Int),layN s A o.vals o.vals.length⟩;have hbz:(vd5 c.types ⟨(t:Int),layN s A o.vals o.vals.length⟩).size≤64 * runN s:=by
   cases hk:objOkR c.types ⟨(t:Int),layN s A o.vals o.vals.length⟩
   ·unfold vd5;rw [hk,if_neg (by simp)];exact Nat.zero_le _
   ·have:=vuk hk;have hr:=vj0 hk;rw [vhh hr.ok] at this;rw [show (Obj'.ty ⟨(t:Int),layN s A o.vals o.vals.length⟩)=(t:Int) from rfl,hka] at this;unfold runN;omega
  have h5:=vk6 (Φ:=T (d+4)) (N:=vad) im (vd5 c.types ⟨(t:Int),layN s A o.vals o.vals.length⟩) (64 * a) zo zo;have h6:=vk9 (s:=im) (x:=vd5 c.types ⟨(t:Int),layN s A o.vals o.vals.length⟩) (n:=64 * a) zo;refine ⟨hpos,_,?_,withB im (64 * a) (vd5 c.types ⟨(t:Int),layN s A o.vals o.vals.length⟩),i+1,by omega,by rw [h6];exact him,rfl⟩;rw [show layN s A o.vals 0= [] from rfl] at k3;generalize withB im (64 * a) (vd5 c.types ⟨(t:Int),layN s A o.vals o.vals.length⟩)=im2 at *;generalize vd5 c.types ⟨(t:Int),layN s A o.vals o.vals.length⟩=ob at *;generalize layN s A o.vals o.vals.length=ws at *;generalize hts:g.nodes.map Obj'.ty=tys at *;obtain ⟨t',vs⟩:=o;obtain ⟨L,G,Y,ts⟩:=c;obtain ⟨rs,ns⟩:=g;unfold sL3 nL3 at k3;unfold round sL2 nL1 vit;dsimp only [Ad,Ae] at *;rcases hT with ⟨rfl,rfl⟩|⟨rfl,hk⟩
  ·simp -implicitDefEqProofs (disch:=first|exact zd|fail) only [go_sem,Aa,Ab,hw,hlt,hx,hty,vao k3,e1,h4,h5]
   (show some _=some _;kernel_rfl)
  ·have hxt:(Aq k (An vap tys))[i]? =some (vap (t:Int)):=by rw [Ar,if_pos hik,As,hty];rfl
   have hlk:i<(Aq k (An vap tys)).length:=by simp;omega
   simp -implicitDefEqProofs (disch:=first|exact zd|fail) only [go_sem,Aa,Ab,hw,hlt,hx,hty,hxt,vao k3,e1,h4,h5,Ay]
   (show some _=some _;kernel_rfl)
 ·right;have hlt:¬(i:Int)<A.length:=by omega
  obtain rfl:i=A.length:=by omega
  refine ⟨_,?_,im,him,rfl⟩;obtain ⟨L,G,Y,ts⟩:=c;obtain ⟨rs,ns⟩:=g;unfold round sL2 nL1 vit;dsimp only [Ad,Ae];rcases hT with ⟨rfl,rfl⟩|⟨rfl,hk⟩
  ·simp -implicitDefEqProofs (disch:=first|exact zd|fail) only [go_sem,Aa,Ab]
  ·simp -implicitDefEqProofs (disch:=first|exact zd|fail) only [go_sem,Aa,Ab]
abbrev nL4 (bs:List Nat) (q:Nat) (c:Cf) (g:Gr) (A:List Int):vb5:= [(0,nRd bs q),(1,cB c 4),(2,some (.bx false [.rf 5,.rf 6])),(3,some (.sl false 0 vam (A.map vap))),(4,some (.sl true 0 va9 (c.types.map eStr))),(5,some (.sl true 0 vam (g.roots.map vap))),(6,some (.sl true 0 vau (g.nodes.map eObj)))]
abbrev sL4 (im:ByteArray) (i:Nat) (w:vb8):vb8:= [(0,.rf 0),(3,.rf 1),(5,.rf 2),(6,.a (.string im)),(10,.rf 3),(18,.a (.int .i64 (i:Nat)))]++w
theorem qs1 {d:Nat} (bs:List Nat) (q:Nat) (c:Cf) (g:Gr) (im:ByteArray) (him:192≤im.size) (him2:im.size≤1048576) {A:List Int} (hA:∀a∈A,0≤a∧a≤128) (hAl:A.length≤9) (hg:g.roots.length=8) (hg0:∀x∈g.roots,0≤x):
  va7 (T (d+2)) vad [0,3,5,6,10,18,10000,10001] vdt ⟨sL4 (rootN im A g.roots 0) 0 [(10000,.rf 0),(10001,cS c 4)],nL4 bs q c g A,7⟩=
   some (.ext 8,⟨sL4 (rootN im A g.roots 8) 8 [(144,.a (.bool false)),(10000,.rf 0),(10001,cS c 4)],nL4 bs q c g A,207⟩):=by
 refine vc5 (m:=8) (fun i=>⟨sL4 (rootN im A g.roots i) i [(10000,.rf 0),(10001,cS c 4)],nL4 bs q c g A,7⟩) _ (vay zo) (fun i hi=> ?_) ?_
 ·have hw:=vat i zo;have l1:(i:Int)<8:=by omega
  obtain ⟨r,hr⟩:∃b,g.roots[i]? =some b:=⟨_,Ac zo⟩
  have hr0:=hg0 r (Ai hr);have m1:Af.wrap (8 * (i:Int))=((8 * i:Nat):Int):=by rw [vai _ zo zo];omega
  have m2:Af.wrap (128+((8 * i:Nat):Int))=((128+8 * i:Nat):Int):=by rw [vai _ zo zo];omega
  have h1:=vxn (d:=d+1) (by omega:A.length≤1048576) hA r hr0;have h2:=vf6 (Φ:=T (d+1)) (vew A r);have hz:=vqt (A:=A) (rs:=g.roots) him i zo;have hwz:=vcj (vew A r);have h3:=vk6 (Φ:=T (d+1)) (N:=vad) (rootN im A g.roots i) (vbs (vew A r)) (128+8 * i) zo zo;have he:rootN im A g.roots (i+1)=withB (rootN im A g.roots i) (128+8 * i) (vbs (vew A r)):=by rw [rootN,hr];rfl
  rw [he];generalize rootN im A g.roots i=im1 at *;generalize withB im1 (128+8 * i) (vbs (vew A r))=im2 at *;generalize vbs (vew A r)=x at *;generalize vew A r=v at *;obtain ⟨L,G,Y,ts⟩:=c;obtain ⟨rs,ns⟩:=g;dsimp only at *;have hil:i<rs.length:=by omega
  unfold round sL4 nL4 vdt;dsimp only [Ad,Ae] at *;simp -implicitDefEqProofs (disch:=first|exact zd|fail) only [go_sem,Aa,Ab,hw,l1,hr,m1,m2,h1,h2,h3]
  (show some _=some _;kernel_rfl)
 ·obtain ⟨L,G,Y,ts⟩:=c;obtain ⟨rs,ns⟩:=g;unfold round sL4 nL4 vdt;dsimp only [Ad,Ae];simp -implicitDefEqProofs (disch:=first|exact zd|fail) only [go_sem,Aa,Ab]
theorem qow {A:List Int} (hA:∀a∈A,0≤a∧a≤128) (r:Int):∃n:Nat,n≤1000∧vew A r=n:=by
 unfold vew;split
 ·exact ⟨0,by omega,rfl⟩
 ·cases h:A[(r-1).toNat]? with
  |none=>exact ⟨0,by omega,rfl⟩
  |some a=>have:=hA a (Ai h);exact ⟨(2 * a).toNat,by omega,by rw [Ak];omega⟩
theorem qqd {c:Cf} (hC:Conf c) {ts A:List Int} (h:AtOk c ts A) (r:Int):isRef c (vew A r)=true:=by
 unfold vew;split
 ·rfl
 ·cases hx:A[(r-1).toNat]? with
  |none=>rfl
  |some a=>
   have hjl:=(Ag.1 hx).1;have hn:=h.n;obtain ⟨t,ht⟩:∃t,ts[(r-1).toNat]? =some t:=⟨_,Ac zo⟩
   have h1:=h.a _ a t hx ht;have h2:=hC.l1;have h3:=hC.g0;have h4:1≤runN (vav c.types t):=by unfold runN;omega
   rw [Ak];unfold isRef;have h5:Am (2 * a) 2=a:=Int.mul_tdiv_cancel_left a zo;have h6:refKind (2 * a)=1:=by unfold refKind;rw [if_neg zo,if_pos ⟨by omega,Int.mul_tmod_right 2 a⟩]
   rw [h6,h5];unfold isLine;rw [decide_eq_true (p:=4+c.log≤a∧a≤c.lines-1) zo];simp
theorem qjt {c:Cf} (hC:Conf c) {ts A:List Int} (h:AtOk c ts A) {im:ByteArray} (him:192≤im.size) (rs:List Int):refsAll c (veb (rootN im A rs 8))=true:=by
 unfold refsAll veb slotsN;rw [At];intro x hx;obtain ⟨j,hj,rfl⟩:=Az.1 hx;rw [List.mem_range] at hj;rw [vyr him (qow (h.in_ hC)) 8 zo j hj];exact qqd hC h _
theorem vdp {live:List Nat} {b:VC} {r:List It} {S0 e:St} {id:Nat} (h:va7 Φ N live b S0=some (.ext id,e)):goP Φ N live b r S0=goE Φ N r id e.slots e.nodes e.next:=by
 unfold goP;rw [show vfz (run Φ N b) live N S0=some (.ext id,e) from h];rfl
def tl:VC→VC
 | .seq _ b=>b
 |x=>x
theorem zjk {a b:VC}:tl (.seq a b)=b:=rfl
attribute [go_sem] zjk
theorem qpq {d:Nat} {bs:List Nat} (hb:Bs bs) {p:Nat} (hp:p≤bs.length) {c:Cf} (hC:Conf c) (hD:DT c.types):∃(t:ByteArray) (q:Nat),t.size≤8193∧q≤bs.length∧
  vaf (T (d+10)) vad var [cRd bs p,cCf false c]=some ([.a (.string t)],[cRd bs q,cCf false c]):=by
 obtain ⟨g,q1,⟨hg8,hg0⟩,hn1,hn9,hG,hq1,h1⟩:=qk7 (d:=d+6) hb hD hp 8 zo 9 zo zo;rw [show ((8:Nat):Int)=8 from rfl] at h1;have hsm:=hC.sm;have h2:=vth (d:=d+5) hC.sm;have k0:=qq3 (d:=d+9) bs q1 c g (vhl c) zo;rw [Au] at k0;have h3:=vki (Φ:=T (d+9)) (N:=vad) 64 zo;rw [show ((64:Nat):Int)=64 from rfl] at h3;obtain ⟨o,q2,hq2,h4⟩:=vce (d:=d+7) hb hq1 3 zo zo;have hl:8≤c.lines∧c.lines≤128:=⟨hC.l0,hC.l1⟩
 have hlog:1≤c.log∧c.log≤32:=⟨hC.g0,hC.g1⟩
 have e1:Af.wrap (4+c.log)=4+c.log:=vai _ zo zo;have e2:Af.wrap (6+c.log)=6+c.log:=vai _ zo zo;obtain ⟨h5,hm5⟩:=qgg (Φ:=T (d+9)) [4+c.log,6+c.log] (by simp) (by simp;omega);rw [show ([4+c.log,6+c.log].map vap)= [PV.a (.int .i64 (4+c.log)),PV.a (.int .i64 (6+c.log))] from rfl] at h5;obtain ⟨m,hm,hmo⟩:∃m:ByteArray,m.size=64∧((o=true∧mapOf [4+c.log,6+c.log]=m)∨(o=false∧zerosB 64=m)):=by
  cases o
  ·exact ⟨_,vh7 64,.inr ⟨rfl,rfl⟩⟩
  ·exact ⟨_,hm5,.inl ⟨rfl,rfl⟩⟩
 have hts:∀t∈g.nodes.map Obj'.ty,0≤t∧t<c.types.length:=by
  intro t ht;obtain ⟨o,ho,rfl⟩:=Az.1 ht;obtain ⟨t,s,g1,g2,_⟩:=hG o ho;have:=(Ag.1 g2).1;omega
 have htl:(g.nodes.map Obj'.ty).length≤9:=by rw [Aj];omega
 obtain ⟨h7,h8⟩:=vw9 (d:=d+5) hC hm hts zo;have hA0:=AtOk.plan h8;obtain ⟨_,⟨tv,k,A,ok,i,hT,hA,rfl⟩,k1⟩:=qsz (d:=d+5) bs q2 hC g (vhl c) hm htl hts hA0 (planOf c m (g.nodes.map Obj'.ty)).isSome;have hfz:((vhl c).size:Int)=64 * c.lines:=by rw [vqn hC.okb];omega
 obtain ⟨_,⟨im2,him2,rfl⟩,k2⟩:=qsj (d:=d+5) bs q2 hC g (vhl c) hfz hT hA zo hG;have hAl:A.length≤9:=by have:=hA.n;rw [Ah] at this;omega
 have k4:=qs1 (d:=d+8) bs q2 c g im2 zo zo (hA.in_ hC) hAl hg8 hg0;have hsl:=qjt hC hA (im:=im2) zo g.roots;have hz:=vqt (im:=im2) (A:=A) (rs:=g.roots) zo 8 zo;have hAi:=hA.in_ hC;rw [vag rfl];have step:∀X,X=goP (T (d+10)) vad [0,3,5,6,10,18,10000,10001] vdt [.blk 8,.c (tl (tl (tl (tl (tl (tl (tl (tl (tl (tl (tl vax)))))))))))] ⟨sL4 (rootN im2 A g.roots 0) 0 [(10000,.rf 0),(10001,cS c 4)],nL4 bs q2 c g A,7⟩→
   inK (T (d+10)) vad var ((vbe var.keeps 0 [cRd bs p,cCf false c]).run ⟨[],[],0⟩)=outK var X:=by
  rintro X rfl
  clear k4 hsl hz;show _=outK var (goP (T (d+10)) vad [0,3,5,6,10,18,10000,10001] vdt [.blk 8,.c (tl (tl (tl (tl (tl (tl (tl (tl (tl (tl (tl vax)))))))))))] ⟨sL4 im2 0 [(10000,.rf 0),(10001,cS c 4)],nL4 bs q2 c g A,7⟩);generalize vhl c=im at *;generalize planOf c m (g.nodes.map Obj'.ty)=pl at *;generalize g.nodes.map Obj'.ty=tys at *;unfold sL0 nL0 at k0;unfold sL1 nL1 at k1;unfold sL2 nL1 at k2;obtain ⟨L,G,Y,ts⟩:=c;obtain ⟨rs,ns⟩:=g;dsimp only [Ad,Ae] at *;rcases hmo with ⟨rfl,hmo⟩|⟨rfl,hmo⟩
  ·rw [hmo] at h5;rcases hT with ⟨rfl,rfl⟩|⟨rfl,hk⟩
   ·simp -implicitDefEqProofs (disch:=first|exact zd|fail) only [go_sem,Aa,Ab,var,vax,h1,h2,vao k0,h3,h4,e1,e2,h5,h7,vao k1,vao k2];kernel_rfl
   ·simp -implicitDefEqProofs (disch:=first|exact zd|fail) only [go_sem,Aa,Ab,var,vax,h1,h2,vao k0,h3,h4,e1,e2,h5,h7,vao k1,vao k2];kernel_rfl
  ·rw [hmo] at h3;rcases hT with ⟨rfl,rfl⟩|⟨rfl,hk⟩
   ·simp -implicitDefEqProofs (disch:=first|exact zd|fail) only [go_sem,Aa,Ab,var,vax,h1,h2,vao k0,h3,h4,h7,vao k1,vao k2];kernel_rfl
   ·simp -implicitDefEqProofs (disch:=first|exact zd|fail) only [go_sem,Aa,Ab,var,vax,h1,h2,vao k0,h3,h4,h7,vao k1,vao k2];kernel_rfl
 simp only [step _ rfl];clear step k0 k1 k2 h1 h2 h3 h4 h5 h7 h8 hm5;have h10:=vri (d:=d+7) (s:=rootN im2 A g.roots 8) zo zo;obtain ⟨h11,hm11⟩:=qjr (d:=d) (c:=c) (s:=rootN im2 A g.roots 8) ⟨hC,by omega⟩ hsl (by rw [vkj];omega);obtain ⟨o5,q3,hq3,h12⟩:=vce (d:=d+7) hb hq2 2 zo zo;generalize hmr:mapRefs c (rootN im2 A g.roots 8) (veb (rootN im2 A g.roots 8))=mr at *;generalize veb (rootN im2 A g.roots 8)=sl at *;generalize rootN im2 A g.roots 8=im at *;generalize rootN im2 A g.roots 0=im0 at *;have hz5:192≤im.size∧im.size≤8192:=by omega
 obtain ⟨im3,hz3,hmid⟩:∃im3:ByteArray,im3.size=im.size∧((o5=false∧im3=im)∨(o5=true∧¬mr≠⟨#[]⟩∧im3=im)∨(o5=true∧mr≠⟨#[]⟩∧
   vaf (T (d+9)) vad vhn [.a (.string im),.a (.int .i64 192),.a (.string mr)]=some ([.a (.string im3)],[]))):=by
  cases o5
  ·exact ⟨im,rfl,.inl ⟨rfl,rfl⟩⟩
  ·by_cases hm:mr=⟨#[]⟩
   ·exact ⟨im,rfl,.inr (.inl ⟨rfl,fun h=>h hm,rfl⟩)⟩
   ·have hms:=hm11 hm;have hC0:=hC.l0;exact ⟨_,vk9 (s:=im) (x:=mr) (n:=192) zo,.inr (.inr ⟨rfl,hm,vk6 im mr 192 zo zo⟩)⟩
 obtain ⟨a,q4,ha,hq4,h13⟩:=va5 (d:=d+8) hb hq3 24 zo zo;by_cases c0:(a:Int)=0
 ·obtain ⟨t,q5,ht,hq5,h14⟩:=qpo (d:=d+5) hb hq4 im3 zo;refine ⟨t,q5,by omega,hq5,?_⟩;clear hA hAi hsm hC hD hts hG;obtain ⟨L,G,Y,ts⟩:=c;obtain ⟨rs,ns⟩:=g;unfold sL4 nL4 at k4⊢;dsimp only [Ad,Ae] at *;rcases hmid with ⟨rfl,rfl⟩|⟨rfl,hm1,rfl⟩|⟨rfl,hm1,h15⟩
  ·simp -implicitDefEqProofs (disch:=first|exact zd|fail) only [go_sem,Aa,Ab,var,vax,vdp k4,h12,h13,c0,h14]
  ·simp -implicitDefEqProofs (disch:=first|exact zd|fail) only [go_sem,Aa,Ab,var,vax,vdp k4,h12,h10,h11,hm1,h13,c0,h14]
  ·simp -implicitDefEqProofs (disch:=first|exact zd|fail) only [go_sem,Aa,Ab,var,vax,vdp k4,h12,h10,h11,hm1,h15,h13,c0,h14]
 by_cases c1:(a:Int)=1
 ·have e5:Af.wrap (Am (im3.size:Int) 8)=((im3.size/8:Nat):Int):=by rw [show Am (im3.size:Int) 8=((im3.size/8:Nat):Int) from (Aw _ 8).symm,vai]<;>omega
  obtain ⟨v,q5,hv,hq5,h14⟩:=vh4 (d:=d+8) hb hq4 (im3.size/8) zo;have e6:Af.wrap ((v:Int) * 8)=((8 * v:Nat):Int):=by rw [vai _ zo zo];omega
  obtain ⟨x,q6,hq6,h16⟩:=qrt (d:=d+5) hb hq5;have h17:=vf6 (Φ:=T (d+9)) x;have hwz:=vcj x;have h18:=vk6 (Φ:=T (d+9)) (N:=vad) im3 (vbs x) (8 * v) zo zo;have hfs:=vk9 (s:=im3) (x:=vbs x) (n:=8 * v) zo;refine ⟨withB im3 (8 * v) (vbs x),q6,by omega,hq6,?_⟩;clear hA hAi hsm hC hD hts hG;obtain ⟨L,G,Y,ts⟩:=c;obtain ⟨rs,ns⟩:=g;unfold sL4 nL4 at k4⊢;dsimp only [Ad,Ae] at *;rcases hmid with ⟨rfl,rfl⟩|⟨rfl,hm1,rfl⟩|⟨rfl,hm1,h15⟩
  ·simp -implicitDefEqProofs (disch:=first|exact zd|fail) only [go_sem,Aa,Ab,var,vax,vdp k4,h12,h13,c0,c1,e5,h14,e6,h16,h17,h18]
  ·simp -implicitDefEqProofs (disch:=first|exact zd|fail) only [go_sem,Aa,Ab,var,vax,vdp k4,h12,h10,h11,hm1,h13,c0,c1,e5,h14,e6,h16,h17,h18]
  ·simp -implicitDefEqProofs (disch:=first|exact zd|fail) only [go_sem,Aa,Ab,var,vax,vdp k4,h12,h10,h11,hm1,h15,h13,c0,c1,e5,h14,e6,h16,h17,h18]
 have fin2:∀(u:Bool),(if u=true then ¬(A.length:Int)>0∧((a:Int)=2∨(a:Int)=3) else ¬(a:Int)=2∧¬(a:Int)=3)→∃(t:ByteArray) (q:Nat),t.size≤8193∧q≤bs.length∧
  outK var (goP (T (d+10)) vad [0,3,5,6,10,18,10000,10001] vdt [.blk 8,.c (tl (tl (tl (tl (tl (tl (tl (tl (tl (tl (tl vax)))))))))))] ⟨sL4 im0 0 [(10000,.rf 0),(10001,cS c 4)],nL4 bs q2 c g A,7⟩)=some ([.a (.string t)],[cRd bs q,cCf false c]):=by
  intro u hu;refine ⟨im3,q4,by omega,hq4,?_⟩;clear hA hAi hsm hC hD hts hG;obtain ⟨L,G,Y,ts⟩:=c;obtain ⟨rs,ns⟩:=g;unfold sL4 nL4 at k4⊢;dsimp only [Ad,Ae] at *;cases u
  ·obtain ⟨c2,c3⟩:=hu;rcases hmid with ⟨rfl,rfl⟩|⟨rfl,hm1,rfl⟩|⟨rfl,hm1,h15⟩
   ·simp -implicitDefEqProofs (disch:=first|exact zd|fail) only [go_sem,Aa,Ab,var,vax,vdp k4,h12,h13,c0,c1,c2,c3]
   ·simp -implicitDefEqProofs (disch:=first|exact zd|fail) only [go_sem,Aa,Ab,var,vax,vdp k4,h12,h10,h11,hm1,h13,c0,c1,c2,c3]
   ·simp -implicitDefEqProofs (disch:=first|exact zd|fail) only [go_sem,Aa,Ab,var,vax,vdp k4,h12,h10,h11,hm1,h15,h13,c0,c1,c2,c3]
  ·obtain ⟨hn,hu⟩:=hu;rcases hu with c2|c2
   ·rcases hmid with ⟨rfl,rfl⟩|⟨rfl,hm1,rfl⟩|⟨rfl,hm1,h15⟩
    ·simp -implicitDefEqProofs (disch:=first|exact zd|fail) only [go_sem,Aa,Ab,var,vax,vdp k4,h12,h13,c2,hn]
    ·simp -implicitDefEqProofs (disch:=first|exact zd|fail) only [go_sem,Aa,Ab,var,vax,vdp k4,h12,h10,h11,hm1,h13,c2,hn]
    ·simp -implicitDefEqProofs (disch:=first|exact zd|fail) only [go_sem,Aa,Ab,var,vax,vdp k4,h12,h10,h11,hm1,h15,h13,c2,hn]
   ·rcases hmid with ⟨rfl,rfl⟩|⟨rfl,hm1,rfl⟩|⟨rfl,hm1,h15⟩
    ·simp -implicitDefEqProofs (disch:=first|exact zd|fail) only [go_sem,Aa,Ab,var,vax,vdp k4,h12,h13,c2,hn]
    ·simp -implicitDefEqProofs (disch:=first|exact zd|fail) only [go_sem,Aa,Ab,var,vax,vdp k4,h12,h10,h11,hm1,h13,c2,hn]
    ·simp -implicitDefEqProofs (disch:=first|exact zd|fail) only [go_sem,Aa,Ab,var,vax,vdp k4,h12,h10,h11,hm1,h15,h13,c2,hn]
 by_cases c23:(a:Int)=2∨(a:Int)=3
 ·by_cases hAe:A.length=0
  ·exact fin2 true ⟨by omega,c23⟩
  ·obtain ⟨x0,hxA⟩:∃b,A[0]? =some b:=⟨_,Ac zo⟩
   have hx0:5≤x0∧x0+1≤c.lines:=by
    have hn:=hA.n;obtain ⟨t,ht⟩:∃t,((g.nodes.map Obj'.ty).take k)[0]? =some t:=⟨_,Ac zo⟩
    have h1:=hA.a 0 x0 t hxA ht;have h4:1≤runN (vav c.types t):=by unfold runN;omega
    omega
   obtain ⟨w,rfl⟩:∃w:Nat,x0=w:=⟨x0.toNat,by omega⟩
   obtain ⟨v,q5,hv,hq5,h14⟩:=va5 (d:=d+8) hb hq4 4 zo zo;obtain ⟨u,q6,hu,hq6,h16⟩:=va5 (d:=d+8) hb hq5 30 zo zo;have m1:Af.wrap (64 * (w:Int))=((64 * w:Nat):Int):=by rw [vai _ zo zo];omega
   have m2:Af.wrap (8 * (v:Int))=((8 * v:Nat):Int):=by rw [vai _ zo zo];omega
   have m3:Af.wrap (((64 * w:Nat):Int)+((8 * v:Nat):Int))=((64 * w+8 * v:Nat):Int):=by rw [vai _ zo zo];omega
   have m4:Af.wrap (2 * (u:Int))=2 * (u:Int):=vai _ zo zo;have h17:=vf6 (Φ:=T (d+9)) (2 * (u:Int));have hwz:=vcj (2 * (u:Int));have h18:=vk6 (Φ:=T (d+9)) (N:=vad) im3 (vbs (2 * (u:Int))) (64 * w+8 * v) zo zo;have hfs:=vk9 (s:=im3) (x:=vbs (2 * (u:Int))) (n:=64 * w+8 * v) zo;refine ⟨withB im3 (64 * w+8 * v) (vbs (2 * (u:Int))),q6,by omega,hq6,?_⟩;have hle:(A.length:Int)>0:=by omega
   have n0:Int.toNat 0=0:=rfl;have hAn:0<A.length:=by omega
   generalize vbs (2 * (u:Int))=wb at *;generalize withB im3 (64 * w+8 * v) wb=im5 at *;clear hA hA0 hC fin2 hT;clear hAi hsm hD hts hG;obtain ⟨L,G,Y,ts⟩:=c;obtain ⟨rs,ns⟩:=g;unfold sL4 nL4 at k4⊢;dsimp only [Ad,Ae] at *;rcases c23 with c2|c2
   ·rcases hmid with ⟨rfl,rfl⟩|⟨rfl,hm1,rfl⟩|⟨rfl,hm1,h15⟩
    ·simp -implicitDefEqProofs (disch:=first|exact zd|fail) only [go_sem,Aa,Ab,var,vax,vdp k4,h12,h13,c2,hle,n0,hxA,m1,h14,m2,m3,h16,m4,h17,h18]
    ·simp -implicitDefEqProofs (disch:=first|exact zd|fail) only [go_sem,Aa,Ab,var,vax,vdp k4,h12,h10,h11,hm1,h13,c2,hle,n0,hxA,m1,h14,m2,m3,h16,m4,h17,h18]
    ·simp -implicitDefEqProofs (disch:=first|exact zd|fail) only [go_sem,Aa,Ab,var,vax,vdp k4,h12,h10,h11,hm1,h15,h13,c2,hle,n0,hxA,m1,h14,m2,m3,h16,m4,h17,h18]
   ·rcases hmid with ⟨rfl,rfl⟩|⟨rfl,hm1,rfl⟩|⟨rfl,hm1,h15⟩
    ·simp -implicitDefEqProofs (disch:=first|exact zd|fail) only [go_sem,Aa,Ab,var,vax,vdp k4,h12,h13,c2,hle,n0,hxA,m1,h14,m2,m3,h16,m4,h17,h18]
    ·simp -implicitDefEqProofs (disch:=first|exact zd|fail) only [go_sem,Aa,Ab,var,vax,vdp k4,h12,h10,h11,hm1,h13,c2,hle,n0,hxA,m1,h14,m2,m3,h16,m4,h17,h18]
    ·simp -implicitDefEqProofs (disch:=first|exact zd|fail) only [go_sem,Aa,Ab,var,vax,vdp k4,h12,h10,h11,hm1,h15,h13,c2,hle,n0,hxA,m1,h14,m2,m3,h16,m4,h17,h18]
 ·exact fin2 false ⟨fun h=>c23 (.inl h),fun h=>c23 (.inr h)⟩
