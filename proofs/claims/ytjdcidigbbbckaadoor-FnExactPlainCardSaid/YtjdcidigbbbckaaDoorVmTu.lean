/- The interpreter 'VM': a slice that is not marked has no frozen parts: each operation keeps that. The interpreter 'VM': each operation, by the compiler's cases. -/
import Derived.Test.YtjdcidigbbbckaaDoorVmQs
namespace Go.Proofs.YtjdcidigbbbckaaDoor.VM
open Go
theorem vq: ∀{l:List PV},bzc l↔ ∀x∈l,nofz x
 | []=>by simp [bzc]
 |c::cs=>by simp [bzc,vq (l:=cs)]
theorem njd {x:PV} (h:nofz x): ∀c∈x.cells,nofz c:=by
 cases x with
 |st cs=>exact fun c hc=>vq.1 (show bzc cs by simpa [nofz] using h) c hc
 |_=>intro c hc;simp [PV.cells] at hc;subst hc;exact h
theorem cke {l:List PV} (h: ∀c∈l,nofz c):nofz (.st l):=by simp only [nofz];exact vq.2 h
theorem vkc {x:PV} {o:Nat} {ys:List PV} (h:nofz x) (hy: ∀c∈ys,nofz c):nofz (tq x o ys):=by
 unfold tq
 split
 ·rename_i cs
  apply cke
  intro c hc
  simp only [List.mem_append] at hc
  have hcs:=njd h
  rcases hc with (hc|hc)|hc
  ·exact hcs c (List.mem_of_mem_take hc)
  ·exact hy c hc
  ·exact hcs c (List.mem_of_mem_drop hc)
 ·split
  ·exact hy _ (by simp)
  ·exact h
theorem pkg (x:PV):nofz x.cpy:=by
 cases x with
 |st cs=>
  apply cke
  intro c hc
  obtain ⟨y,_,rfl⟩:=List.mem_map.1 hc
  split<;>simp [nofz]
 |_=>simp [PV.cpy,nofz]
theorem zkh (z:ZC):nofz z.pv:=by cases z<;>simp [ZC.pv,nofz,bzc]
theorem bke (m:Nat) (zs:List ZC):nofz (nzc m zs):=by
 unfold nzc
 split
 ·cases zs with
  |nil=>simp [nofz]
  |cons z zs=>exact zkh z
 ·apply cke
  intro c hc
  obtain ⟨z,_,rfl⟩:=List.mem_map.1 hc
  exact zkh z
def Qm {α:Type} (m:M α) (R:α→Prop):Prop:= ∀st r st',m.run st=some (r,st')→Qok st→Qok st'∧R r
theorem Qm.bind {α β:Type} {m:M α} {k:α→M β} {R:α→Prop} {S:β→Prop} (h:Qm m R) (hk: ∀x,R x→Qm (k x) S):Qm (m.bind k) S:=by
 intro st r st' hr hq
 obtain ⟨x,s1,h1,h2⟩:=az hr
 obtain ⟨q1,r1⟩:=h st x s1 h1 hq
 exact hk x r1 s1 r st' h2 q1
theorem Qm.pure {α:Type} {x:α} {R:α→Prop} (h:R x):Qm (M.pure x) R:=by
 intro st r st' hr hq
 cases run_pure hr
 exact ⟨hq,h⟩
theorem Qm.fail {α:Type} {R:α→Prop}:Qm (M.fail:M α) R:=fun _ _ _ hr=>(cz hr).elim
theorem Qm.getS (t:Nat):Qm (getS t) fun _=>True:=by
 intro st r st' hr hq
 cases rkc hr
 exact ⟨hq,trivial⟩
theorem Qm.setS (t:Nat) (v:TV):Qm (setS t v) fun _=>True:=by
 intro st r st' hr hq
 cases dj hr
 exact ⟨fun id ver e es hn=>hq id ver e es hn,trivial⟩
theorem Qm.getN (id:Nat):Qm (getN id) fun n=> ∀ver e es,n=some (.sl false ver e es)→bzc es:=by
 intro st r st' hr hq
 cases yj hr
 exact ⟨hq,fun ver e es hn=>hq id ver e es hn⟩
theorem Qm.setN (id:Nat) (n:Option Node) (h: ∀ver e es,n=some (.sl false ver e es)→bzc es):Qm (setN id n) fun _=>True:=by
 intro st r st' hr hq
 cases kx hr
 refine ⟨fun j ver e es hn=> ?_,trivial⟩
 rw [vxb] at hn
 split at hn
 ·exact h ver e es hn
 ·exact hq j ver e es hn
theorem Qm.liftO {α:Type} (x:Option α):Qm (liftO x) fun r=>x=some r:=by
 intro st r st' hr hq
 obtain ⟨h1,h2⟩:=fk hr
 simp only at h1 h2
 subst h2
 exact ⟨hq,h1⟩
theorem Qm.weak {α:Type} {m:M α} {R S:α→Prop} (h:Qm m R) (hs: ∀x,R x→S x):Qm m S:=fun st r st' hr hq=>let ⟨h1,h2⟩:=h st r st' hr hq;⟨h1,hs r h2⟩
abbrev Qt {α:Type} (m:M α):Prop:=Qm m fun _=>True
theorem Qt.of {α:Type} {m:M α} {R:α→Prop} (h:Qm m R):Qt m:=h.weak fun _ _=>trivial
theorem Qt.bind {α β:Type} {m:M α} {k:α→M β} {S:β→Prop} (h:Qt m) (hk: ∀x,Qm (k x) S):Qm (m.bind k) S:=Qm.bind h fun x _=>hk x
theorem kzc (x:Opd):Qt (opd x):=by
 cases x<;>first|exact Qm.getS _|exact Qm.pure trivial
theorem fqd: ∀(xs:List Opd),Qt (opds xs)
 | []=>Qm.pure trivial
 |x::xs=>(kzc x).bind fun _=>(fqd xs).bind fun _=>Qm.pure trivial
theorem uqc (x:Option Opd):Qt (bxd x):=by
 cases x with
 |none=>exact Qm.pure trivial
 |some y=>
  refine (kzc y).bind fun u=> ?_
  split
  ·exact Qm.pure trivial
  ·exact Qm.fail
theorem fkg (w:Option Nat) (v:TV):Qt (loadAt w v):=by unfold loadAt;(repeat' (first|exact Qm.pure trivial|exact Qm.fail|exact Qm.setS _ _|exact Qm.getS _|exact Qt.of (Qm.getN _)|exact Qt.of (Qm.liftO _)|(refine Qt.bind (Qt.of (Qm.getN _)) fun _=> ?_)|(refine Qt.bind (Qt.of (Qm.liftO _)) fun _=> ?_)|(refine Qt.bind (Qm.getS _) fun _=> ?_)|(refine Qt.bind (kzc _) fun _=> ?_)|(refine Qt.bind (fqd _) fun _=> ?_)|(refine Qt.bind (uqc _) fun _=> ?_)|split))
theorem oxe (v:TV):Qt (oqb v):=by unfold oqb;(repeat' (first|exact Qm.pure trivial|exact Qm.fail|exact Qm.setS _ _|exact Qm.getS _|exact Qt.of (Qm.getN _)|exact Qt.of (Qm.liftO _)|(refine Qt.bind (Qt.of (Qm.getN _)) fun _=> ?_)|(refine Qt.bind (Qt.of (Qm.liftO _)) fun _=> ?_)|(refine Qt.bind (Qm.getS _) fun _=> ?_)|(refine Qt.bind (kzc _) fun _=> ?_)|(refine Qt.bind (fqd _) fun _=> ?_)|(refine Qt.bind (uqc _) fun _=> ?_)|split))
theorem txh (e:Nat) (v:TV) (l h:Option Int):Qt (sliceAt e v l h):=by unfold sliceAt;(repeat' (first|exact Qm.pure trivial|exact Qm.fail|exact Qm.setS _ _|exact Qm.getS _|exact Qt.of (Qm.getN _)|exact Qt.of (Qm.liftO _)|(refine Qt.bind (Qt.of (Qm.getN _)) fun _=> ?_)|(refine Qt.bind (Qt.of (Qm.liftO _)) fun _=> ?_)|(refine Qt.bind (Qm.getS _) fun _=> ?_)|(refine Qt.bind (kzc _) fun _=> ?_)|(refine Qt.bind (fqd _) fun _=> ?_)|(refine Qt.bind (uqc _) fun _=> ?_)|split))
theorem axj (v:TV) (l h:Option Int):Qt (hzf v l h):=by unfold hzf;(repeat' (first|exact Qm.pure trivial|exact Qm.fail|exact Qm.setS _ _|exact Qm.getS _|exact Qt.of (Qm.getN _)|exact Qt.of (Qm.liftO _)|(refine Qt.bind (Qt.of (Qm.getN _)) fun _=> ?_)|(refine Qt.bind (Qt.of (Qm.liftO _)) fun _=> ?_)|(refine Qt.bind (Qm.getS _) fun _=> ?_)|(refine Qt.bind (kzc _) fun _=> ?_)|(refine Qt.bind (fqd _) fun _=> ?_)|(refine Qt.bind (uqc _) fun _=> ?_)|split))
theorem bkh (o:Nat) (v:TV):Qt (fieldAt o v):=by unfold fieldAt;(repeat' (first|exact Qm.pure trivial|exact Qm.fail|exact Qm.setS _ _|exact Qm.getS _|exact Qt.of (Qm.getN _)|exact Qt.of (Qm.liftO _)|(refine Qt.bind (Qt.of (Qm.getN _)) fun _=> ?_)|(refine Qt.bind (Qt.of (Qm.liftO _)) fun _=> ?_)|(refine Qt.bind (Qm.getS _) fun _=> ?_)|(refine Qt.bind (kzc _) fun _=> ?_)|(refine Qt.bind (fqd _) fun _=> ?_)|(refine Qt.bind (uqc _) fun _=> ?_)|split))
theorem zxh (e m:Nat) (v:TV) (i:Int):Qt (indexAt e m v i):=by
 unfold indexAt
 refine Qt.bind (oxe _) fun _=> ?_
 (repeat' (first|exact Qm.pure trivial|exact Qm.fail|exact Qm.setS _ _|exact Qm.getS _|exact Qt.of (Qm.getN _)|exact Qt.of (Qm.liftO _)|(refine Qt.bind (Qt.of (Qm.getN _)) fun _=> ?_)|(refine Qt.bind (Qt.of (Qm.liftO _)) fun _=> ?_)|(refine Qt.bind (Qm.getS _) fun _=> ?_)|(refine Qt.bind (kzc _) fun _=> ?_)|(refine Qt.bind (fqd _) fun _=> ?_)|(refine Qt.bind (uqc _) fun _=> ?_)|split))
theorem nzj (x:TV):Qm (toPV x) fun r=>r.2=false→nofz r.1:=by
 unfold toPV
 split
 ·split
  ·exact Qm.pure fun _=>by simp [nofz]
  ·exact Qm.fail
 ·exact Qm.pure fun _=>by simp [nofz,bzc]
 ·exact Qm.pure fun h=>by cases h
 ·refine (Qm.getN _).bind fun n hn=> ?_
  split
  ·rename_i q ver e es
   refine Qt.bind (Qm.setN _ _ fun _ _ _ h=>by cases h) fun _=>Qm.pure fun hq=> ?_
   simp only at hq
   subst hq
   simp only [nofz]
   exact hn _ _ _ rfl
  ·exact Qm.fail
 ·exact Qm.fail
theorem gqg: ∀(xs:List TV),Qm (nkc xs) fun r=>r.2=false→ ∀c∈r.1,nofz c
 | []=>Qm.pure fun _=>by simp
 |x::xs=>by
  unfold nkc
  refine (nzj x).bind fun y hy=>(gqg xs).bind fun ys hys=>Qm.pure fun hq=> ?_
  simp only [Bool.or_eq_false_iff] at hq
  intro c hc
  cases hc with
  |head=>exact hy hq.1
  |tail _ hc=>exact hys hq.2 c hc
theorem azf {x:TV} {y:PV} (h:gjd x=some y):nofz y:=by
 unfold gjd at h
 split at h
 ·split at h
  ·cases h;simp [nofz]
  ·cases h
 ·cases h
theorem jje: ∀{xs:List TV} {ys:List PV},hjc xs=some ys→ ∀y∈ys,nofz y
 | [],ys,h=>by cases h;simp
 |x::xs,ys,h=>by
  simp only [hjc] at h
  split at h
  ·rename_i y ys' h1 h2
   cases h
   intro c hc
   cases hc with
   |head=>exact azf h1
   |tail _ hc=>exact jje h2 c hc
  ·cases h
theorem pxk (flat:Bool) (x:TV):Qm (toEl flat x) fun r=>r.2=false→nofz r.1:=by
 unfold toEl
 split
 ·split
  ·refine (Qm.liftO _).bind fun ys hys=>Qm.pure fun _=>cke (jje hys)
  ·exact (gqg _).bind fun ys hys=>Qm.pure fun hq=>cke (hys hq)
 ·split
  ·exact (Qm.liftO _).bind fun y hy=>Qm.pure fun _=>azf hy
  ·exact nzj _
theorem qzj (flat:Bool) (m:Nat): ∀(ps:List (Nat×Opd)) (q:Bool) (es:List PV),(q=false→bzc es)→Qm (bslM flat m ps q es) fun r=>r.2=false→bzc r.1
 | [],q,es,h=>Qm.pure h
 |(i,x)::ps,q,es,h=>by
  unfold bslM
  refine (kzc x).bind fun v=>(pxk flat v).bind fun y hy=> ?_
  split
  ·refine qzj flat m ps _ _ fun hq=> ?_
   simp only [Bool.or_eq_false_iff] at hq
   refine vq.2 fun c hc=> ?_
   rcases List.mem_or_eq_of_mem_set hc with hc|rfl
   ·exact vq.1 (h hq.1) c hc
   ·exact hy hq.2
  ·exact Qm.fail
theorem gkg: ∀(ps:List (Nat×Nat×Opd)) (cs:List TV),Qt (pxc ps cs)
 | [],cs=>Qm.pure trivial
 |(o,w,x)::ps,cs=>by
  unfold pxc
  refine (kzc x).bind fun v=> ?_
  split
  ·exact gkg ps _
  ·exact Qm.fail
theorem sxh (b w:Nat) (x y:TV):Qt (storeAt b w x y):=by
 have box: ∀id o,Qt (ozc w id o y):=by
  intro id o
  unfold ozc
  refine (Qm.getN _).bind fun n hn=> ?_
  split
  ·split
   ·exact Qm.setN _ _ fun _ _ _ h=>by cases h
   ·exact Qm.fail
  ·exact Qm.fail
 unfold storeAt
 split
 ·exact box _ _
 ·exact box _ _
 ·refine (gqg _).bind fun ys hys=>(Qm.getN _).bind fun n hn=> ?_
  split
  ·rename_i q ver e es
   split
   ·rename_i x0 hx0
    split
    ·refine Qm.setN _ _ fun ver' e' es' h=> ?_
     simp only [Option.some.injEq,Node.sl.injEq] at h
     obtain ⟨hq,_,_,rfl⟩:=h
     simp only [Bool.or_eq_false_iff] at hq
     have hes:bzc es:=hn ver e es (by rw [hq.1])
     refine vq.2 fun c hc=> ?_
     rcases List.mem_or_eq_of_mem_set hc with hc|rfl
     ·exact vq.1 hes c hc
     ·exact vkc (vq.1 hes x0 (List.mem_of_getElem? hx0)) (hys hq.2)
    ·exact Qm.fail
   ·exact Qm.fail
  ·exact Qm.fail
 ·exact Qm.fail
theorem dxj (e:Nat) (x:TV):Qm (dxd e x) fun r=>r.2=false→bzc r.1:=by
 unfold dxd
 split
 ·split
  ·exact Qm.pure fun _=>by simp [bzc]
  ·exact Qm.fail
 ·refine (Qm.getN _).bind fun n hn=> ?_
  split
  ·rename_i q ver e' es
   split
   ·refine Qt.bind (Qm.setN _ _ fun _ _ _ h=>by cases h) fun _=>Qm.pure fun hq=> ?_
    simp only at hq
    subst hq
    exact hn _ _ _ rfl
   ·exact Qm.fail
  ·exact Qm.fail
 ·exact Qm.fail
theorem bjg (es:List PV):bzc (es.map PV.cpy):=vq.2 fun c hc=>by
 obtain ⟨x,_,rfl⟩:=List.mem_map.1 hc
 exact pkg x
theorem exj (e:Nat) (mv:Bool) (y:TV):Qm (cxc e mv y) fun r=>r.2=false→bzc r.1:=by
 unfold cxc
 split
 ·refine (Qm.getN _).bind fun n hn=> ?_
  split
  ·rename_i q ver e' es
   split
   ·split
    ·refine Qt.bind (Qm.setN _ _ fun _ _ _ h=>by cases h) fun _=>Qm.pure fun hq=> ?_
     simp only at hq
     subst hq
     exact hn _ _ _ rfl
    ·exact Qm.pure fun _=>bjg _
   ·exact Qm.fail
  ·exact Qm.fail
 ·refine Qt.bind (oxe _) fun r=> ?_
  split
  ·exact Qm.pure fun _=>bjg _
  ·exact Qm.fail
theorem dkh (b e bytes:Nat) (mv:Bool) (x y:TV):Qt (eqc b e bytes mv x y):=by
 unfold eqc
 refine (dxj e x).bind fun xs hxs=>(exj e mv y).bind fun ys hys=> ?_
 split
 ·refine Qt.bind (Qm.setN _ _ fun ver' e' es' h=> ?_) fun _=>Qm.pure trivial
  simp only [Option.some.injEq,Node.sl.injEq] at h
  obtain ⟨hq,_,_,rfl⟩:=h
  simp only [Bool.or_eq_false_iff] at hq
  refine vq.2 fun c hc=> ?_
  rcases List.mem_append.1 hc with hc|hc
  ·exact vq.1 (hxs hq.1) c hc
  ·exact vq.1 (hys hq.2) c hc
 ·exact Qm.fail
mutual
theorem vxh: ∀(k:Nat) (x:TV),Qm (pack false k x) gx
 |0,x=>by unfold pack;exact Qm.fail
 |k+1,x=>by
  unfold pack
  split
  ·exact Qm.pure (by simp [gx])
  ·exact Qm.pure (by simp [gx,bzc])
  ·exact Qm.fail
  ·exact (nxe k _).bind fun ys h=>Qm.pure (by simp only [gx];exact h)
  ·exact (nxe k _).bind fun xs h=>(nxe k _).bind fun ys h'=>Qm.pure (by simp only [gx];exact ⟨h,h'⟩)
  ·exact (vxh k _).bind fun y h=>Qm.pure (by simp only [gx];exact h)
  ·refine (Qm.getN _).bind fun n hn=> ?_
   split
   ·rename_i q ver e es
    cases q with
    |true=>exact Qm.fail
    |false=>exact Qt.bind (Qm.setN _ _ fun _ _ _ h=>by cases h) fun _=>Qm.pure (by simp only [gx];exact fun _=>hn _ _ _ rfl)
   ·split
    ·exact Qm.fail
    ·exact Qt.bind (Qm.setN _ _ fun _ _ _ h=>by cases h) fun _=>(nxe k _).bind fun ys h=>Qm.pure (by simp only [gx];exact h)
   ·exact Qm.pure (by simp [gx])
  ·exact Qm.pure (by simp [gx])
  ·exact Qm.fail
theorem nxe: ∀(k:Nat) (xs:List TV),Qm (wzb false k xs) cj
 |0,xs=>by unfold wzb;exact Qm.fail
 |k+1,[]=>by unfold wzb;exact Qm.pure (by simp [cj])
 |k+1,x::xs=>by
  unfold wzb
  exact (vxh k x).bind fun y h=>(nxe k xs).bind fun ys h'=>Qm.pure (by simp only [cj];exact ⟨h,h'⟩)
end
mutual
theorem tqf (fz:Bool): ∀(k:Nat) (x:TV),Qt (pack fz k x)
 |0,x=>by unfold pack;exact Qm.fail
 |k+1,x=>by
  unfold pack
  split
  ·exact Qm.pure trivial
  ·exact Qm.pure trivial
  ·split
   ·exact Qm.pure trivial
   ·exact Qm.fail
  ·exact (qxd fz k _).bind fun ys=>Qm.pure trivial
  ·exact (qxd fz k _).bind fun xs=>(qxd fz k _).bind fun ys=>Qm.pure trivial
  ·exact (tqf fz k _).bind fun y=>Qm.pure trivial
  ·refine (Qm.getN _).bind fun n hn=> ?_
   split
   ·split
    ·exact Qm.fail
    ·exact Qt.bind (Qm.setN _ _ fun _ _ _ h=>by cases h) fun _=>Qm.pure trivial
   ·split
    ·exact Qm.fail
    ·exact Qt.bind (Qm.setN _ _ fun _ _ _ h=>by cases h) fun _=>(qxd fz k _).bind fun ys=>Qm.pure trivial
   ·exact Qm.pure trivial
  ·exact Qm.pure trivial
  ·exact Qm.fail
theorem qxd (fz:Bool): ∀(k:Nat) (xs:List TV),Qt (wzb fz k xs)
 |0,xs=>by unfold wzb;exact Qm.fail
 |k+1,[]=>by unfold wzb;exact Qm.pure trivial
 |k+1,x::xs=>by
  unfold wzb
  exact (tqf fz k x).bind fun y=>(qxd fz k xs).bind fun ys=>Qm.pure trivial
end
mutual
theorem uqf (z:Bool): ∀(k n:Nat) (x:TV),Qm (qj z k n x) gx
 |0,n,x=>by unfold qj;exact Qm.fail
 |k+1,n,x=>by
  unfold qj
  split
  ·exact Qm.pure (by simp [gx])
  ·exact Qm.pure (by simp [gx])
  ·exact Qm.pure (by simp [gx])
  ·exact (akc z k _).bind fun ys h=>Qm.pure (by simp only [gx];exact h)
  ·exact (akc z k _).bind fun xs h=>(akc z k _).bind fun ys h'=>Qm.pure (by simp only [gx];exact ⟨h,h'⟩)
  ·exact (uqf z k _ _).bind fun y h=>Qm.pure (by simp only [gx];exact h)
  ·exact Qm.pure (by simp [gx])
  ·split
   ·exact Qm.fail
   ·refine (Qm.getN _).bind fun n hn=> ?_
    split
    ·exact Qm.pure (by simp [gx])
    ·exact (akc z k _).bind fun ys h=>Qm.pure (by simp only [gx];exact h)
    ·exact Qm.fail
  ·split
   ·exact Qm.fail
   ·refine (Qm.getN _).bind fun n hn=> ?_
    split
    ·exact Qm.pure (by simp [gx])
    ·exact Qm.fail
  ·split
   ·exact Qm.fail
   ·refine (Qm.getN _).bind fun n hn=> ?_
    split
    ·split
     ·split
      ·exact Qm.pure (by simp [gx])
      ·exact Qm.fail
     ·exact Qm.fail
    ·exact Qm.fail
  ·split
   ·exact Qm.fail
   ·refine (Qm.getN _).bind fun n hn=> ?_
    split
    ·split
     ·exact (akc z k _).bind fun ys h=>Qm.pure (by simp only [gx];exact h)
     ·exact Qm.fail
    ·exact Qm.fail
  ·exact Qm.fail
theorem akc (z:Bool): ∀(k:Nat) (xs:List TV),Qm (sj z k xs) cj
 |0,xs=>by unfold sj;exact Qm.fail
 |k+1,[]=>by unfold sj;exact Qm.pure (by simp [cj])
 |k+1,x::xs=>by
  unfold sj
  exact (uqf z k 0 x).bind fun y h=>(akc z k xs).bind fun ys h'=>Qm.pure (by simp only [cj];exact ⟨h,h'⟩)
end
theorem yxh (keeps:Bool): ∀(ms:List Md) (xs:List TV),Qm (lend keeps ms xs) fun ys=>keeps=false→cj ys
 | [],[]=>by unfold lend;exact Qm.pure fun _=>by simp [cj]
 | .ro _::ms,_::xs=>by
   unfold lend
   exact (yxh keeps ms xs).bind fun ys h=>Qm.pure fun hk=>by simp only [cj,gx,true_and];exact h hk
 | .mut _::ms,x::xs=>by
   unfold lend
   have hp:Qm (djc keeps x) fun y=>keeps=false→gx y:=by
    unfold djc
    split
    ·exact Qm.pure fun _=>by simp only [gx]
    cases keeps with
    |false=>exact (vxh depth x).weak fun y h _=>h
    |true=>exact (tqf true depth x).weak fun y _ h=>by cases h
   exact hp.bind fun y h1=>(yxh keeps ms xs).bind fun ys h=>Qm.pure fun hk=>by simp only [cj];exact ⟨h1 hk,h hk⟩
 | [],_::_=>by unfold lend;exact Qm.fail
 | .ro _::_,[]=>by unfold lend;exact Qm.fail
 | .mut _::_,[]=>by unfold lend;exact Qm.fail
theorem pzg {es:List PV} {i:Nat} {x:PV} (h:bzc es) (hx:nofz x):bzc (es.set i x):=
 vq.2 fun y hy=>(List.mem_or_eq_of_mem_set hy).elim (vq.1 h y) fun e=>e▸hx
theorem ozg: ∀(p:List (Nat×Nat×Nat)) {es:List PV} {r:Nat×List PV},bzc es→dget es p=some r→bzc r.2
 | [],es,r,h,hr=>by simp [dget] at hr
 |(i,m,o)::p,es,r,h,hr=>by
  simp only [dget] at hr
  split at hr
  ·cases hr
  ·rename_i x hx
   split at hr
   ·split at hr
    ·rename_i e es' hc
     have h1:bzc es':=by
      have:=njd (vq.1 h x (List.mem_of_getElem? hx)) _ (List.mem_of_getElem? hc)
      simpa only [nofz] using this
     split at hr
     ·cases hr;exact h1
     ·exact ozg _ h1 hr
    ·cases hr
   ·cases hr
theorem dke {c:PV} (hc:nofz c): ∀(p:List (Nat×Nat×Nat)) {es es1:List PV},bzc es→dput es p c=some es1→bzc es1
 | [],es,es1,h,hr=>by simp [dput] at hr
 |(i,m,o)::p,es,es1,h,hr=>by
  simp only [dput] at hr
  split at hr
  ·cases hr
  ·rename_i x hx
   have hxn:=vq.1 h x (List.mem_of_getElem? hx)
   split at hr
   ·split at hr
    ·cases hr
    ·rename_i c0 hc0
     split at hr
     ·cases hr
      exact pzg h (vkc hxn (by simpa using hc))
     ·split at hr
      ·rename_i e es'
       split at hr
       ·rename_i in' hin
        cases hr
        have h1:bzc es':=by
         have:=njd hxn _ (List.mem_of_getElem? hc0)
         simpa only [nofz] using this
        exact pzg h (vkc hxn (by simpa only [List.mem_singleton,forall_eq,nofz] using dke hc _ h1 hin))
       ·cases hr
      ·cases hr
   ·cases hr
theorem bxj (keeps:Bool) (v:Nat) (x:TV) (y:CV) (hy:keeps=false→gx y):Qm (mzc keeps v x y) fun y=>keeps=false→gx y:=by
 unfold mzc
 split
 ·refine (Qm.getN _).bind fun n hn=> ?_
  split
  ·rename_i q ver' e es
   split
   ·exact Qm.fail
   ·rename_i hcond
    split
    ·rename_i r es1 hg hp
     refine Qm.bind (Qm.setN _ _ fun ver e0 es0 hh=> ?_) fun _ _=>Qm.pure fun hk=> ?_
     ·simp only [Option.some.injEq,Node.sl.injEq] at hh
      obtain ⟨hq,_,_,rfl⟩:=hh
      subst hq
      exact dke (by simp only [nofz]) _ (hn _ _ _ rfl) hp
     ·have hq:q=false:=by
       cases q with
       |false=>rfl
       |true=>exact absurd (.inl (by rw [hk];rfl)) hcond
      subst hq
      simp only [gx]
      exact fun _=>ozg _ (hn _ _ _ rfl) hg
    ·exact Qm.fail
  ·exact Qm.fail
 ·exact Qm.pure hy
theorem hqg (keeps:Bool) (v:Nat): ∀(ms:List Md) (xs:List TV) (ys:List CV),(keeps=false→cj ys)→Qm (fx keeps v ms xs ys) fun ys=>keeps=false→cj ys
 | [],[],[],h=>by unfold fx;exact Qm.pure fun _=>by simp [cj]
 | .ro _::ms,_::xs,y::ys,h=>by
   unfold fx
   exact (hqg keeps v ms xs ys fun hk=>by have:=h hk;simp only [cj] at this;exact this.2).bind fun ys' h'=>Qm.pure fun hk=>by
    have:=h hk;simp only [cj] at this ⊢;exact ⟨this.1,h' hk⟩
 | .mut _::ms,x::xs,y::ys,h=>by
   unfold fx
   exact (bxj keeps v x y fun hk=>by have:=h hk;simp only [cj] at this;exact this.1).bind fun y' hy'=>(hqg keeps v ms xs ys fun hk=>by have:=h hk;simp only [cj] at this;exact this.2).bind fun ys' h'=>Qm.pure fun hk=>by
    simp only [cj];exact ⟨hy' hk,h' hk⟩
 | [],[],_::_,_=>by unfold fx;exact Qm.fail
 | [],_::_,_,_=>by unfold fx;exact Qm.fail
 | .ro _::_,[],_,_=>by unfold fx;exact Qm.fail
 | .ro _::_,_::_,[],_=>by unfold fx;exact Qm.fail
 | .mut _::_,[],_,_=>by unfold fx;exact Qm.fail
 | .mut _::_,_::_,[],_=>by unfold fx;exact Qm.fail
theorem xxh (keeps:Bool) (v:Nat) (ms:List Md) (xs:List TV):Qm (jze keeps v ms xs) fun ys=>keeps=false→cj ys:=
 (yxh keeps ms xs).bind fun ys h=>hqg keeps v ms xs ys h
theorem dkg (keeps:Bool): ∀(ms:List Md) (xs:List TV) (ys:List CV),(keeps=false→cj ys)→Qm (zq keeps ms xs ys) fun cs=>keeps=false→cj cs
 | [],[],[],_=>by unfold zq;exact Qm.pure fun _=>by simp [cj]
 | .ro n::ms,x::xs,y::ys,h=>by
   unfold zq
   exact (uqf keeps depth n x).bind fun y' h1=>(dkg keeps ms xs ys fun hk=>by have:=h hk;simp only [cj] at this;exact this.2).bind fun ys' h2=>Qm.pure fun hk=>by simp only [cj];exact ⟨h1,h2 hk⟩
 | .mut _::ms,_::xs,y::ys,h=>by
   unfold zq
   exact (dkg keeps ms xs ys fun hk=>by have:=h hk;simp only [cj] at this;exact this.2).bind fun ys' h2=>Qm.pure fun hk=>by
    have:=h hk
    simp only [cj] at this ⊢
    exact ⟨this.1,h2 hk⟩
 | [],[],_::_,_=>by unfold zq;exact Qm.fail
 | [],_::_,_,_=>by unfold zq;exact Qm.fail
 | .ro _::_,[],_,_=>by unfold zq;exact Qm.fail
 | .ro _::_,_::_,[],_=>by unfold zq;exact Qm.fail
 | .mut _::_,[],_,_=>by unfold zq;exact Qm.fail
 | .mut _::_,_::_,[],_=>by unfold zq;exact Qm.fail
mutual
theorem ckg (q:Bool): ∀(c:CV) (b:Nat),(q=false→gx c)→Qt (rz q b c)
 | .a _,b,_=>by unfold rz;exact Qm.pure trivial
 | .sl z e es,b,h=>by
   unfold rz
   split
   ·exact Qm.pure trivial
   ·rename_i hz
    refine Qt.bind (Qm.setN _ _ fun ver' e' es' hh=> ?_) fun _=>Qm.pure trivial
    simp only [Option.some.injEq,Node.sl.injEq] at hh
    obtain ⟨hq,_,_,rfl⟩:=hh
    have:=h hq
    simp only [gx] at this
    exact this (by simpa using hz)
 | .bx z cs,b,h=>by
   unfold rz
   exact (gxb q cs _ fun hq=>by have:=h hq;simp only [gx] at this;exact this).bind fun r=>Qt.bind (Qm.setN _ _ fun _ _ _ h=>by cases h) fun _=>Qm.pure trivial
 | .st cs,b,h=>by
   unfold rz
   exact (gxb q cs _ fun hq=>by have:=h hq;simp only [gx] at this;exact this).bind fun r=>Qm.pure trivial
 | .tp cs,b,h=>by
   unfold rz
   exact (gxb q cs _ fun hq=>by have:=h hq;simp only [gx] at this;exact this).bind fun r=>Qm.pure trivial
 | .fn f fs cs,b,h=>by
   unfold rz
   exact (gxb q fs _ fun hq=>by have:=h hq;simp only [gx] at this;exact this.1).bind fun r=>(gxb q cs _ fun hq=>by have:=h hq;simp only [gx] at this;exact this.2).bind fun r=>Qm.pure trivial
 | .ic t c,b,h=>by
   unfold rz
   exact (ckg q c _ fun hq=>by have:=h hq;simp only [gx] at this;exact this).bind fun r=>Qm.pure trivial
 | .un,b,_=>by unfold rz;exact Qm.pure trivial
theorem gxb (q:Bool): ∀(cs:List CV) (b:Nat),(q=false→cj cs)→Qt (mj q b cs)
 | [],b,_=>by unfold mj;exact Qm.pure trivial
 |c::cs,b,h=>by
  unfold mj
  exact (ckg q c _ fun hq=>by have:=h hq;simp only [cj] at this;exact this.1).bind fun r=>(gxb q cs _ fun hq=>by have:=h hq;simp only [cj] at this;exact this.2).bind fun r=>Qm.pure trivial
end
mutual
theorem mxe (q:Bool) (V:Nat): ∀(x:TV) (c0 y:CV) (b:Nat),(q=false→gx y)→Qt (dz q V b x c0 y)
 | .rf id,c0,y,b,h=>by
   cases c0 with
   |sl z0 e0 es0=>
    cases y with
    |sl z e es=>
     cases z0<;>cases z<;>simp only [dz]
     ·refine (Qm.getN _).bind fun n _=> ?_
      split
      ·refine Qt.bind (Qm.setN _ _ fun ver' e' es' hh=> ?_) fun _=>Qm.pure trivial
       simp only [Option.some.injEq,Node.sl.injEq] at hh
       obtain ⟨hq,_,_,rfl⟩:=hh
       have:=h hq
       simp only [gx] at this
       exact this trivial
      ·exact Qm.fail
     all_goals exact Qm.pure trivial
    |_=>simp only [dz];exact Qm.pure trivial
   |bx z0 cs0=>
    cases y with
    |bx z cs=>
     cases z0<;>cases z<;>simp only [dz]
     ·refine (Qm.getN _).bind fun n _=> ?_
      split
      ·exact (gxb q cs _ fun hq=>by have:=h hq;simp only [gx] at this;exact this).bind fun r=>Qt.bind (Qm.setN _ _ fun _ _ _ h=>by cases h) fun _=>Qm.pure trivial
      ·exact Qm.fail
     all_goals exact Qm.pure trivial
    |_=>simp only [dz];exact Qm.pure trivial
   |_=>simp only [dz];exact Qm.pure trivial
 | .fn f fs cs,c0,y,b,h=>by
   cases c0 with
   |fn f0 fs0 cs0=>
    cases y with
    |fn f1 fs1 cs1=>
     simp only [dz]
     exact (kjd q V fs fs0 fs1 b fun hq=>by have:=h hq;simp only [gx] at this;exact this.1).bind fun b1=>kjd q V cs cs0 cs1 b1 fun hq=>by have:=h hq;simp only [gx] at this;exact this.2
    |_=>simp only [dz];exact Qm.pure trivial
   |_=>simp only [dz];exact Qm.pure trivial
 | .st cs,c0,y,b,h=>by
   cases c0 with
   |st cs0=>
    cases y with
    |st cs1=>
     simp only [dz]
     exact kjd q V cs cs0 cs1 b fun hq=>by have:=h hq;simp only [gx] at this;exact this
    |_=>simp only [dz];exact Qm.pure trivial
   |_=>simp only [dz];exact Qm.pure trivial
 | .ic t x,c0,y,b,h=>by
   cases c0 with
   |ic t0 x0=>
    cases y with
    |ic t1 x1=>
     simp only [dz]
     exact mxe q V x x0 x1 b fun hq=>by have:=h hq;simp only [gx] at this;exact this
    |_=>simp only [dz];exact Qm.pure trivial
   |_=>simp only [dz];exact Qm.pure trivial
 | .a _,c0,y,b,h=>by simp only [dz];exact Qm.pure trivial
 | .nl _,c0,y,b,h=>by simp only [dz];exact Qm.pure trivial
 | .ri _ _ _,c0,y,b,h=>by simp only [dz];exact Qm.pure trivial
 | .sb _ _ _,c0,y,b,h=>by simp only [dz];exact Qm.pure trivial
 | .ad _ _,c0,y,b,h=>by simp only [dz];exact Qm.pure trivial
 | .ea _ _ _ _,c0,y,b,h=>by simp only [dz];exact Qm.pure trivial
 | .ei _ _ _ _ _ _,c0,y,b,h=>by simp only [dz];exact Qm.pure trivial
 | .sz _ _,c0,y,b,h=>by simp only [dz];exact Qm.pure trivial
 | .ez _ _,c0,y,b,h=>by simp only [dz];exact Qm.pure trivial
 | .tp _,c0,y,b,h=>by simp only [dz];exact Qm.pure trivial
 | .un,c0,y,b,h=>by simp only [dz];exact Qm.pure trivial
theorem kjd (q:Bool) (V:Nat): ∀(xs:List TV) (cs0 ys:List CV) (b:Nat),(q=false→cj ys)→Qt (fj q V b xs cs0 ys)
 | [],cs0,ys,b,h=>by simp only [fj];exact Qm.pure trivial
 |x::xs,[],ys,b,h=>by simp only [fj];exact Qm.pure trivial
 |x::xs,c0::cs0,[],b,h=>by simp only [fj];exact Qm.pure trivial
 |x::xs,c0::cs0,y::ys,b,h=>by
  simp only [fj]
  exact (mxe q V x c0 y b fun hq=>by have:=h hq;simp only [cj] at this;exact this.1).bind fun b1=>kjd q V xs cs0 ys b1 fun hq=>by have:=h hq;simp only [cj] at this;exact this.2
end
theorem cxj (q:Bool) (V:Nat) (x:TV) (c0 y:CV) (b:Nat) (h:q=false→gx y):Qt (lkb q V b x c0 y):=by
 unfold lkb
 split
 ·split
  ·refine (Qm.getN _).bind fun n hn=> ?_
   split
   ·split
    ·rename_i q0 ver e es _ _ es1 hat hput
     refine Qt.bind (Qm.setN _ _ fun ver' e0 es0 hh=> ?_) fun _=>Qm.pure trivial
     simp only [Option.some.injEq,Node.sl.injEq,Bool.or_eq_false_iff] at hh
     obtain ⟨⟨hq0,hq⟩,_,_,rfl⟩:=hh
     subst hq0
     have:=h hq
     simp only [gx] at this
     exact dke (by simp only [nofz];exact this trivial) _ (hn _ _ _ rfl) hput
    ·exact Qm.fail
   ·exact Qm.fail
  ·exact Qm.fail
 ·exact mxe q V x c0 y b h
theorem skd (q:Bool) (V:Nat): ∀(ms:List Md) (xs:List TV) (cs fs:List CV) (b:Nat),(q=false→cj fs)→Qt (mz q V b ms xs cs fs)
 | [],[],[],[],b,h=>by simp only [mz];exact Qm.pure trivial
 | .ro _::ms,x::xs,c::cs,fs,b,h=>by simp only [mz];exact skd q V ms xs cs fs b h
 | .mut _::ms,x::xs,c::cs,f::fs,b,h=>by
   simp only [mz]
   exact (cxj q V x c f b fun hq=>by have:=h hq;simp only [cj] at this;exact this.1).bind fun b1=>skd q V ms xs cs fs b1 fun hq=>by have:=h hq;simp only [cj] at this;exact this.2
 | [],_::_,_,_,b,h=>by simp only [mz];exact Qm.fail
 | [],[],_::_,_,b,h=>by simp only [mz];exact Qm.fail
 | [],[],[],_::_,b,h=>by simp only [mz];exact Qm.fail
 | .ro _::_,[],_,_,b,h=>by simp only [mz];exact Qm.fail
 | .ro _::_,_::_,[],_,b,h=>by simp only [mz];exact Qm.fail
 | .mut _::_,[],_,_,b,h=>by simp only [mz];exact Qm.fail
 | .mut _::_,_::_,[],_,b,h=>by simp only [mz];exact Qm.fail
 | .mut _::_,_::_,_::_,[],b,h=>by simp only [mz];exact Qm.fail
theorem gkd: ∀{cs ds:List CV},cj (cs++ds)↔cj cs∧cj ds
 | [],ds=>by simp [cj]
 |c::cs,ds=>by simp [cj,gkd (cs:=cs),and_assoc]
def Nofz (g:Option Callee):Prop:= ∀c,g=some c→c.keeps=false→ ∀cs rs fs,cj cs→c.go cs=some (rs,fs)→cj (rs++fs)
theorem ckh {g:Option Callee} (hg:Nofz g) (b:Nat) (xs:List TV):Qt (aqd g b xs):=by
 cases g with
 |none=>exact Qm.fail
 |some c=>
  simp only [aqd]
  refine (xxh c.keeps (b+100) c.modes xs).bind fun ps hps=>(dkg c.keeps c.modes xs ps hps).bind fun cs hcs=> ?_
  cases hgo:c.go cs with
  |none=>exact Qm.fail
  |some rf=>
   obtain ⟨rs,fs⟩:=rf
   have hall:c.keeps=false→cj rs∧cj fs:=fun hk=>gkd.1 (hg c rfl hk cs rs fs (hcs hk) hgo)
   refine (skd c.keeps (b+100) c.modes xs cs fs b fun hk=>(hall hk).2).bind fun b'=> ?_
   split
   ·split
    ·exact Qt.bind (Qt.of (Qm.liftO _)) fun ts=>Qm.pure trivial
    ·exact Qm.fail
   unfold njb
   refine (gxb c.keeps rs b' fun hk=>(hall hk).1).bind fun r=> ?_
   split
   ·exact Qm.pure trivial
   ·exact Qm.fail
theorem ekg (d:Option Nat) (v:TV):Qt (putO d v):=by
 cases d with
 |none=>exact Qm.pure trivial
 |some d=>exact Qm.setS _ _
theorem pzj {Φ:Nat→Option Callee} (hΦ: ∀f,Nofz (Φ f)) (b:Nat) (op:VOp):Qt (exec Φ b op):=by
 cases op with
 |alloc d zs=>
  simp only [exec]
  split
  ·exact Qm.fail
  ·exact Qt.bind (Qm.setN _ _ fun _ _ _ h=>by cases h) fun _=>Qm.setS _ _
 |box d x=>
  simp only [exec]
  refine Qt.bind (kzc _) fun v=>Qt.bind (Qt.of (Qm.liftO _)) fun cs=> ?_
  split
  ·exact Qm.fail
  ·exact Qt.bind (Qm.setN _ _ fun _ _ _ h=>by cases h) fun _=>Qm.setS _ _
 |build d zs ps=>simp only [exec];exact (gkg _ _).bind fun cs=>Qm.setS _ _
 |bsl d e m zs n ps=>
  simp only [exec]
  refine (qzj _ _ _ _ _ fun _=>vq.2 fun c hc=>by rw [(List.mem_replicate.1 hc).2];exact bke _ _).bind fun es hes=> ?_
  refine Qt.bind (Qm.setN _ _ fun ver' e' es' hh=> ?_) fun _=>Qm.setS _ _
  simp only [Option.some.injEq,Node.sl.injEq] at hh
  obtain ⟨hq,_,_,rfl⟩:=hh
  exact hes hq
 |load d w x=>simp only [exec];exact Qt.bind (kzc _) fun v=>(fkg _ _).bind fun _=>Qm.setS _ _
 |store w x y=>simp only [exec];exact Qt.bind (kzc _) fun u=>Qt.bind (kzc _) fun v=>sxh _ _ _ _
 |slc0 d e x=>
  simp only [exec]
  refine Qt.bind (kzc _) fun u=>Qt.bind (oxe _) fun r=> ?_
  split
  ·exact Qt.bind (Qm.setN _ _ fun ver' e' es' hh=>by simp only [Option.some.injEq,Node.sl.injEq] at hh;obtain ⟨_,_,_,rfl⟩:=hh;exact vq.2 (by simp)) fun _=>Qm.setS _ _
  ·exact Qm.fail
 |mks d e bytes zs x=>
  simp only [exec]
  refine Qt.bind (kzc _) fun u=> ?_
  split
  ·split
   ·refine Qt.bind (Qm.setN _ _ fun ver' e' es' hh=> ?_) fun _=>Qm.setS _ _
    simp only [Option.some.injEq,Node.sl.injEq] at hh
    obtain ⟨_,_,_,rfl⟩:=hh
    exact vq.2 fun c hc=>by rw [(List.mem_replicate.1 hc).2];exact bke _ _
   ·exact Qm.fail
  ·exact Qm.fail
 |slc d e x lo hi=>
  simp only [exec]
  exact Qt.bind (kzc _) fun v=>Qt.bind (uqc _) fun l=>Qt.bind (uqc _) fun h=>(txh _ _ _ _).bind fun _=>Qm.setS _ _
 |sslc d x lo hi=>
  simp only [exec]
  exact Qt.bind (kzc _) fun v=>Qt.bind (uqc _) fun l=>Qt.bind (uqc _) fun h=>(axj _ _ _).bind fun _=>Qm.setS _ _
 |fad d x off=>simp only [exec];exact Qt.bind (kzc _) fun v=>(bkh _ _).bind fun _=>Qm.setS _ _
 |iad d e m x i=>
  simp only [exec]
  refine Qt.bind (kzc _) fun v=>Qt.bind (kzc _) fun u=> ?_
  split
  ·exact (zxh _ _ _ _).bind fun _=>Qm.setS _ _
  ·exact Qm.fail
 |len d x=>simp only [exec];exact Qt.bind (kzc _) fun v=>(oxe _).bind fun _=>Qm.setS _ _
 |app d e bytes mv x y=>simp only [exec];exact Qt.bind (kzc _) fun u=>Qt.bind (kzc _) fun v=>(dkh _ _ _ _ _ _).bind fun _=>Qm.setS _ _
 |call d f xs=>simp only [exec];exact Qt.bind (fqd _) fun vs=>(ckh (hΦ f) _ _).bind fun _=>ekg _ _
 |calv d f xs=>
  simp only [exec]
  refine Qt.bind (kzc _) fun g=> ?_
  split
  ·exact Qt.bind (fqd _) fun vs=>(ckh (hΦ _) _ _).bind fun _=>ekg _ _
  ·exact Qm.fail
 |b2s d e x=>
  simp only [exec]
  refine Qt.bind (kzc _) fun v=>Qt.bind (oxe _) fun r=> ?_
  split
  ·exact Qt.bind (Qt.of (Qm.liftO _)) fun _=>Qm.setS _ _
  ·exact Qm.fail
 |pick d c x y=>
  simp only [exec]
  refine Qt.bind (kzc _) fun u=> ?_
  split
  ·split
   ·exact Qt.bind (kzc _) fun _=>Qm.setS _ _
   ·exact Qt.bind (kzc _) fun _=>Qm.setS _ _
  ·exact Qm.fail
 |_=>simp only [exec];(repeat' (first|exact Qm.pure trivial|exact Qm.fail|exact Qm.setS _ _|exact Qm.getS _|exact Qt.of (Qm.getN _)|exact Qt.of (Qm.liftO _)|(refine Qt.bind (Qt.of (Qm.getN _)) fun _=> ?_)|(refine Qt.bind (Qt.of (Qm.liftO _)) fun _=> ?_)|(refine Qt.bind (Qm.getS _) fun _=> ?_)|(refine Qt.bind (kzc _) fun _=> ?_)|(refine Qt.bind (fqd _) fun _=> ?_)|(refine Qt.bind (uqc _) fun _=> ?_)|split))
theorem vqf {Φ:Nat→Option Callee} (hΦ: ∀f,Nofz (Φ f)) (b:Nat) (o:VOper):Qt (wzc Φ b o):=by
 unfold wzc
 split
 ·exact pzj hΦ b _
 ·refine Qt.bind (Qm.getS _) fun u=> ?_
  split
  ·split
   ·exact pzj hΦ b _
   ·exact ekg _ _
  ·exact ekg _ _
  ·exact Qm.fail
theorem iqg {Φ:Nat→Option Callee} (hΦ: ∀f,Nofz (Φ f)): ∀(os:List VOper) (b:Nat) (st st':St),ckd Φ b os st=some st'→Qok st→Qok st'
 | [],b,st,st',h,hq=>by cases h;exact hq
 |o::os,b,st,st',h,hq=>by
  simp only [ckd] at h
  split at h
  ·rename_i u s1 h1
   exact iqg hΦ os _ _ _ h (vqf hΦ b o st _ s1 h1 hq).1
  ·cases h
end Go.Proofs.YtjdcidigbbbckaaDoor.VM
namespace Go.Proofs.YtjdcidigbbbckaaDoor.VM
open Go
variable {cx:Cx} {U:Nat→Prop} {X:iz} {ρ:Nat→Value} {F:Nat→iz} {st:St} {sh:uj} {V:Nat} {a:Act} {w:World}
theorem akh {b:Nat} {Φ:Nat→Option Callee} (hq:Qok st): ∀f c (xs:List TV),Φ f=some c→c.keeps=false→ ∀ps cs s1 s2,(jze c.keeps (b+100) c.modes xs).run st=some (ps,s1)→(zq c.keeps c.modes xs ps).run s1=some (cs,s2)→cj cs:=by
 intro f c xs _ hk ps cs s1 s2 h1 h2
 obtain ⟨q1,r1⟩:=xxh c.keeps (b+100) c.modes xs st ps s1 h1 hq
 exact (dkg c.keeps c.modes xs ps r1 s1 cs s2 h2 q1).2 hk
theorem xzh {x y:Operand} (h:vjg x y=true):x=y:=by
 unfold vjg at h
 split at h
 ·rw [beq_iff_eq] at h;subst h;rfl
 ·rw [beq_iff_eq] at h;subst h;rfl
 ·cases h
theorem xzm {x:Operand} {n:Nat} (h:rzl x=some n):x= .tmp n:=by
 cases x<;>simp [rzl] at h
 rw [h]
theorem mxj {Φ:Nat→Option Callee} (hS: ∀f c,Φ f=some c→Sound cx.P f c) (h:G cx U (fun _ _=>False) ρ F st a w) (hq:Qok st) {b:Nat} (hb: ∀i,b≤i→i<b+100→ ¬U i) {ops:Array Oper} {o:Oper} {v:VOp} (hc:cOp1 cx.P ops o=some v)
 (hd: ∀d,o.dst=some d→d<cx.n) {s1:St} (hr:(exec Φ b v).run st=some ((),s1)):Now cx U b o s1 a w:=by
 unfold cOp1 at hc
 split at hc
 ·rename_i hop hdst
  obtain ⟨y,hy,rfl⟩:=Option.map_eq_some_iff.1 hc
  exact pkh h hdst (hd _ hdst) (.inl hop) hy hr
 ·rename_i hop hdst
  obtain ⟨y,hy,rfl⟩:=Option.map_eq_some_iff.1 hc
  exact pkh h hdst (hd _ hdst) (.inr hop) hy hr
 ·rename_i hop hdst
  split at hc
  ·rename_i h1 h2 h3
   cases hc
   exact okh h hdst (hd _ hdst) hop h1 h2 h3 hr
  ·cases hc
 ·rename_i hop hdst
  obtain ⟨y,hy,rfl⟩:=Option.map_eq_some_iff.1 hc
  exact nkg h hb hdst (hd _ hdst) hop hy hr
 ·rename_i hop hdst
  split at hc
  ·obtain ⟨y,hy,rfl⟩:=Option.map_eq_some_iff.1 hc
   exact djj h hb hdst (hd _ hdst) hop hy hr
  ·cases hc
 ·rename_i hop hdst
  split at hc
  ·rename_i h1 h2 h3
   split at hc
   ·rename_i h4
    cases hc
    exact mkg h hdst (hd _ hdst) hop h1 h2 h3 h4 hr
   ·cases hc
  ·cases hc
 ·rename_i hop hdst
  split at hc
  ·rename_i h0
   split at hc
   ·rename_i h1 h2 h3
    split at hc
    ·rename_i h4
     cases hc
     exact cjj h hb hdst (hd _ hdst) hop h0 h1 h2 h3 h4 hr
    ·cases hc
   ·cases hc
  ·cases hc
 ·rename_i hop hdst
  split at hc
  ·rename_i h1 h2
   cases hc
   exact rkh h hdst (hd _ hdst) hop h1 h2 hr
  ·cases hc
 ·rename_i hop hdst
  split at hc
  ·rename_i h1 h2 h3 h4
   cases hc
   exact kkg h hb hdst hop h2 h3 h4 hr
  ·cases hc
 ·rename_i hop hdst
  obtain ⟨y,hy,rfl⟩:=Option.map_eq_some_iff.1 hc
  exact lkg h hdst (hd _ hdst) hop hy hr
 ·rename_i hop hdst
  split at hc
  ·split at hc
   ·rename_i h1 h2
    cases hc
    exact ejj h hdst (hd _ hdst) hop h1 h2 hr
   ·cases hc
  ·split at hc
   ·rename_i hbt
    split at hc
    ·rename_i h1 h2 h3
     cases hc
     exact fjj h hdst (hd _ hdst) hop h1 h2 hbt h3 hr
    ·cases hc
   ·cases hc
 ·rename_i hop hdst
  obtain ⟨y,hy,rfl⟩:=Option.map_eq_some_iff.1 hc
  exact akk h (t':=0) hdst (hd _ hdst) hop hy hr
 ·rename_i hop hdst
  split at hc
  ·rename_i h1 h2 h3
   cases hc
   exact bjj h hdst (hd _ hdst) hop h1 h2 h3 hr
  ·rename_i h1 h2 h3
   cases hc
   exact ajj h hdst (hd _ hdst) hop h1 h2 h3 hr
  ·split at hc
   ·cases hc
    exact (cz hr).elim
   ·cases hc
  ·rename_i h1 h2 h3
   split at hc
   ·rename_i h4
    cases hc
    exact gjj h hdst (hd _ hdst) hop h1 h4 h2 h3 hr
   ·cases hc
  ·cases hc
 ·rename_i hop hdst
  split at hc
  ·rename_i h1 h2
   cases hc
   exact uzj h hdst (hd _ hdst) hop h1 h2 hr
  ·cases hc
 ·rename_i hop hdst
  split at hc
  ·rename_i hcon
   obtain ⟨y,hy,rfl⟩:=Option.map_eq_some_iff.1 hc
   exact tzj h hdst (hd _ hdst) hop (fun v=>run_makeInterface w _ v hcon) hy hr
  ·cases hc
 ·rename_i hop hdst
  split at hc
  ·rename_i h0
   split at hc
   ·rename_i h2 h3 h4
    split at hc
    ·rename_i hcond
     cases hc
     rw [←xzh hcond] at hop
     exact szj h hb hdst (hd _ hdst) hop h0 h2 h3 h4 hr
    ·cases hc
   ·cases hc
  ·cases hc
 ·rename_i hop hdst
  split at hc
  ·rename_i h1 h2 h3 h4
   cases hc
   exact lkh h hdst (hd _ hdst) hop h1 h2 h3 h4 hr
  ·rename_i h1 h2 h3 h4
   split at hc
   ·rename_i hs
    cases hc
    obtain ⟨m,hm⟩:=Option.isSome_iff_exists.1 hs
    exact rzj h hdst (hd _ hdst) hop h1 hm h2 h3 h4 hr
   ·cases hc
  ·cases hc
 ·rename_i hop hdst
  split at hc
  ·rename_i h1 h2
   split at hc
   ·rename_i hcond
    cases hc
    obtain ⟨m,hm⟩:=Option.isSome_iff_exists.1 hcond.2.2
    exact nkh h hb hdst (hd _ hdst) hop h1 hm h2 hcond.1 hcond.2.1 hr
   ·cases hc
  ·cases hc
 ·rename_i hop hdst
  split at hc
  ·rename_i h1 h2
   split at hc
   ·rename_i h3
    cases hc
    exact yzj h hdst (hd _ hdst) hop h1 h3 h2 hr
   ·cases hc
  ·cases hc
 ·rename_i hop hdst
  split at hc
  ·rename_i h1
   split at hc
   ·rename_i h2 h3
    cases hc
    exact xzj h hdst (hd _ hdst) hop h1 h2 h3 hr
   ·cases hc
  ·cases hc
 ·rename_i hop hdst
  split at hc
  ·rename_i h0
   split at hc
   ·rename_i h1 h2 h3
    split at hc
    ·cases hc
     exact wzj h hdst (hd _ hdst) hop h0 h1 h2 h3 hr
    ·cases hc
   ·cases hc
  ·cases hc
 ·rename_i hop hdst
  split at hc
  ·rename_i h0
   split at hc
   ·rename_i h1 h2
    cases hc
    exact bkk h hdst (hd _ hdst) hop h0 h1 h2 hr
   ·cases hc
  ·cases hc
 ·rename_i hop hdst
  obtain ⟨y,hy,rfl⟩:=Option.map_eq_some_iff.1 hc
  exact zzj h hdst (hd _ hdst) hop hy hr
 ·rename_i hop hdst
  split at hc
  ·rename_i ha ht
   have ha':=Array.toList_inj.1 (ha.trans (List.toList_toArray).symm)
   have ht':=Array.toList_inj.1 (ht.trans (List.toList_toArray).symm)
   split at hc
   ·rename_i h0
    obtain ⟨y,hy,rfl⟩:=Option.map_eq_some_iff.1 hc
    exact mkh h hdst (hd _ hdst) hop rfl ha' ht' h0 hy hr
   ·rename_i h0
    obtain ⟨y,hy,rfl⟩:=Option.map_eq_some_iff.1 hc
    exact vzj h hdst (hd _ hdst) hop rfl ha' ht' h0 hy hr
   ·cases hc
  ·cases hc
 ·rename_i hop hdst
  split at hc
  ·rename_i ha ht
   have ha':=Array.toList_inj.1 (ha.trans (List.toList_toArray).symm)
   have ht':=Array.toList_inj.1 (ht.trans (List.toList_toArray).symm)
   split at hc
   ·rename_i h0 _
    split at hc
    ·rename_i hcond
     obtain ⟨rfl,rfl⟩:=hcond
     split at hc
     ·rename_i h1 h2 h3 h4 h5
      split at hc
      ·rename_i hpos
       cases hc
       exact hjj h hb hdst (hd _ hdst) hop rfl ha' ht' h0 h1 h2 h3 hpos.1 h4 h5 hr
      ·cases hc
     ·cases hc
    ·cases hc
   ·cases hc
  ·cases hc
 ·rename_i hop hdst
  split at hc
  ·rename_i hcond
   simp only [Bool.and_eq_true,decide_eq_true_eq] at hcond
   obtain ⟨y,hy,rfl⟩:=Option.map_eq_some_iff.1 hc
   exact qkh h hdst (hd _ hdst) (isMax:=true) hop rfl hcond.1 hy hr
  ·cases hc
 ·rename_i hop hdst
  split at hc
  ·rename_i hcond
   simp only [Bool.and_eq_true,decide_eq_true_eq] at hcond
   obtain ⟨y,hy,rfl⟩:=Option.map_eq_some_iff.1 hc
   exact qkh h hdst (hd _ hdst) (isMax:=false) hop rfl hcond.1 hy hr
  ·cases hc
 ·rename_i hop
  split at hc
  ·cases hc
  ·rename_i hsz
   obtain ⟨y,hy,rfl⟩:=Option.map_eq_some_iff.1 hc
   exact tkh h hb rfl hd hop rfl (Decidable.of_not_not hsz) hy (hS _) (fun c xs=>akh hq _ c xs) hr
 ·rename_i hop
  split at hc
  ·cases hc
  ·rename_i hsz
   obtain ⟨y,hy,rfl⟩:=Option.map_eq_some_iff.1 hc
   have hn:=Nat.lt_of_not_le fun h=>hsz (.inr h)
   have hsz':=Decidable.of_not_not fun h=>hsz (.inl h)
   exact skh h hb rfl hd hop hn rfl hsz' hy hS (fun f c xs=>akh hq f c xs) hr
 ·cases hc
theorem ijj {Φ:Nat→Option Callee} (hS: ∀f c,Φ f=some c→Sound cx.P f c) (h:G cx U (fun _ _=>False) ρ F st a w) (hq:Qok st) {b:Nat} (hb: ∀i,b≤i→i<b+100→ ¬U i) {ops:Array Oper} {o:Oper} {v:VOp} (hc:cOp cx.P ops o=some v)
 (hd: ∀d,o.dst=some d→d<cx.n) {s1:St} (hr:(exec Φ b v).run st=some ((),s1)):Now cx U b o s1 a w:=by
 unfold cOp at hc
 cases h1:cOp1 cx.P ops o with
 |none=>
  rw [h1] at hc
  cases hc
  exact (cz hr).elim
 |some x=>
  rw [h1] at hc
  cases hc
  exact mxj hS h hq hb h1 hd hr
end Go.Proofs.YtjdcidigbbbckaaDoor.VM
