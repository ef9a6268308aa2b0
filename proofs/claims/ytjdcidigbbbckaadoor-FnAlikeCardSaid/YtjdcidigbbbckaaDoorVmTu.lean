/- The interpreter 'VM': a slice that is not marked has no frozen parts: each operation keeps that. The interpreter 'VM': each operation, by the compiler's cases. -/
import Derived.Test.YtjdcidigbbbckaaDoorVmQs
namespace Go.Proofs.YtjdcidigbbbckaaDoor.VM
open Go
theorem ox: ∀{l:List PV},hzc l↔ ∀x∈l,nofz x
 | []=>by simp [hzc]
 |c::cs=>by simp [hzc,ox (l:=cs)]
theorem hqd {x:PV} (h:nofz x): ∀c∈x.cells,nofz c:=by
 cases x with
 |st cs=>exact fun c hc=>ox.1 (show hzc cs by simpa [nofz] using h) c hc
 |_=>intro c hc;simp [PV.cells] at hc;subst hc;exact h
theorem gke {l:List PV} (h: ∀c∈l,nofz c):nofz (.st l):=by simp only [nofz];exact ox.2 h
theorem gxc {x:PV} {o:Nat} {ys:List PV} (h:nofz x) (hy: ∀c∈ys,nofz c):nofz (bq x o ys):=by
 unfold bq
 split
 ·rename_i cs
  apply gke
  intro c hc
  simp only [List.mem_append] at hc
  have hcs:=hqd h
  rcases hc with (hc|hc)|hc
  ·exact hcs c (List.mem_of_mem_take hc)
  ·exact hy c hc
  ·exact hcs c (List.mem_of_mem_drop hc)
 ·split
  ·exact hy _ (by simp)
  ·exact h
theorem dkg (x:PV):nofz x.cpy:=by
 cases x with
 |st cs=>
  apply gke
  intro c hc
  obtain ⟨y,_,rfl⟩:=List.mem_map.1 hc
  split<;>simp [nofz]
 |_=>simp [PV.cpy,nofz]
theorem xkh (z:ZC):nofz z.pv:=by cases z<;>simp [ZC.pv,nofz,hzc]
theorem fke (m:Nat) (zs:List ZC):nofz (ijc m zs):=by
 unfold ijc
 split
 ·cases zs with
  |nil=>simp [nofz]
  |cons z zs=>exact xkh z
 ·apply gke
  intro c hc
  obtain ⟨z,_,rfl⟩:=List.mem_map.1 hc
  exact xkh z
def Qm {α:Type} (m:M α) (R:α→Prop):Prop:= ∀st r st',m.run st=some (r,st')→Qok st→Qok st'∧R r
theorem Qm.bind {α β:Type} {m:M α} {k:α→M β} {R:α→Prop} {S:β→Prop} (h:Qm m R) (hk: ∀x,R x→Qm (k x) S):Qm (m.bind k) S:=by
 intro st r st' hr hq
 obtain ⟨x,s1,h1,h2⟩:=az hr
 obtain ⟨q1,r1⟩:=h st x s1 h1 hq
 exact hk x r1 s1 r st' h2 q1
theorem Qm.pure {α:Type} {x:α} {R:α→Prop} (h:R x):Qm (M.pure x) R:=by
 intro st r st' hr hq
 cases run_pure hr
 exact ⟨hq,h⟩
theorem Qm.fail {α:Type} {R:α→Prop}:Qm (M.fail:M α) R:=fun _ _ _ hr=>(cz hr).elim
theorem Qm.getS (t:Nat):Qm (getS t) fun _=>True:=by
 intro st r st' hr hq
 cases fkc hr
 exact ⟨hq,trivial⟩
theorem Qm.setS (t:Nat) (v:TV):Qm (setS t v) fun _=>True:=by
 intro st r st' hr hq
 cases pj hr
 exact ⟨fun id ver e es hn=>hq id ver e es hn,trivial⟩
theorem Qm.getN (id:Nat):Qm (getN id) fun n=> ∀ver e es,n=some (.sl false ver e es)→hzc es:=by
 intro st r st' hr hq
 cases eq hr
 exact ⟨hq,fun ver e es hn=>hq id ver e es hn⟩
theorem Qm.setN (id:Nat) (n:Option Node) (h: ∀ver e es,n=some (.sl false ver e es)→hzc es):Qm (setN id n) fun _=>True:=by
 intro st r st' hr hq
 cases zx hr
 refine ⟨fun j ver e es hn=> ?_,trivial⟩
 rw [kkb] at hn
 split at hn
 ·exact h ver e es hn
 ·exact hq j ver e es hn
theorem Qm.liftO {α:Type} (x:Option α):Qm (liftO x) fun r=>x=some r:=by
 intro st r st' hr hq
 obtain ⟨h1,h2⟩:=zk hr
 simp only at h1 h2
 subst h2
 exact ⟨hq,h1⟩
theorem Qm.weak {α:Type} {m:M α} {R S:α→Prop} (h:Qm m R) (hs: ∀x,R x→S x):Qm m S:=fun st r st' hr hq=>let ⟨h1,h2⟩:=h st r st' hr hq;⟨h1,hs r h2⟩
abbrev Qt {α:Type} (m:M α):Prop:=Qm m fun _=>True
theorem Qt.of {α:Type} {m:M α} {R:α→Prop} (h:Qm m R):Qt m:=h.weak fun _ _=>trivial
theorem Qt.bind {α β:Type} {m:M α} {k:α→M β} {S:β→Prop} (h:Qt m) (hk: ∀x,Qm (k x) S):Qm (m.bind k) S:=Qm.bind h fun x _=>hk x
theorem ejc (x:Opd):Qt (opd x):=by
 cases x<;>first|exact Qm.getS _|exact Qm.pure trivial
theorem zqd: ∀(xs:List Opd),Qt (opds xs)
 | []=>Qm.pure trivial
 |x::xs=>(ejc x).bind fun _=>(zqd xs).bind fun _=>Qm.pure trivial
theorem vxc (x:Option Opd):Qt (sxd x):=by
 cases x with
 |none=>exact Qm.pure trivial
 |some y=>
  refine (ejc y).bind fun u=> ?_
  split
  ·exact Qm.pure trivial
  ·exact Qm.fail
theorem uxg (w:Option Nat) (v:TV):Qt (loadAt w v):=by unfold loadAt;(repeat' (first|exact Qm.pure trivial|exact Qm.fail|exact Qm.setS _ _|exact Qm.getS _|exact Qt.of (Qm.getN _)|exact Qt.of (Qm.liftO _)|(refine Qt.bind (Qt.of (Qm.getN _)) fun _=> ?_)|(refine Qt.bind (Qt.of (Qm.liftO _)) fun _=> ?_)|(refine Qt.bind (Qm.getS _) fun _=> ?_)|(refine Qt.bind (ejc _) fun _=> ?_)|(refine Qt.bind (zqd _) fun _=> ?_)|(refine Qt.bind (vxc _) fun _=> ?_)|split))
theorem txe (v:TV):Qt (oxb v):=by unfold oxb;(repeat' (first|exact Qm.pure trivial|exact Qm.fail|exact Qm.setS _ _|exact Qm.getS _|exact Qt.of (Qm.getN _)|exact Qt.of (Qm.liftO _)|(refine Qt.bind (Qt.of (Qm.getN _)) fun _=> ?_)|(refine Qt.bind (Qt.of (Qm.liftO _)) fun _=> ?_)|(refine Qt.bind (Qm.getS _) fun _=> ?_)|(refine Qt.bind (ejc _) fun _=> ?_)|(refine Qt.bind (zqd _) fun _=> ?_)|(refine Qt.bind (vxc _) fun _=> ?_)|split))
theorem pxh (e:Nat) (v:TV) (l h:Option Int):Qt (sliceAt e v l h):=by unfold sliceAt;(repeat' (first|exact Qm.pure trivial|exact Qm.fail|exact Qm.setS _ _|exact Qm.getS _|exact Qt.of (Qm.getN _)|exact Qt.of (Qm.liftO _)|(refine Qt.bind (Qt.of (Qm.getN _)) fun _=> ?_)|(refine Qt.bind (Qt.of (Qm.liftO _)) fun _=> ?_)|(refine Qt.bind (Qm.getS _) fun _=> ?_)|(refine Qt.bind (ejc _) fun _=> ?_)|(refine Qt.bind (zqd _) fun _=> ?_)|(refine Qt.bind (vxc _) fun _=> ?_)|split))
theorem jxj (v:TV) (l h:Option Int):Qt (kzf v l h):=by unfold kzf;(repeat' (first|exact Qm.pure trivial|exact Qm.fail|exact Qm.setS _ _|exact Qm.getS _|exact Qt.of (Qm.getN _)|exact Qt.of (Qm.liftO _)|(refine Qt.bind (Qt.of (Qm.getN _)) fun _=> ?_)|(refine Qt.bind (Qt.of (Qm.liftO _)) fun _=> ?_)|(refine Qt.bind (Qm.getS _) fun _=> ?_)|(refine Qt.bind (ejc _) fun _=> ?_)|(refine Qt.bind (zqd _) fun _=> ?_)|(refine Qt.bind (vxc _) fun _=> ?_)|split))
theorem xxh (o:Nat) (v:TV):Qt (fieldAt o v):=by unfold fieldAt;(repeat' (first|exact Qm.pure trivial|exact Qm.fail|exact Qm.setS _ _|exact Qm.getS _|exact Qt.of (Qm.getN _)|exact Qt.of (Qm.liftO _)|(refine Qt.bind (Qt.of (Qm.getN _)) fun _=> ?_)|(refine Qt.bind (Qt.of (Qm.liftO _)) fun _=> ?_)|(refine Qt.bind (Qm.getS _) fun _=> ?_)|(refine Qt.bind (ejc _) fun _=> ?_)|(refine Qt.bind (zqd _) fun _=> ?_)|(refine Qt.bind (vxc _) fun _=> ?_)|split))
theorem vxh (e m:Nat) (v:TV) (i:Int):Qt (indexAt e m v i):=by
 unfold indexAt
 refine Qt.bind (txe _) fun _=> ?_
 (repeat' (first|exact Qm.pure trivial|exact Qm.fail|exact Qm.setS _ _|exact Qm.getS _|exact Qt.of (Qm.getN _)|exact Qt.of (Qm.liftO _)|(refine Qt.bind (Qt.of (Qm.getN _)) fun _=> ?_)|(refine Qt.bind (Qt.of (Qm.liftO _)) fun _=> ?_)|(refine Qt.bind (Qm.getS _) fun _=> ?_)|(refine Qt.bind (ejc _) fun _=> ?_)|(refine Qt.bind (zqd _) fun _=> ?_)|(refine Qt.bind (vxc _) fun _=> ?_)|split))
theorem vzj (x:TV):Qm (toPV x) fun r=>r.2=false→nofz r.1:=by
 unfold toPV
 split
 ·split
  ·exact Qm.pure fun _=>by simp [nofz]
  ·exact Qm.fail
 ·exact Qm.pure fun _=>by simp [nofz,hzc]
 ·exact Qm.pure fun h=>by cases h
 ·refine (Qm.getN _).bind fun n hn=> ?_
  split
  ·rename_i q ver e es
   refine Qt.bind (Qm.setN _ _ fun _ _ _ h=>by cases h) fun _=>Qm.pure fun hq=> ?_
   simp only at hq
   subst hq
   simp only [nofz]
   exact hn _ _ _ rfl
  ·exact Qm.fail
 ·exact Qm.fail
theorem wjg: ∀(xs:List TV),Qm (pzd xs) fun r=>r.2=false→ ∀c∈r.1,nofz c
 | []=>Qm.pure fun _=>by simp
 |x::xs=>by
  unfold pzd
  refine (vzj x).bind fun y hy=>(wjg xs).bind fun ys hys=>Qm.pure fun hq=> ?_
  simp only [Bool.or_eq_false_iff] at hq
  intro c hc
  cases hc with
  |head=>exact hy hq.1
  |tail _ hc=>exact hys hq.2 c hc
theorem ezf {x:TV} {y:PV} (h:qkc x=some y):nofz y:=by
 unfold qkc at h
 split at h
 ·split at h
  ·cases h;simp [nofz]
  ·cases h
 ·cases h
theorem aqd: ∀{xs:List TV} {ys:List PV},hxb xs=some ys→ ∀y∈ys,nofz y
 | [],ys,h=>by cases h;simp
 |x::xs,ys,h=>by
  simp only [hxb] at h
  split at h
  ·rename_i y ys' h1 h2
   cases h
   intro c hc
   cases hc with
   |head=>exact ezf h1
   |tail _ hc=>exact aqd h2 c hc
  ·cases h
theorem okk (flat:Bool) (x:TV):Qm (toEl flat x) fun r=>r.2=false→nofz r.1:=by
 unfold toEl
 split
 ·split
  ·refine (Qm.liftO _).bind fun ys hys=>Qm.pure fun _=>gke (aqd hys)
  ·exact (wjg _).bind fun ys hys=>Qm.pure fun hq=>gke (hys hq)
 ·split
  ·exact (Qm.liftO _).bind fun y hy=>Qm.pure fun _=>ezf hy
  ·exact vzj _
theorem yzj (flat:Bool) (m:Nat): ∀(ps:List (Nat×Opd)) (q:Bool) (es:List PV),(q=false→hzc es)→Qm (bslM flat m ps q es) fun r=>r.2=false→hzc r.1
 | [],q,es,h=>Qm.pure h
 |(i,x)::ps,q,es,h=>by
  unfold bslM
  refine (ejc x).bind fun v=>(okk flat v).bind fun y hy=> ?_
  split
  ·refine yzj flat m ps _ _ fun hq=> ?_
   simp only [Bool.or_eq_false_iff] at hq
   refine ox.2 fun c hc=> ?_
   rcases List.mem_or_eq_of_mem_set hc with hc|rfl
   ·exact ox.1 (h hq.1) c hc
   ·exact hy hq.2
  ·exact Qm.fail
theorem vxg: ∀(ps:List (Nat×Nat×Opd)) (cs:List TV),Qt (okc ps cs)
 | [],cs=>Qm.pure trivial
 |(o,w,x)::ps,cs=>by
  unfold okc
  refine (ejc x).bind fun v=> ?_
  split
  ·exact vxg ps _
  ·exact Qm.fail
theorem hke {es:List PV} {i:Nat} {x:PV} (h:hzc es) (hx:nofz x):hzc (es.set i x):=
 ox.2 fun y hy=>(List.mem_or_eq_of_mem_set hy).elim (ox.1 h y) fun e=>e▸hx
theorem mkd: ∀(p:List (Nat×Nat×Nat)) {es:List PV} {r:Nat×List PV},hzc es→dget es p=some r→hzc r.2
 | [],es,r,h,hr=>by simp [dget] at hr
 |(i,m,o)::p,es,r,h,hr=>by
  simp only [dget] at hr
  split at hr
  ·cases hr
  ·rename_i x hx
   split at hr
   ·split at hr
    ·rename_i e es' hc
     have h1:hzc es':=by
      have:=hqd (ox.1 h x (List.mem_of_getElem? hx)) _ (List.mem_of_getElem? hc)
      simpa only [nofz] using this
     split at hr
     ·cases hr;exact h1
     ·exact mkd _ h1 hr
    ·cases hr
   ·cases hr
theorem ujd {c:PV} (hc:nofz c): ∀(p:List (Nat×Nat×Nat)) {es es1:List PV},hzc es→dput es p c=some es1→hzc es1
 | [],es,es1,h,hr=>by simp [dput] at hr
 |(i,m,o)::p,es,es1,h,hr=>by
  simp only [dput] at hr
  split at hr
  ·cases hr
  ·rename_i x hx
   have hxn:=ox.1 h x (List.mem_of_getElem? hx)
   split at hr
   ·split at hr
    ·cases hr
    ·rename_i c0 hc0
     split at hr
     ·cases hr
      exact hke h (gxc hxn (by simpa using hc))
     ·split at hr
      ·rename_i e es'
       split at hr
       ·rename_i in' hin
        cases hr
        have h1:hzc es':=by
         have:=hqd hxn _ (List.mem_of_getElem? hc0)
         simpa only [nofz] using this
        exact hke h (gxc hxn (by simpa only [List.mem_singleton,forall_eq,nofz] using ujd hc _ h1 hin))
       ·cases hr
      ·cases hr
   ·cases hr
theorem oxh (b w:Nat) (x y:TV):Qt (storeAt b w x y):=by
 have box: ∀id o,Qt (jjc w id o y):=by
  intro id o
  unfold jjc
  refine (Qm.getN _).bind fun n hn=> ?_
  split
  ·split
   ·exact Qm.setN _ _ fun _ _ _ h=>by cases h
   ·exact Qm.fail
  ·exact Qm.fail
 unfold storeAt
 split
 ·exact box _ _
 ·exact box _ _
 ·refine (wjg _).bind fun ys hys=>(Qm.getN _).bind fun n hn=> ?_
  split
  ·rename_i q ver e es
   split
   ·rename_i x0 hx0
    split
    ·refine Qm.setN _ _ fun ver' e' es' h=> ?_
     simp only [Option.some.injEq,Node.sl.injEq] at h
     obtain ⟨hq,_,_,rfl⟩:=h
     simp only [Bool.or_eq_false_iff] at hq
     have hes:hzc es:=hn ver e es (by rw [hq.1])
     refine ox.2 fun c hc=> ?_
     rcases List.mem_or_eq_of_mem_set hc with hc|rfl
     ·exact ox.1 hes c hc
     ·exact gxc (ox.1 hes x0 (List.mem_of_getElem? hx0)) (hys hq.2)
    ·exact Qm.fail
   ·exact Qm.fail
  ·exact Qm.fail
 ·refine (Qm.getN _).bind fun n hn=> ?_
  split
  ·rename_i q ver e es
   split
   ·unfold gxd
    split
    ·rename_i e' es' ys hget hys
     split
     ·rename_i x0 hx0
      split
      ·split
       ·rename_i es1 hput
        refine Qm.setN _ _ fun ver' e2 es2 h=> ?_
        simp only [Option.some.injEq,Node.sl.injEq] at h
        obtain ⟨hq,_,_,rfl⟩:=h
        have hes:hzc es:=hn ver e es (by rw [hq])
        have he:=mkd _ hes hget
        refine ujd (c:= .sl e' (es'.set _ _)) ?_ _ hes hput
        simp only [nofz]
        exact hke he (gxc (ox.1 he x0 (List.mem_of_getElem? hx0)) (aqd hys))
       ·exact Qm.fail
      ·exact Qm.fail
     ·exact Qm.fail
    ·exact Qm.fail
   ·exact Qm.fail
  ·exact Qm.fail
 ·exact Qm.fail
theorem mxj (b e:Nat) (x:TV):Qm (uqd b e x) fun r=>r.2=false→hzc r.1:=by
 unfold uqd
 split
 ·split
  ·exact Qm.pure fun _=>by simp [hzc]
  ·exact Qm.fail
 ·refine (Qm.getN _).bind fun n hn=> ?_
  split
  ·rename_i q ver e' es
   split
   ·refine Qt.bind (Qm.setN _ _ fun _ _ _ h=>by cases h) fun _=>Qm.pure fun hq=> ?_
    simp only at hq
    subst hq
    exact hn _ _ _ rfl
   ·exact Qm.fail
  ·exact Qm.fail
 ·refine (Qm.getN _).bind fun n hn=> ?_
  split
  ·rename_i q ver e' es
   split
   ·unfold xxd
    split
    ·rename_i r es1 hg hp
     split
     ·refine Qt.bind (Qm.setN _ _ fun _ _ _ h=> ?_) fun _=>Qm.pure fun hq=> ?_
      ·simp only [Option.some.injEq,Node.sl.injEq] at h
       obtain ⟨hq,_,_,rfl⟩:=h
       exact ujd (by simp only [nofz]) _ (hn ver e' es (by rw [hq])) hp
      ·simp only at hq
       subst hq
       exact mkd _ (hn _ _ _ rfl) hg
     ·exact Qm.fail
    ·exact Qm.fail
   ·exact Qm.fail
  ·exact Qm.fail
 ·exact Qm.fail
theorem vzg (es:List PV):hzc (es.map PV.cpy):=ox.2 fun c hc=>by
 obtain ⟨x,_,rfl⟩:=List.mem_map.1 hc
 exact dkg x
theorem nxj (e:Nat) (mv:Bool) (y:TV):Qm (ckc e mv y) fun r=>r.2=false→hzc r.1:=by
 unfold ckc
 split
 ·refine (Qm.getN _).bind fun n hn=> ?_
  split
  ·rename_i q ver e' es
   split
   ·split
    ·refine Qt.bind (Qm.setN _ _ fun _ _ _ h=>by cases h) fun _=>Qm.pure fun hq=> ?_
     simp only at hq
     subst hq
     exact hn _ _ _ rfl
    ·exact Qm.pure fun _=>vzg _
   ·exact Qm.fail
  ·exact Qm.fail
 ·refine Qt.bind (txe _) fun r=> ?_
  split
  ·exact Qm.pure fun _=>vzg _
  ·exact Qm.fail
theorem zxh (b e bytes:Nat) (mv:Bool) (x y:TV):Qt (zqc b e bytes mv x y):=by
 unfold zqc
 refine (mxj b e x).bind fun xs hxs=>(nxj e mv y).bind fun ys hys=> ?_
 split
 ·refine Qt.bind (Qm.setN _ _ fun ver' e' es' h=> ?_) fun _=>Qm.pure trivial
  simp only [Option.some.injEq,Node.sl.injEq] at h
  obtain ⟨hq,_,_,rfl⟩:=h
  simp only [Bool.or_eq_false_iff] at hq
  refine ox.2 fun c hc=> ?_
  rcases List.mem_append.1 hc with hc|hc
  ·exact ox.1 (hxs hq.1) c hc
  ·exact ox.1 (hys hq.2) c hc
 ·exact Qm.fail
mutual
theorem rxh: ∀(k:Nat) (x:TV),Qm (pack false k x) ck
 |0,x=>by unfold pack;exact Qm.fail
 |k+1,x=>by
  unfold pack
  split
  ·exact Qm.pure (by simp [ck])
  ·exact Qm.pure (by simp [ck,hzc])
  ·exact Qm.fail
  ·exact (sxe k _).bind fun ys h=>Qm.pure (by simp only [ck];exact h)
  ·exact (sxe k _).bind fun xs h=>(sxe k _).bind fun ys h'=>Qm.pure (by simp only [ck];exact ⟨h,h'⟩)
  ·exact (rxh k _).bind fun y h=>Qm.pure (by simp only [ck];exact h)
  ·refine (Qm.getN _).bind fun n hn=> ?_
   split
   ·rename_i q ver e es
    cases q with
    |true=>exact Qm.fail
    |false=>exact Qt.bind (Qm.setN _ _ fun _ _ _ h=>by cases h) fun _=>Qm.pure (by simp only [ck];exact fun _=>hn _ _ _ rfl)
   ·split
    ·exact Qm.fail
    ·exact Qt.bind (Qm.setN _ _ fun _ _ _ h=>by cases h) fun _=>(sxe k _).bind fun ys h=>Qm.pure (by simp only [ck];exact h)
   ·exact Qm.pure (by simp [ck])
  ·exact Qm.pure (by simp [ck])
  ·exact Qm.fail
theorem sxe: ∀(k:Nat) (xs:List TV),Qm (wjb false k xs) mj
 |0,xs=>by unfold wjb;exact Qm.fail
 |k+1,[]=>by unfold wjb;exact Qm.pure (by simp [mj])
 |k+1,x::xs=>by
  unfold wjb
  exact (rxh k x).bind fun y h=>(sxe k xs).bind fun ys h'=>Qm.pure (by simp only [mj];exact ⟨h,h'⟩)
end
mutual
theorem wqf (fz:Bool): ∀(k:Nat) (x:TV),Qt (pack fz k x)
 |0,x=>by unfold pack;exact Qm.fail
 |k+1,x=>by
  unfold pack
  split
  ·exact Qm.pure trivial
  ·exact Qm.pure trivial
  ·split
   ·exact Qm.pure trivial
   ·exact Qm.fail
  ·exact (fkd fz k _).bind fun ys=>Qm.pure trivial
  ·exact (fkd fz k _).bind fun xs=>(fkd fz k _).bind fun ys=>Qm.pure trivial
  ·exact (wqf fz k _).bind fun y=>Qm.pure trivial
  ·refine (Qm.getN _).bind fun n hn=> ?_
   split
   ·split
    ·exact Qm.fail
    ·exact Qt.bind (Qm.setN _ _ fun _ _ _ h=>by cases h) fun _=>Qm.pure trivial
   ·split
    ·exact Qm.fail
    ·exact Qt.bind (Qm.setN _ _ fun _ _ _ h=>by cases h) fun _=>(fkd fz k _).bind fun ys=>Qm.pure trivial
   ·exact Qm.pure trivial
  ·exact Qm.pure trivial
  ·exact Qm.fail
theorem fkd (fz:Bool): ∀(k:Nat) (xs:List TV),Qt (wjb fz k xs)
 |0,xs=>by unfold wjb;exact Qm.fail
 |k+1,[]=>by unfold wjb;exact Qm.pure trivial
 |k+1,x::xs=>by
  unfold wjb
  exact (wqf fz k x).bind fun y=>(fkd fz k xs).bind fun ys=>Qm.pure trivial
end
mutual
theorem xqf (z:Bool): ∀(k n:Nat) (x:TV),Qm (dq z k n x) ck
 |0,n,x=>by unfold dq;exact Qm.fail
 |k+1,n,x=>by
  unfold dq
  split
  ·exact Qm.pure (by simp [ck])
  ·exact Qm.pure (by simp [ck])
  ·exact Qm.pure (by simp [ck])
  ·exact (dzd z k _).bind fun ys h=>Qm.pure (by simp only [ck];exact h)
  ·exact (dzd z k _).bind fun xs h=>(dzd z k _).bind fun ys h'=>Qm.pure (by simp only [ck];exact ⟨h,h'⟩)
  ·exact (xqf z k _ _).bind fun y h=>Qm.pure (by simp only [ck];exact h)
  ·exact Qm.pure (by simp [ck])
  ·split
   ·exact Qm.fail
   ·refine (Qm.getN _).bind fun n hn=> ?_
    split
    ·exact Qm.pure (by simp [ck])
    ·exact (dzd z k _).bind fun ys h=>Qm.pure (by simp only [ck];exact h)
    ·exact Qm.fail
  ·split
   ·exact Qm.fail
   ·refine (Qm.getN _).bind fun n hn=> ?_
    split
    ·exact Qm.pure (by simp [ck])
    ·exact Qm.fail
  ·split
   ·exact Qm.fail
   ·refine (Qm.getN _).bind fun n hn=> ?_
    split
    ·split
     ·split
      ·exact Qm.pure (by simp [ck])
      ·exact Qm.fail
     ·exact Qm.fail
    ·exact Qm.fail
  ·split
   ·exact Qm.fail
   ·refine (Qm.getN _).bind fun n hn=> ?_
    split
    ·split
     ·exact (dzd z k _).bind fun ys h=>Qm.pure (by simp only [ck];exact h)
     ·exact Qm.fail
    ·exact Qm.fail
  ·exact Qm.fail
theorem dzd (z:Bool): ∀(k:Nat) (xs:List TV),Qm (gq z k xs) mj
 |0,xs=>by unfold gq;exact Qm.fail
 |k+1,[]=>by unfold gq;exact Qm.pure (by simp [mj])
 |k+1,x::xs=>by
  unfold gq
  exact (xqf z k 0 x).bind fun y h=>(dzd z k xs).bind fun ys h'=>Qm.pure (by simp only [mj];exact ⟨h,h'⟩)
end
theorem uxh (keeps:Bool): ∀(ms:List Md) (xs:List TV),Qm (lend keeps ms xs) fun ys=>keeps=false→mj ys
 | [],[]=>by unfold lend;exact Qm.pure fun _=>by simp [mj]
 | .ro _::ms,_::xs=>by
   unfold lend
   exact (uxh keeps ms xs).bind fun ys h=>Qm.pure fun hk=>by simp only [mj,ck,true_and];exact h hk
 | .mut _::ms,x::xs=>by
   unfold lend
   have hp:Qm (xjc keeps x) fun y=>keeps=false→ck y:=by
    unfold xjc
    split
    ·exact Qm.pure fun _=>by simp only [ck]
    cases keeps with
    |false=>exact (rxh depth x).weak fun y h _=>h
    |true=>exact (wqf true depth x).weak fun y _ h=>by cases h
   exact hp.bind fun y h1=>(uxh keeps ms xs).bind fun ys h=>Qm.pure fun hk=>by simp only [mj];exact ⟨h1 hk,h hk⟩
 | [],_::_=>by unfold lend;exact Qm.fail
 | .ro _::_,[]=>by unfold lend;exact Qm.fail
 | .mut _::_,[]=>by unfold lend;exact Qm.fail
theorem kxj (keeps:Bool) (v:Nat) (x:TV) (y:CV) (hy:keeps=false→ck y):Qm (gjc keeps v x y) fun y=>keeps=false→ck y:=by
 unfold gjc
 split
 ·refine (Qm.getN _).bind fun n hn=> ?_
  split
  ·rename_i q ver' e es
   split
   ·exact Qm.fail
   ·rename_i hcond
    split
    ·rename_i r es1 hg hp
     refine Qm.bind (Qm.setN _ _ fun ver e0 es0 hh=> ?_) fun _ _=>Qm.pure fun hk=> ?_
     ·simp only [Option.some.injEq,Node.sl.injEq] at hh
      obtain ⟨hq,_,_,rfl⟩:=hh
      subst hq
      exact ujd (by simp only [nofz]) _ (hn _ _ _ rfl) hp
     ·have hq:q=false:=by
       cases q with
       |false=>rfl
       |true=>exact absurd (.inl (by rw [hk];rfl)) hcond
      subst hq
      simp only [ck]
      exact fun _=>mkd _ (hn _ _ _ rfl) hg
    ·exact Qm.fail
  ·exact Qm.fail
 ·exact Qm.pure hy
theorem yjg (keeps:Bool) (v:Nat): ∀(ms:List Md) (xs:List TV) (ys:List CV),(keeps=false→mj ys)→Qm (bk keeps v ms xs ys) fun ys=>keeps=false→mj ys
 | [],[],[],h=>by unfold bk;exact Qm.pure fun _=>by simp [mj]
 | .ro _::ms,_::xs,y::ys,h=>by
   unfold bk
   exact (yjg keeps v ms xs ys fun hk=>by have:=h hk;simp only [mj] at this;exact this.2).bind fun ys' h'=>Qm.pure fun hk=>by
    have:=h hk;simp only [mj] at this ⊢;exact ⟨this.1,h' hk⟩
 | .mut _::ms,x::xs,y::ys,h=>by
   unfold bk
   exact (kxj keeps v x y fun hk=>by have:=h hk;simp only [mj] at this;exact this.1).bind fun y' hy'=>(yjg keeps v ms xs ys fun hk=>by have:=h hk;simp only [mj] at this;exact this.2).bind fun ys' h'=>Qm.pure fun hk=>by
    simp only [mj];exact ⟨hy' hk,h' hk⟩
 | [],[],_::_,_=>by unfold bk;exact Qm.fail
 | [],_::_,_,_=>by unfold bk;exact Qm.fail
 | .ro _::_,[],_,_=>by unfold bk;exact Qm.fail
 | .ro _::_,_::_,[],_=>by unfold bk;exact Qm.fail
 | .mut _::_,[],_,_=>by unfold bk;exact Qm.fail
 | .mut _::_,_::_,[],_=>by unfold bk;exact Qm.fail
theorem txh (keeps:Bool) (v:Nat) (ms:List Md) (xs:List TV):Qm (bje keeps v ms xs) fun ys=>keeps=false→mj ys:=
 (uxh keeps ms xs).bind fun ys h=>yjg keeps v ms xs ys h
theorem sxg (keeps:Bool): ∀(ms:List Md) (xs:List TV) (ys:List CV),(keeps=false→mj ys)→Qm (yx keeps ms xs ys) fun cs=>keeps=false→mj cs
 | [],[],[],_=>by unfold yx;exact Qm.pure fun _=>by simp [mj]
 | .ro n::ms,x::xs,y::ys,h=>by
   unfold yx
   exact (xqf keeps depth n x).bind fun y' h1=>(sxg keeps ms xs ys fun hk=>by have:=h hk;simp only [mj] at this;exact this.2).bind fun ys' h2=>Qm.pure fun hk=>by simp only [mj];exact ⟨h1,h2 hk⟩
 | .mut _::ms,_::xs,y::ys,h=>by
   unfold yx
   exact (sxg keeps ms xs ys fun hk=>by have:=h hk;simp only [mj] at this;exact this.2).bind fun ys' h2=>Qm.pure fun hk=>by
    have:=h hk
    simp only [mj] at this ⊢
    exact ⟨this.1,h2 hk⟩
 | [],[],_::_,_=>by unfold yx;exact Qm.fail
 | [],_::_,_,_=>by unfold yx;exact Qm.fail
 | .ro _::_,[],_,_=>by unfold yx;exact Qm.fail
 | .ro _::_,_::_,[],_=>by unfold yx;exact Qm.fail
 | .mut _::_,[],_,_=>by unfold yx;exact Qm.fail
 | .mut _::_,_::_,[],_=>by unfold yx;exact Qm.fail
mutual
theorem rxg (q:Bool): ∀(c:CV) (b:Nat),(q=false→ck c)→Qt (xz q b c)
 | .a _,b,_=>by unfold xz;exact Qm.pure trivial
 | .sl z e es,b,h=>by
   unfold xz
   split
   ·exact Qm.pure trivial
   ·rename_i hz
    refine Qt.bind (Qm.setN _ _ fun ver' e' es' hh=> ?_) fun _=>Qm.pure trivial
    simp only [Option.some.injEq,Node.sl.injEq] at hh
    obtain ⟨hq,_,_,rfl⟩:=hh
    have:=h hq
    simp only [ck] at this
    exact this (by simpa using hz)
 | .bx z cs,b,h=>by
   unfold xz
   exact (akb q cs _ fun hq=>by have:=h hq;simp only [ck] at this;exact this).bind fun r=>Qt.bind (Qm.setN _ _ fun _ _ _ h=>by cases h) fun _=>Qm.pure trivial
 | .st cs,b,h=>by
   unfold xz
   exact (akb q cs _ fun hq=>by have:=h hq;simp only [ck] at this;exact this).bind fun r=>Qm.pure trivial
 | .tp cs,b,h=>by
   unfold xz
   exact (akb q cs _ fun hq=>by have:=h hq;simp only [ck] at this;exact this).bind fun r=>Qm.pure trivial
 | .fn f fs cs,b,h=>by
   unfold xz
   exact (akb q fs _ fun hq=>by have:=h hq;simp only [ck] at this;exact this.1).bind fun r=>(akb q cs _ fun hq=>by have:=h hq;simp only [ck] at this;exact this.2).bind fun r=>Qm.pure trivial
 | .ic t c,b,h=>by
   unfold xz
   exact (rxg q c _ fun hq=>by have:=h hq;simp only [ck] at this;exact this).bind fun r=>Qm.pure trivial
 | .un,b,_=>by unfold xz;exact Qm.pure trivial
theorem akb (q:Bool): ∀(cs:List CV) (b:Nat),(q=false→mj cs)→Qt (yj q b cs)
 | [],b,_=>by unfold yj;exact Qm.pure trivial
 |c::cs,b,h=>by
  unfold yj
  exact (rxg q c _ fun hq=>by have:=h hq;simp only [mj] at this;exact this.1).bind fun r=>(akb q cs _ fun hq=>by have:=h hq;simp only [mj] at this;exact this.2).bind fun r=>Qm.pure trivial
end
mutual
theorem rxe (q:Bool) (V:Nat): ∀(x:TV) (c0 y:CV) (b:Nat),(q=false→ck y)→Qt (dz q V b x c0 y)
 | .rf id,c0,y,b,h=>by
   cases c0 with
   |sl z0 e0 es0=>
    cases y with
    |sl z e es=>
     cases z0<;>cases z<;>simp only [dz]
     ·refine (Qm.getN _).bind fun n _=> ?_
      split
      ·refine Qt.bind (Qm.setN _ _ fun ver' e' es' hh=> ?_) fun _=>Qm.pure trivial
       simp only [Option.some.injEq,Node.sl.injEq] at hh
       obtain ⟨hq,_,_,rfl⟩:=hh
       have:=h hq
       simp only [ck] at this
       exact this trivial
      ·exact Qm.fail
     all_goals exact Qm.pure trivial
    |_=>simp only [dz];exact Qm.pure trivial
   |bx z0 cs0=>
    cases y with
    |bx z cs=>
     cases z0<;>cases z<;>simp only [dz]
     ·refine (Qm.getN _).bind fun n _=> ?_
      split
      ·exact (akb q cs _ fun hq=>by have:=h hq;simp only [ck] at this;exact this).bind fun r=>Qt.bind (Qm.setN _ _ fun _ _ _ h=>by cases h) fun _=>Qm.pure trivial
      ·exact Qm.fail
     all_goals exact Qm.pure trivial
    |_=>simp only [dz];exact Qm.pure trivial
   |_=>simp only [dz];exact Qm.pure trivial
 | .fn f fs cs,c0,y,b,h=>by
   cases c0 with
   |fn f0 fs0 cs0=>
    cases y with
    |fn f1 fs1 cs1=>
     simp only [dz]
     exact (eqd q V fs fs0 fs1 b fun hq=>by have:=h hq;simp only [ck] at this;exact this.1).bind fun b1=>eqd q V cs cs0 cs1 b1 fun hq=>by have:=h hq;simp only [ck] at this;exact this.2
    |_=>simp only [dz];exact Qm.pure trivial
   |_=>simp only [dz];exact Qm.pure trivial
 | .st cs,c0,y,b,h=>by
   cases c0 with
   |st cs0=>
    cases y with
    |st cs1=>
     simp only [dz]
     exact eqd q V cs cs0 cs1 b fun hq=>by have:=h hq;simp only [ck] at this;exact this
    |_=>simp only [dz];exact Qm.pure trivial
   |_=>simp only [dz];exact Qm.pure trivial
 | .ic t x,c0,y,b,h=>by
   cases c0 with
   |ic t0 x0=>
    cases y with
    |ic t1 x1=>
     simp only [dz]
     exact rxe q V x x0 x1 b fun hq=>by have:=h hq;simp only [ck] at this;exact this
    |_=>simp only [dz];exact Qm.pure trivial
   |_=>simp only [dz];exact Qm.pure trivial
 | .a _,c0,y,b,h=>by simp only [dz];exact Qm.pure trivial
 | .nl _,c0,y,b,h=>by simp only [dz];exact Qm.pure trivial
 | .ri _ _ _,c0,y,b,h=>by simp only [dz];exact Qm.pure trivial
 | .sb _ _ _,c0,y,b,h=>by simp only [dz];exact Qm.pure trivial
 | .ad _ _,c0,y,b,h=>by simp only [dz];exact Qm.pure trivial
 | .ea _ _ _ _,c0,y,b,h=>by simp only [dz];exact Qm.pure trivial
 | .ei _ _ _ _ _ _,c0,y,b,h=>by simp only [dz];exact Qm.pure trivial
 | .sz _ _,c0,y,b,h=>by simp only [dz];exact Qm.pure trivial
 | .ez _ _,c0,y,b,h=>by simp only [dz];exact Qm.pure trivial
 | .tp _,c0,y,b,h=>by simp only [dz];exact Qm.pure trivial
 | .un,c0,y,b,h=>by simp only [dz];exact Qm.pure trivial
theorem eqd (q:Bool) (V:Nat): ∀(xs:List TV) (cs0 ys:List CV) (b:Nat),(q=false→mj ys)→Qt (qj q V b xs cs0 ys)
 | [],cs0,ys,b,h=>by simp only [qj];exact Qm.pure trivial
 |x::xs,[],ys,b,h=>by simp only [qj];exact Qm.pure trivial
 |x::xs,c0::cs0,[],b,h=>by simp only [qj];exact Qm.pure trivial
 |x::xs,c0::cs0,y::ys,b,h=>by
  simp only [qj]
  exact (rxe q V x c0 y b fun hq=>by have:=h hq;simp only [mj] at this;exact this.1).bind fun b1=>eqd q V xs cs0 ys b1 fun hq=>by have:=h hq;simp only [mj] at this;exact this.2
end
theorem lxj (q:Bool) (V:Nat) (x:TV) (c0 y:CV) (b:Nat) (h:q=false→ck y):Qt (dzc q V b x c0 y):=by
 unfold dzc
 split
 ·split
  ·refine (Qm.getN _).bind fun n hn=> ?_
   split
   ·split
    ·rename_i q0 ver e es _ _ es1 hat hput
     refine Qt.bind (Qm.setN _ _ fun ver' e0 es0 hh=> ?_) fun _=>Qm.pure trivial
     simp only [Option.some.injEq,Node.sl.injEq,Bool.or_eq_false_iff] at hh
     obtain ⟨⟨hq0,hq⟩,_,_,rfl⟩:=hh
     subst hq0
     have:=h hq
     simp only [ck] at this
     exact ujd (by simp only [nofz];exact this trivial) _ (hn _ _ _ rfl) hput
    ·exact Qm.fail
   ·exact Qm.fail
  ·exact Qm.fail
 ·exact rxe q V x c0 y b h
theorem ize (q:Bool) (V:Nat): ∀(ms:List Md) (xs:List TV) (cs fs:List CV) (b:Nat),(q=false→mj fs)→Qt (lz q V b ms xs cs fs)
 | [],[],[],[],b,h=>by simp only [lz];exact Qm.pure trivial
 | .ro _::ms,x::xs,c::cs,fs,b,h=>by simp only [lz];exact ize q V ms xs cs fs b h
 | .mut _::ms,x::xs,c::cs,f::fs,b,h=>by
   simp only [lz]
   exact (lxj q V x c f b fun hq=>by have:=h hq;simp only [mj] at this;exact this.1).bind fun b1=>ize q V ms xs cs fs b1 fun hq=>by have:=h hq;simp only [mj] at this;exact this.2
 | [],_::_,_,_,b,h=>by simp only [lz];exact Qm.fail
 | [],[],_::_,_,b,h=>by simp only [lz];exact Qm.fail
 | [],[],[],_::_,b,h=>by simp only [lz];exact Qm.fail
 | .ro _::_,[],_,_,b,h=>by simp only [lz];exact Qm.fail
 | .ro _::_,_::_,[],_,b,h=>by simp only [lz];exact Qm.fail
 | .mut _::_,[],_,_,b,h=>by simp only [lz];exact Qm.fail
 | .mut _::_,_::_,[],_,b,h=>by simp only [lz];exact Qm.fail
 | .mut _::_,_::_,_::_,[],b,h=>by simp only [lz];exact Qm.fail
theorem xkd: ∀{cs ds:List CV},mj (cs++ds)↔mj cs∧mj ds
 | [],ds=>by simp [mj]
 |c::cs,ds=>by simp [mj,xkd (cs:=cs),and_assoc]
def Nofz (g:Option Callee):Prop:= ∀c,g=some c→c.keeps=false→ ∀cs rs fs,mj cs→c.go cs=some (rs,fs)→mj (rs++fs)
theorem yxh {g:Option Callee} (hg:Nofz g) (b:Nat) (xs:List TV):Qt (tqd g b xs):=by
 cases g with
 |none=>exact Qm.fail
 |some c=>
  simp only [tqd]
  refine (txh c.keeps (b+100) c.modes xs).bind fun ps hps=>(sxg c.keeps c.modes xs ps hps).bind fun cs hcs=> ?_
  cases hgo:c.go cs with
  |none=>exact Qm.fail
  |some rf=>
   obtain ⟨rs,fs⟩:=rf
   have hall:c.keeps=false→mj rs∧mj fs:=fun hk=>xkd.1 (hg c rfl hk cs rs fs (hcs hk) hgo)
   refine (ize c.keeps (b+100) c.modes xs cs fs b fun hk=>(hall hk).2).bind fun b'=> ?_
   split
   ·split
    ·exact Qt.bind (Qt.of (Qm.liftO _)) fun ts=>Qm.pure trivial
    ·exact Qm.fail
   unfold jqb
   refine (akb c.keeps rs b' fun hk=>(hall hk).1).bind fun r=> ?_
   split
   ·exact Qm.pure trivial
   ·exact Qm.fail
theorem txg (d:Option Nat) (v:TV):Qt (putO d v):=by
 cases d with
 |none=>exact Qm.pure trivial
 |some d=>exact Qm.setS _ _
theorem xzj {Φ:Nat→Option Callee} (hΦ: ∀f,Nofz (Φ f)) (b:Nat) (op:VOp):Qt (exec Φ b op):=by
 cases op with
 |alloc d zs=>
  simp only [exec]
  split
  ·exact Qm.fail
  ·exact Qt.bind (Qm.setN _ _ fun _ _ _ h=>by cases h) fun _=>Qm.setS _ _
 |box d x=>
  simp only [exec]
  refine Qt.bind (ejc _) fun v=>Qt.bind (Qt.of (Qm.liftO _)) fun cs=> ?_
  split
  ·exact Qm.fail
  ·exact Qt.bind (Qm.setN _ _ fun _ _ _ h=>by cases h) fun _=>Qm.setS _ _
 |build d zs ps=>simp only [exec];exact (vxg _ _).bind fun cs=>Qm.setS _ _
 |bsl d e m zs n ps=>
  simp only [exec]
  refine (yzj _ _ _ _ _ fun _=>ox.2 fun c hc=>by rw [(List.mem_replicate.1 hc).2];exact fke _ _).bind fun es hes=> ?_
  refine Qt.bind (Qm.setN _ _ fun ver' e' es' hh=> ?_) fun _=>Qm.setS _ _
  simp only [Option.some.injEq,Node.sl.injEq] at hh
  obtain ⟨hq,_,_,rfl⟩:=hh
  exact hes hq
 |load d w x=>simp only [exec];exact Qt.bind (ejc _) fun v=>(uxg _ _).bind fun _=>Qm.setS _ _
 |store w x y=>simp only [exec];exact Qt.bind (ejc _) fun u=>Qt.bind (ejc _) fun v=>oxh _ _ _ _
 |slc0 d e x=>
  simp only [exec]
  refine Qt.bind (ejc _) fun u=>Qt.bind (txe _) fun r=> ?_
  split
  ·exact Qt.bind (Qm.setN _ _ fun ver' e' es' hh=>by simp only [Option.some.injEq,Node.sl.injEq] at hh;obtain ⟨_,_,_,rfl⟩:=hh;exact ox.2 (by simp)) fun _=>Qm.setS _ _
  ·exact Qm.fail
 |mks d e bytes zs x=>
  simp only [exec]
  refine Qt.bind (ejc _) fun u=> ?_
  split
  ·split
   ·refine Qt.bind (Qm.setN _ _ fun ver' e' es' hh=> ?_) fun _=>Qm.setS _ _
    simp only [Option.some.injEq,Node.sl.injEq] at hh
    obtain ⟨_,_,_,rfl⟩:=hh
    exact ox.2 fun c hc=>by rw [(List.mem_replicate.1 hc).2];exact fke _ _
   ·exact Qm.fail
  ·exact Qm.fail
 |slc d e x lo hi=>
  simp only [exec]
  exact Qt.bind (ejc _) fun v=>Qt.bind (vxc _) fun l=>Qt.bind (vxc _) fun h=>(pxh _ _ _ _).bind fun _=>Qm.setS _ _
 |sslc d x lo hi=>
  simp only [exec]
  exact Qt.bind (ejc _) fun v=>Qt.bind (vxc _) fun l=>Qt.bind (vxc _) fun h=>(jxj _ _ _).bind fun _=>Qm.setS _ _
 |fad d x off=>simp only [exec];exact Qt.bind (ejc _) fun v=>(xxh _ _).bind fun _=>Qm.setS _ _
 |iad d e m x i=>
  simp only [exec]
  refine Qt.bind (ejc _) fun v=>Qt.bind (ejc _) fun u=> ?_
  split
  ·exact (vxh _ _ _ _).bind fun _=>Qm.setS _ _
  ·exact Qm.fail
 |len d x=>simp only [exec];exact Qt.bind (ejc _) fun v=>(txe _).bind fun _=>Qm.setS _ _
 |app d e bytes mv x y=>simp only [exec];exact Qt.bind (ejc _) fun u=>Qt.bind (ejc _) fun v=>(zxh _ _ _ _ _ _).bind fun _=>Qm.setS _ _
 |call d f xs=>simp only [exec];exact Qt.bind (zqd _) fun vs=>(yxh (hΦ f) _ _).bind fun _=>txg _ _
 |calv d f xs=>
  simp only [exec]
  refine Qt.bind (ejc _) fun g=> ?_
  split
  ·exact Qt.bind (zqd _) fun vs=>(yxh (hΦ _) _ _).bind fun _=>txg _ _
  ·exact Qm.fail
 |b2s d e x=>
  simp only [exec]
  refine Qt.bind (ejc _) fun v=>Qt.bind (txe _) fun r=> ?_
  split
  ·exact Qt.bind (Qt.of (Qm.liftO _)) fun _=>Qm.setS _ _
  ·exact Qm.fail
 |pick d c x y=>
  simp only [exec]
  refine Qt.bind (ejc _) fun u=> ?_
  split
  ·split
   ·exact Qt.bind (ejc _) fun _=>Qm.setS _ _
   ·exact Qt.bind (ejc _) fun _=>Qm.setS _ _
  ·exact Qm.fail
 |_=>simp only [exec];(repeat' (first|exact Qm.pure trivial|exact Qm.fail|exact Qm.setS _ _|exact Qm.getS _|exact Qt.of (Qm.getN _)|exact Qt.of (Qm.liftO _)|(refine Qt.bind (Qt.of (Qm.getN _)) fun _=> ?_)|(refine Qt.bind (Qt.of (Qm.liftO _)) fun _=> ?_)|(refine Qt.bind (Qm.getS _) fun _=> ?_)|(refine Qt.bind (ejc _) fun _=> ?_)|(refine Qt.bind (zqd _) fun _=> ?_)|(refine Qt.bind (vxc _) fun _=> ?_)|split))
theorem yqf {Φ:Nat→Option Callee} (hΦ: ∀f,Nofz (Φ f)) (b:Nat) (o:VOper):Qt (qjc Φ b o):=by
 unfold qjc
 split
 ·exact xzj hΦ b _
 ·refine Qt.bind (Qm.getS _) fun u=> ?_
  split
  ·split
   ·exact xzj hΦ b _
   ·exact txg _ _
  ·exact txg _ _
  ·exact Qm.fail
theorem zjg {Φ:Nat→Option Callee} (hΦ: ∀f,Nofz (Φ f)): ∀(os:List VOper) (b:Nat) (st st':St),tkd Φ b os st=some st'→Qok st→Qok st'
 | [],b,st,st',h,hq=>by cases h;exact hq
 |o::os,b,st,st',h,hq=>by
  simp only [tkd] at h
  split at h
  ·rename_i u s1 h1
   exact zjg hΦ os _ _ _ h (yqf hΦ b o st _ s1 h1 hq).1
  ·cases h
end Go.Proofs.YtjdcidigbbbckaaDoor.VM
namespace Go.Proofs.YtjdcidigbbbckaaDoor.VM
open Go
variable {cx:Cx} {U:Nat→Prop} {X:iz} {ρ:Nat→Value} {F:Nat→iz} {st:St} {sh:lq} {V:Nat} {a:Act} {w:World}
theorem wxh {b:Nat} {Φ:Nat→Option Callee} (hq:Qok st): ∀f c (xs:List TV),Φ f=some c→c.keeps=false→ ∀ps cs s1 s2,(bje c.keeps (b+100) c.modes xs).run st=some (ps,s1)→(yx c.keeps c.modes xs ps).run s1=some (cs,s2)→mj cs:=by
 intro f c xs _ hk ps cs s1 s2 h1 h2
 obtain ⟨q1,r1⟩:=txh c.keeps (b+100) c.modes xs st ps s1 h1 hq
 exact (sxg c.keeps c.modes xs ps r1 s1 cs s2 h2 q1).2 hk
theorem ozh {x y:Operand} (h:qjg x y=true):x=y:=by
 unfold qjg at h
 split at h
 ·rw [beq_iff_eq] at h;subst h;rfl
 ·rw [beq_iff_eq] at h;subst h;rfl
 ·cases h
theorem eqm {x:Operand} {n:Nat} (h:qjl x=some n):x= .tmp n:=by
 cases x<;>simp [qjl] at h
 rw [h]
theorem txj {Φ:Nat→Option Callee} (hS: ∀f c,Φ f=some c→Sound cx.P f c) (h:G cx U (fun _ _=>False) ρ F st a w) (hq:Qok st) {b:Nat} (hb: ∀i,b≤i→i<b+100→ ¬U i) {ops:Array Oper} {o:Oper} {v:VOp} (hc:cOp1 cx.P ops o=some v)
 (hd: ∀d,o.dst=some d→d<cx.n) {s1:St} (hr:(exec Φ b v).run st=some ((),s1)):Now cx U b o s1 a w:=by
 unfold cOp1 at hc
 split at hc
 ·rename_i hop hdst
  obtain ⟨y,hy,rfl⟩:=Option.map_eq_some_iff.1 hc
  exact mkh h hdst (hd _ hdst) (.inl hop) hy hr
 ·rename_i hop hdst
  obtain ⟨y,hy,rfl⟩:=Option.map_eq_some_iff.1 hc
  exact mkh h hdst (hd _ hdst) (.inr hop) hy hr
 ·rename_i hop hdst
  split at hc
  ·rename_i h1 h2 h3
   cases hc
   exact lkh h hdst (hd _ hdst) hop h1 h2 h3 hr
  ·cases hc
 ·rename_i hop hdst
  obtain ⟨y,hy,rfl⟩:=Option.map_eq_some_iff.1 hc
  exact akg h hb hdst (hd _ hdst) hop hy hr
 ·rename_i hop hdst
  split at hc
  ·obtain ⟨y,hy,rfl⟩:=Option.map_eq_some_iff.1 hc
   exact ljj h hb hdst (hd _ hdst) hop hy hr
  ·cases hc
 ·rename_i hop hdst
  split at hc
  ·rename_i h1 h2 h3
   split at hc
   ·rename_i h4
    cases hc
    exact zxg h hdst (hd _ hdst) hop h1 h2 h3 h4 hr
   ·cases hc
  ·cases hc
 ·rename_i hop hdst
  split at hc
  ·rename_i h0
   split at hc
   ·rename_i h1 h2 h3
    split at hc
    ·rename_i h4
     cases hc
     exact kjj h hb hdst (hd _ hdst) hop h0 h1 h2 h3 h4 hr
    ·cases hc
   ·cases hc
  ·cases hc
 ·rename_i hop hdst
  split at hc
  ·rename_i h1 h2
   cases hc
   exact okh h hdst (hd _ hdst) hop h1 h2 hr
  ·cases hc
 ·rename_i hop hdst
  split at hc
  ·rename_i h1 h2 h3 h4
   cases hc
   exact xxg h hb hdst hop h2 h3 h4 hr
  ·cases hc
 ·rename_i hop hdst
  obtain ⟨y,hy,rfl⟩:=Option.map_eq_some_iff.1 hc
  exact yxg h hdst (hd _ hdst) hop hy hr
 ·rename_i hop hdst
  split at hc
  ·split at hc
   ·rename_i h1 h2
    cases hc
    exact mjj h hdst (hd _ hdst) hop h1 h2 hr
   ·cases hc
  ·split at hc
   ·rename_i hbt
    split at hc
    ·rename_i h1 h2 h3
     cases hc
     exact njj h hdst (hd _ hdst) hop h1 h2 hbt h3 hr
    ·cases hc
   ·cases hc
 ·rename_i hop hdst
  obtain ⟨y,hy,rfl⟩:=Option.map_eq_some_iff.1 hc
  exact zkk h (t':=0) hdst (hd _ hdst) hop hy hr
 ·rename_i hop hdst
  split at hc
  ·rename_i h1 h2 h3
   cases hc
   exact jjj h hdst (hd _ hdst) hop h1 h2 h3 hr
  ·rename_i h1 h2 h3
   cases hc
   exact ijj h hdst (hd _ hdst) hop h1 h2 h3 hr
  ·split at hc
   ·cases hc
    exact (cz hr).elim
   ·cases hc
  ·rename_i h1 h2 h3
   split at hc
   ·rename_i h4
    cases hc
    exact ojj h hdst (hd _ hdst) hop h1 h4 h2 h3 hr
   ·cases hc
  ·cases hc
 ·rename_i hop hdst
  split at hc
  ·rename_i h1 h2
   cases hc
   exact cjj h hdst (hd _ hdst) hop h1 h2 hr
  ·cases hc
 ·rename_i hop hdst
  split at hc
  ·rename_i hcon
   obtain ⟨y,hy,rfl⟩:=Option.map_eq_some_iff.1 hc
   exact bjj h hdst (hd _ hdst) hop (fun v=>run_makeInterface w _ v hcon) hy hr
  ·cases hc
 ·rename_i hop hdst
  split at hc
  ·rename_i h0
   split at hc
   ·rename_i h2 h3 h4
    split at hc
    ·rename_i hcond
     cases hc
     rw [←ozh hcond] at hop
     exact ajj h hb hdst (hd _ hdst) hop h0 h2 h3 h4 hr
    ·cases hc
   ·cases hc
  ·cases hc
 ·rename_i hop hdst
  split at hc
  ·rename_i h1 h2 h3 h4
   cases hc
   exact ikh h hdst (hd _ hdst) hop h1 h2 h3 h4 hr
  ·rename_i h1 h2 h3 h4
   split at hc
   ·rename_i hs
    cases hc
    obtain ⟨m,hm⟩:=Option.isSome_iff_exists.1 hs
    exact zzj h hdst (hd _ hdst) hop h1 hm h2 h3 h4 hr
   ·cases hc
  ·cases hc
 ·rename_i hop hdst
  split at hc
  ·rename_i h1 h2
   split at hc
   ·rename_i hcond
    cases hc
    obtain ⟨m,hm⟩:=Option.isSome_iff_exists.1 hcond.2.2
    exact kkh h hb hdst (hd _ hdst) hop h1 hm h2 hcond.1 hcond.2.1 hr
   ·cases hc
  ·cases hc
 ·rename_i hop hdst
  split at hc
  ·rename_i h1 h2
   split at hc
   ·rename_i h3
    cases hc
    exact gjj h hdst (hd _ hdst) hop h1 h3 h2 hr
   ·cases hc
  ·cases hc
 ·rename_i hop hdst
  split at hc
  ·rename_i h1
   split at hc
   ·rename_i h2 h3
    cases hc
    exact fjj h hdst (hd _ hdst) hop h1 h2 h3 hr
   ·cases hc
  ·cases hc
 ·rename_i hop hdst
  split at hc
  ·rename_i h0
   split at hc
   ·rename_i h1 h2 h3
    split at hc
    ·cases hc
     exact ejj h hdst (hd _ hdst) hop h0 h1 h2 h3 hr
    ·cases hc
   ·cases hc
  ·cases hc
 ·rename_i hop hdst
  split at hc
  ·rename_i h0
   split at hc
   ·rename_i h1 h2
    cases hc
    exact azl h hdst (hd _ hdst) hop h0 h1 h2 hr
   ·cases hc
  ·cases hc
 ·rename_i hop hdst
  obtain ⟨y,hy,rfl⟩:=Option.map_eq_some_iff.1 hc
  exact hjj h hdst (hd _ hdst) hop hy hr
 ·rename_i hop hdst
  split at hc
  ·rename_i ha ht
   have ha':=Array.toList_inj.1 (ha.trans (List.toList_toArray).symm)
   have ht':=Array.toList_inj.1 (ht.trans (List.toList_toArray).symm)
   split at hc
   ·rename_i h0
    obtain ⟨y,hy,rfl⟩:=Option.map_eq_some_iff.1 hc
    exact jkh h hdst (hd _ hdst) hop rfl ha' ht' h0 hy hr
   ·rename_i h0
    obtain ⟨y,hy,rfl⟩:=Option.map_eq_some_iff.1 hc
    exact djj h hdst (hd _ hdst) hop rfl ha' ht' h0 hy hr
   ·cases hc
  ·cases hc
 ·rename_i hop hdst
  split at hc
  ·rename_i ha ht
   have ha':=Array.toList_inj.1 (ha.trans (List.toList_toArray).symm)
   have ht':=Array.toList_inj.1 (ht.trans (List.toList_toArray).symm)
   split at hc
   ·rename_i h0 _
    split at hc
    ·rename_i hcond
     obtain ⟨rfl,rfl⟩:=hcond
     split at hc
     ·rename_i h1 h2 h3 h4 h5
      split at hc
      ·rename_i hpos
       cases hc
       exact pjj h hb hdst (hd _ hdst) hop rfl ha' ht' h0 h1 h2 h3 hpos.1 h4 h5 hr
      ·cases hc
     ·cases hc
    ·cases hc
   ·cases hc
  ·cases hc
 ·rename_i hop hdst
  split at hc
  ·rename_i hcond
   simp only [Bool.and_eq_true,decide_eq_true_eq] at hcond
   obtain ⟨y,hy,rfl⟩:=Option.map_eq_some_iff.1 hc
   exact nkh h hdst (hd _ hdst) (isMax:=true) hop rfl hcond.1 hy hr
  ·cases hc
 ·rename_i hop hdst
  split at hc
  ·rename_i hcond
   simp only [Bool.and_eq_true,decide_eq_true_eq] at hcond
   obtain ⟨y,hy,rfl⟩:=Option.map_eq_some_iff.1 hc
   exact nkh h hdst (hd _ hdst) (isMax:=false) hop rfl hcond.1 hy hr
  ·cases hc
 ·rename_i hop
  split at hc
  ·cases hc
  ·rename_i hsz
   obtain ⟨y,hy,rfl⟩:=Option.map_eq_some_iff.1 hc
   exact qkh h hb rfl hd hop rfl (Decidable.of_not_not hsz) hy (hS _) (fun c xs=>wxh hq _ c xs) hr
 ·rename_i hop
  split at hc
  ·cases hc
  ·rename_i hsz
   obtain ⟨y,hy,rfl⟩:=Option.map_eq_some_iff.1 hc
   have hn:=Nat.lt_of_not_le fun h=>hsz (.inr h)
   have hsz':=Decidable.of_not_not fun h=>hsz (.inl h)
   exact pkh h hb rfl hd hop hn rfl hsz' hy hS (fun f c xs=>wxh hq f c xs) hr
 ·cases hc
theorem qjj {Φ:Nat→Option Callee} (hS: ∀f c,Φ f=some c→Sound cx.P f c) (h:G cx U (fun _ _=>False) ρ F st a w) (hq:Qok st) {b:Nat} (hb: ∀i,b≤i→i<b+100→ ¬U i) {ops:Array Oper} {o:Oper} {v:VOp} (hc:cOp cx.P ops o=some v)
 (hd: ∀d,o.dst=some d→d<cx.n) {s1:St} (hr:(exec Φ b v).run st=some ((),s1)):Now cx U b o s1 a w:=by
 unfold cOp at hc
 cases h1:cOp1 cx.P ops o with
 |none=>
  rw [h1] at hc
  cases hc
  exact (cz hr).elim
 |some x=>
  rw [h1] at hc
  cases hc
  exact txj hS h hq hb h1 hd hr
end Go.Proofs.YtjdcidigbbbckaaDoor.VM
