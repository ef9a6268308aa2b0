/- The interpreter 'VM': a slice that is not marked has no frozen parts: each operation keeps that. The interpreter 'VM': each operation, by the compiler's cases. -/
import Derived.Test.YteomgghmhicpcaaDoorVmQs
namespace Go.Proofs.YteomgghmhicpcaaDoor.VM
open Go
theorem va3:∀{l:List PV},nofzL l↔∀x∈l,nofz x
 | []=>by simp [nofzL]
 |c::cs=>by simp [nofzL,va3 (l:=cs)]
theorem veb {x:PV} (h:nofz x):∀c∈x.cells,nofz c:=by
 cases x with
 |st cs=>exact fun c hc=>va3.1 (show nofzL cs by simpa [nofz] using h) c hc
 |_=>intro c hc;simp [PV.cells] at hc;subst hc;exact h
theorem vfk {l:List PV} (h:∀c∈l,nofz c):nofz (.st l):=by simp only [nofz];exact va3.2 h
theorem vc3 {x:PV} {o:Nat} {ys:List PV} (h:nofz x) (hy:∀c∈ys,nofz c):nofz (setCells x o ys):=by
 unfold setCells
 split
 ·rename_i cs
  apply vfk
  intro c hc
  simp only [List.mem_append] at hc
  have hcs:=veb h
  rcases hc with (hc|hc)|hc
  ·exact hcs c (List.mem_of_mem_take hc)
  ·exact hy c hc
  ·exact hcs c (List.mem_of_mem_drop hc)
 ·split
  ·exact hy _ (by simp)
  ·exact h
theorem vn3 (x:PV):nofz x.cpy:=by
 cases x with
 |st cs=>
  apply vfk
  intro c hc
  obtain ⟨y,_,rfl⟩:=List.mem_map.1 hc
  split<;>simp [nofz]
 |_=>simp [PV.cpy,nofz]
theorem vqk (z:ZC):nofz z.pv:=by cases z<;>simp [ZC.pv,nofz,nofzL]
theorem viu (m:Nat) (zs:List ZC):nofz (zeroEl m zs):=by
 unfold zeroEl
 split
 ·cases zs with
  |nil=>simp [nofz]
  |cons z zs=>exact vqk z
 ·apply vfk
  intro c hc
  obtain ⟨z,_,rfl⟩:=List.mem_map.1 hc
  exact vqk z
def Qm {α:Type} (m:M α) (R:α→Prop):Prop:=∀st r st',m.run st=some (r,st')→Qok st→Qok st'∧R r
theorem Qm.bind {α β:Type} {m:M α} {k:α→M β} {R:α→Prop} {S:β→Prop} (h:Qm m R) (hk:∀x,R x→Qm (k x) S):Qm (m.bind k) S:=by
 intro st r st' hr hq
 obtain ⟨x,s1,h1,h2⟩:=vaa hr
 obtain ⟨q1,r1⟩:=h st x s1 h1 hq
 exact hk x r1 s1 r st' h2 q1
theorem Qm.pure {α:Type} {x:α} {R:α→Prop} (h:R x):Qm (M.pure x) R:=by
 intro st r st' hr hq
 cases run_pure hr
 exact ⟨hq,h⟩
theorem Qm.fail {α:Type} {R:α→Prop}:Qm (M.fail:M α) R:=fun _ _ _ hr=>(vac hr).elim
theorem Qm.getS (t:Nat):Qm (getS t) fun _=>True:=by
 intro st r st' hr hq
 cases vcn hr
 exact ⟨hq,trivial⟩
theorem Qm.setS (t:Nat) (v:TV):Qm (setS t v) fun _=>True:=by
 intro st r st' hr hq
 cases vai hr
 exact ⟨fun id ver e es hn=>hq id ver e es hn,trivial⟩
theorem Qm.getN (id:Nat):Qm (getN id) fun n=>∀ver e es,n=some (.sl false ver e es)→nofzL es:=by
 intro st r st' hr hq
 cases var hr
 exact ⟨hq,fun ver e es hn=>hq id ver e es hn⟩
theorem Qm.setN (id:Nat) (n:Option Node) (h:∀ver e es,n=some (.sl false ver e es)→nofzL es):Qm (setN id n) fun _=>True:=by
 intro st r st' hr hq
 cases va2 hr
 refine ⟨fun j ver e es hn=> ?_,trivial⟩
 rw [vbu] at hn
 split at hn
 ·exact h ver e es hn
 ·exact hq j ver e es hn
theorem Qm.liftO {α:Type} (x:Option α):Qm (liftO x) fun r=>x=some r:=by
 intro st r st' hr hq
 obtain ⟨h1,h2⟩:=va9 hr
 simp only at h1 h2
 subst h2
 exact ⟨hq,h1⟩
theorem Qm.weak {α:Type} {m:M α} {R S:α→Prop} (h:Qm m R) (hs:∀x,R x→S x):Qm m S:=fun st r st' hr hq=>let ⟨h1,h2⟩:=h st r st' hr hq;⟨h1,hs r h2⟩
abbrev Qt {α:Type} (m:M α):Prop:=Qm m fun _=>True
theorem Qt.of {α:Type} {m:M α} {R:α→Prop} (h:Qm m R):Qt m:=h.weak fun _ _=>trivial
theorem Qt.bind {α β:Type} {m:M α} {k:α→M β} {S:β→Prop} (h:Qt m) (hk:∀x,Qm (k x) S):Qm (m.bind k) S:=Qm.bind h fun x _=>hk x
theorem vbd (x:Opd):Qt (opd x):=by
 cases x<;>first|exact Qm.getS _|exact Qm.pure trivial
theorem vcz:∀(xs:List Opd),Qt (opds xs)
 | []=>Qm.pure trivial
 |x::xs=>(vbd x).bind fun _=>(vcz xs).bind fun _=>Qm.pure trivial
theorem vcd (x:Option Opd):Qt (bound x):=by
 cases x with
 |none=>exact Qm.pure trivial
 |some y=>
  refine (vbd y).bind fun u=> ?_
  split
  ·exact Qm.pure trivial
  ·exact Qm.fail
theorem vo6 (w:Option Nat) (v:TV):Qt (loadAt w v):=by unfold loadAt;(repeat' (first|exact Qm.pure trivial|exact Qm.fail|exact Qm.setS _ _|exact Qm.getS _|exact Qt.of (Qm.getN _)|exact Qt.of (Qm.liftO _)|(refine Qt.bind (Qt.of (Qm.getN _)) fun _=> ?_)|(refine Qt.bind (Qt.of (Qm.liftO _)) fun _=> ?_)|(refine Qt.bind (Qm.getS _) fun _=> ?_)|(refine Qt.bind (vbd _) fun _=> ?_)|(refine Qt.bind (vcz _) fun _=> ?_)|(refine Qt.bind (vcd _) fun _=> ?_)|split))
theorem vfr (v:TV):Qt (elems v):=by unfold elems;(repeat' (first|exact Qm.pure trivial|exact Qm.fail|exact Qm.setS _ _|exact Qm.getS _|exact Qt.of (Qm.getN _)|exact Qt.of (Qm.liftO _)|(refine Qt.bind (Qt.of (Qm.getN _)) fun _=> ?_)|(refine Qt.bind (Qt.of (Qm.liftO _)) fun _=> ?_)|(refine Qt.bind (Qm.getS _) fun _=> ?_)|(refine Qt.bind (vbd _) fun _=> ?_)|(refine Qt.bind (vcz _) fun _=> ?_)|(refine Qt.bind (vcd _) fun _=> ?_)|split))
theorem vuv (e:Nat) (v:TV) (l h:Option Int):Qt (sliceAt e v l h):=by unfold sliceAt;(repeat' (first|exact Qm.pure trivial|exact Qm.fail|exact Qm.setS _ _|exact Qm.getS _|exact Qt.of (Qm.getN _)|exact Qt.of (Qm.liftO _)|(refine Qt.bind (Qt.of (Qm.getN _)) fun _=> ?_)|(refine Qt.bind (Qt.of (Qm.liftO _)) fun _=> ?_)|(refine Qt.bind (Qm.getS _) fun _=> ?_)|(refine Qt.bind (vbd _) fun _=> ?_)|(refine Qt.bind (vcz _) fun _=> ?_)|(refine Qt.bind (vcd _) fun _=> ?_)|split))
theorem vyz (v:TV) (l h:Option Int):Qt (strAt v l h):=by unfold strAt;(repeat' (first|exact Qm.pure trivial|exact Qm.fail|exact Qm.setS _ _|exact Qm.getS _|exact Qt.of (Qm.getN _)|exact Qt.of (Qm.liftO _)|(refine Qt.bind (Qt.of (Qm.getN _)) fun _=> ?_)|(refine Qt.bind (Qt.of (Qm.liftO _)) fun _=> ?_)|(refine Qt.bind (Qm.getS _) fun _=> ?_)|(refine Qt.bind (vbd _) fun _=> ?_)|(refine Qt.bind (vcz _) fun _=> ?_)|(refine Qt.bind (vcd _) fun _=> ?_)|split))
theorem vuq (o:Nat) (v:TV):Qt (fieldAt o v):=by unfold fieldAt;(repeat' (first|exact Qm.pure trivial|exact Qm.fail|exact Qm.setS _ _|exact Qm.getS _|exact Qt.of (Qm.getN _)|exact Qt.of (Qm.liftO _)|(refine Qt.bind (Qt.of (Qm.getN _)) fun _=> ?_)|(refine Qt.bind (Qt.of (Qm.liftO _)) fun _=> ?_)|(refine Qt.bind (Qm.getS _) fun _=> ?_)|(refine Qt.bind (vbd _) fun _=> ?_)|(refine Qt.bind (vcz _) fun _=> ?_)|(refine Qt.bind (vcd _) fun _=> ?_)|split))
theorem vva (e m:Nat) (v:TV) (i:Int):Qt (indexAt e m v i):=by
 unfold indexAt
 refine Qt.bind (vfr _) fun _=> ?_
 (repeat' (first|exact Qm.pure trivial|exact Qm.fail|exact Qm.setS _ _|exact Qm.getS _|exact Qt.of (Qm.getN _)|exact Qt.of (Qm.liftO _)|(refine Qt.bind (Qt.of (Qm.getN _)) fun _=> ?_)|(refine Qt.bind (Qt.of (Qm.liftO _)) fun _=> ?_)|(refine Qt.bind (Qm.getS _) fun _=> ?_)|(refine Qt.bind (vbd _) fun _=> ?_)|(refine Qt.bind (vcz _) fun _=> ?_)|(refine Qt.bind (vcd _) fun _=> ?_)|split))
theorem vu4 (x:TV):Qm (toPV x) fun r=>r.2=false→nofz r.1:=by
 unfold toPV
 split
 ·split
  ·exact Qm.pure fun _=>by simp [nofz]
  ·exact Qm.fail
 ·exact Qm.pure fun _=>by simp [nofz,nofzL]
 ·exact Qm.pure fun h=>by cases h
 ·refine (Qm.getN _).bind fun n hn=> ?_
  split
  ·rename_i q ver e es
   refine Qt.bind (Qm.setN _ _ fun _ _ _ h=>by cases h) fun _=>Qm.pure fun hq=> ?_
   simp only at hq
   subst hq
   simp only [nofz]
   exact hn _ _ _ rfl
  ·exact Qm.fail
 ·exact Qm.fail
theorem vlp:∀(xs:List TV),Qm (toPVs xs) fun r=>r.2=false→∀c∈r.1,nofz c
 | []=>Qm.pure fun _=>by simp
 |x::xs=>by
  unfold toPVs
  refine (vu4 x).bind fun y hy=>(vlp xs).bind fun ys hys=>Qm.pure fun hq=> ?_
  simp only [Bool.or_eq_false_iff] at hq
  intro c hc
  cases hc with
  |head=>exact hy hq.1
  |tail _ hc=>exact hys hq.2 c hc
theorem viw {x:TV} {y:PV} (h:atomPV x=some y):nofz y:=by
 unfold atomPV at h
 split at h
 ·split at h
  ·cases h;simp [nofz]
  ·cases h
 ·cases h
theorem ve2:∀{xs:List TV} {ys:List PV},atomPVs xs=some ys→∀y∈ys,nofz y
 | [],ys,h=>by cases h;simp
 |x::xs,ys,h=>by
  simp only [atomPVs] at h
  split at h
  ·rename_i y ys' h1 h2
   cases h
   intro c hc
   cases hc with
   |head=>exact viw h1
   |tail _ hc=>exact ve2 h2 c hc
  ·cases h
theorem qa6 (flat:Bool) (x:TV):Qm (toEl flat x) fun r=>r.2=false→nofz r.1:=by
 unfold toEl
 split
 ·split
  ·refine (Qm.liftO _).bind fun ys hys=>Qm.pure fun _=>vfk (ve2 hys)
  ·exact (vlp _).bind fun ys hys=>Qm.pure fun hq=>vfk (hys hq)
 ·split
  ·exact (Qm.liftO _).bind fun y hy=>Qm.pure fun _=>viw hy
  ·exact vu4 _
theorem vub (flat:Bool) (m:Nat):∀(ps:List (Nat×Opd)) (q:Bool) (es:List PV),(q=false→nofzL es)→Qm (bslM flat m ps q es) fun r=>r.2=false→nofzL r.1
 | [],q,es,h=>Qm.pure h
 |(i,x)::ps,q,es,h=>by
  unfold bslM
  refine (vbd x).bind fun v=>(qa6 flat v).bind fun y hy=> ?_
  split
  ·refine vub flat m ps _ _ fun hq=> ?_
   simp only [Bool.or_eq_false_iff] at hq
   refine va3.2 fun c hc=> ?_
   rcases List.mem_or_eq_of_mem_set hc with hc|rfl
   ·exact va3.1 (h hq.1) c hc
   ·exact hy hq.2
  ·exact Qm.fail
theorem vpp:∀(ps:List (Nat×Nat×Opd)) (cs:List TV),Qt (buildM ps cs)
 | [],cs=>Qm.pure trivial
 |(o,w,x)::ps,cs=>by
  unfold buildM
  refine (vbd x).bind fun v=> ?_
  split
  ·exact vpp ps _
  ·exact Qm.fail
theorem vg7 {es:List PV} {i:Nat} {x:PV} (h:nofzL es) (hx:nofz x):nofzL (es.set i x):=
 va3.2 fun y hy=>(List.mem_or_eq_of_mem_set hy).elim (va3.1 h y) fun e=>e▸hx
theorem ve6:∀(p:List (Nat×Nat×Nat)) {es:List PV} {r:Nat×List PV},nofzL es→dget es p=some r→nofzL r.2
 | [],es,r,h,hr=>by simp [dget] at hr
 |(i,m,o)::p,es,r,h,hr=>by
  simp only [dget] at hr
  split at hr
  ·cases hr
  ·rename_i x hx
   split at hr
   ·split at hr
    ·rename_i e es' hc
     have h1:nofzL es':=by
      have:=veb (va3.1 h x (List.mem_of_getElem? hx)) _ (List.mem_of_getElem? hc)
      simpa only [nofz] using this
     split at hr
     ·cases hr;exact h1
     ·exact ve6 _ h1 hr
    ·cases hr
   ·cases hr
theorem vd2 {c:PV} (hc:nofz c):∀(p:List (Nat×Nat×Nat)) {es es1:List PV},nofzL es→dput es p c=some es1→nofzL es1
 | [],es,es1,h,hr=>by simp [dput] at hr
 |(i,m,o)::p,es,es1,h,hr=>by
  simp only [dput] at hr
  split at hr
  ·cases hr
  ·rename_i x hx
   have hxn:=va3.1 h x (List.mem_of_getElem? hx)
   split at hr
   ·split at hr
    ·cases hr
    ·rename_i c0 hc0
     split at hr
     ·cases hr
      exact vg7 h (vc3 hxn (by simpa using hc))
     ·split at hr
      ·rename_i e es'
       split at hr
       ·rename_i in' hin
        cases hr
        have h1:nofzL es':=by
         have:=veb hxn _ (List.mem_of_getElem? hc0)
         simpa only [nofz] using this
        exact vg7 h (vc3 hxn (by simpa only [List.mem_singleton,forall_eq,nofz] using vd2 hc _ h1 hin))
       ·cases hr
      ·cases hr
   ·cases hr
theorem vu1 (b w:Nat) (x y:TV):Qt (storeAt b w x y):=by
 have box:∀id o,Qt (storeBox w id o y):=by
  intro id o
  unfold storeBox
  refine (Qm.getN _).bind fun n hn=> ?_
  split
  ·split
   ·exact Qm.setN _ _ fun _ _ _ h=>by cases h
   ·exact Qm.fail
  ·exact Qm.fail
 unfold storeAt
 split
 ·exact box _ _
 ·exact box _ _
 ·refine (vlp _).bind fun ys hys=>(Qm.getN _).bind fun n hn=> ?_
  split
  ·rename_i q ver e es
   split
   ·rename_i x0 hx0
    split
    ·refine Qm.setN _ _ fun ver' e' es' h=> ?_
     simp only [Option.some.injEq,Node.sl.injEq] at h
     obtain ⟨hq,_,_,rfl⟩:=h
     simp only [Bool.or_eq_false_iff] at hq
     have hes:nofzL es:=hn ver e es (by rw [hq.1])
     refine va3.2 fun c hc=> ?_
     rcases List.mem_or_eq_of_mem_set hc with hc|rfl
     ·exact va3.1 hes c hc
     ·exact vc3 (va3.1 hes x0 (List.mem_of_getElem? hx0)) (hys hq.2)
    ·exact Qm.fail
   ·exact Qm.fail
  ·exact Qm.fail
 ·refine (Qm.getN _).bind fun n hn=> ?_
  split
  ·rename_i q ver e es
   split
   ·unfold storeIn
    split
    ·rename_i e' es' ys hget hys
     split
     ·rename_i x0 hx0
      split
      ·split
       ·rename_i es1 hput
        refine Qm.setN _ _ fun ver' e2 es2 h=> ?_
        simp only [Option.some.injEq,Node.sl.injEq] at h
        obtain ⟨hq,_,_,rfl⟩:=h
        have hes:nofzL es:=hn ver e es (by rw [hq])
        have he:=ve6 _ hes hget
        refine vd2 (c:= .sl e' (es'.set _ _)) ?_ _ hes hput
        simp only [nofz]
        exact vg7 he (vc3 (va3.1 he x0 (List.mem_of_getElem? hx0)) (ve2 hys))
       ·exact Qm.fail
      ·exact Qm.fail
     ·exact Qm.fail
    ·exact Qm.fail
   ·exact Qm.fail
  ·exact Qm.fail
 ·exact Qm.fail
theorem vy1 (b e:Nat) (x:TV):Qm (appTo b e x) fun r=>r.2=false→nofzL r.1:=by
 unfold appTo
 split
 ·split
  ·exact Qm.pure fun _=>by simp [nofzL]
  ·exact Qm.fail
 ·refine (Qm.getN _).bind fun n hn=> ?_
  split
  ·rename_i q ver e' es
   split
   ·refine Qt.bind (Qm.setN _ _ fun _ _ _ h=>by cases h) fun _=>Qm.pure fun hq=> ?_
    simp only at hq
    subst hq
    exact hn _ _ _ rfl
   ·exact Qm.fail
  ·exact Qm.fail
 ·refine (Qm.getN _).bind fun n hn=> ?_
  split
  ·rename_i q ver e' es
   split
   ·unfold takeIn
    split
    ·rename_i r es1 hg hp
     split
     ·refine Qt.bind (Qm.setN _ _ fun _ _ _ h=> ?_) fun _=>Qm.pure fun hq=> ?_
      ·simp only [Option.some.injEq,Node.sl.injEq] at h
       obtain ⟨hq,_,_,rfl⟩:=h
       exact vd2 (by simp only [nofz]) _ (hn ver e' es (by rw [hq])) hp
      ·simp only at hq
       subst hq
       exact ve6 _ (hn _ _ _ rfl) hg
     ·exact Qm.fail
    ·exact Qm.fail
   ·exact Qm.fail
  ·exact Qm.fail
 ·exact Qm.fail
theorem vmc (es:List PV):nofzL (es.map PV.cpy):=va3.2 fun c hc=>by
 obtain ⟨x,_,rfl⟩:=List.mem_map.1 hc
 exact vn3 x
theorem vze (e:Nat) (mv:Bool) (y:TV):Qm (appOf e mv y) fun r=>r.2=false→nofzL r.1:=by
 unfold appOf
 split
 ·refine (Qm.getN _).bind fun n hn=> ?_
  split
  ·rename_i q ver e' es
   split
   ·split
    ·refine Qt.bind (Qm.setN _ _ fun _ _ _ h=>by cases h) fun _=>Qm.pure fun hq=> ?_
     simp only at hq
     subst hq
     exact hn _ _ _ rfl
    ·exact Qm.pure fun _=>vmc _
   ·exact Qm.fail
  ·exact Qm.fail
 ·refine Qt.bind (vfr _) fun r=> ?_
  split
  ·unfold cpyOf
   split
   ·exact Qm.pure fun h=>by cases h
   ·exact Qm.pure fun _=>vmc _
  ·exact Qm.fail
theorem vsy (b e bytes:Nat) (mv:Bool) (x y:TV):Qt (appendM b e bytes mv x y):=by
 unfold appendM
 refine (vy1 b e x).bind fun xs hxs=>(vze e mv y).bind fun ys hys=> ?_
 split
 ·refine Qt.bind (Qm.setN _ _ fun ver' e' es' h=> ?_) fun _=>Qm.pure trivial
  simp only [Option.some.injEq,Node.sl.injEq] at h
  obtain ⟨hq,_,_,rfl⟩:=h
  simp only [Bool.or_eq_false_iff] at hq
  refine va3.2 fun c hc=> ?_
  rcases List.mem_append.1 hc with hc|hc
  ·exact va3.1 (hxs hq.1) c hc
  ·exact va3.1 (hys hq.2) c hc
 ·exact Qm.fail
mutual
theorem vps:∀(k:Nat) (x:TV),Qm (pack false k x) cnofz
 |0,x=>by unfold pack;exact Qm.fail
 |k+1,x=>by
  unfold pack
  split
  ·exact Qm.pure (by simp [cnofz])
  ·exact Qm.pure (by simp [cnofz,nofzL])
  ·exact Qm.fail
  ·exact (vfu k _).bind fun ys h=>Qm.pure (by simp only [cnofz];exact h)
  ·exact (vfu k _).bind fun xs h=>(vfu k _).bind fun ys h'=>Qm.pure (by simp only [cnofz];exact ⟨h,h'⟩)
  ·exact (vps k _).bind fun y h=>Qm.pure (by simp only [cnofz];exact h)
  ·refine (Qm.getN _).bind fun n hn=> ?_
   split
   ·rename_i q ver e es
    cases q with
    |true=>exact Qm.fail
    |false=>exact Qt.bind (Qm.setN _ _ fun _ _ _ h=>by cases h) fun _=>Qm.pure (by simp only [cnofz];exact fun _=>hn _ _ _ rfl)
   ·split
    ·exact Qm.fail
    ·exact Qt.bind (Qm.setN _ _ fun _ _ _ h=>by cases h) fun _=>(vfu k _).bind fun ys h=>Qm.pure (by simp only [cnofz];exact h)
   ·exact Qm.pure (by simp [cnofz])
  ·exact Qm.pure (by simp [cnofz])
  ·exact Qm.fail
theorem vfu:∀(k:Nat) (xs:List TV),Qm (packL false k xs) cnofzL
 |0,xs=>by unfold packL;exact Qm.fail
 |k+1,[]=>by unfold packL;exact Qm.pure (by simp [cnofzL])
 |k+1,x::xs=>by
  unfold packL
  exact (vps k x).bind fun y h=>(vfu k xs).bind fun ys h'=>Qm.pure (by simp only [cnofzL];exact ⟨h,h'⟩)
end
mutual
theorem vh5 (fz:Bool):∀(k:Nat) (x:TV),Qt (pack fz k x)
 |0,x=>by unfold pack;exact Qm.fail
 |k+1,x=>by
  unfold pack
  split
  ·exact Qm.pure trivial
  ·exact Qm.pure trivial
  ·split
   ·exact Qm.pure trivial
   ·exact Qm.fail
  ·exact (ve0 fz k _).bind fun ys=>Qm.pure trivial
  ·exact (ve0 fz k _).bind fun xs=>(ve0 fz k _).bind fun ys=>Qm.pure trivial
  ·exact (vh5 fz k _).bind fun y=>Qm.pure trivial
  ·refine (Qm.getN _).bind fun n hn=> ?_
   split
   ·split
    ·exact Qm.fail
    ·exact Qt.bind (Qm.setN _ _ fun _ _ _ h=>by cases h) fun _=>Qm.pure trivial
   ·split
    ·exact Qm.fail
    ·exact Qt.bind (Qm.setN _ _ fun _ _ _ h=>by cases h) fun _=>(ve0 fz k _).bind fun ys=>Qm.pure trivial
   ·exact Qm.pure trivial
  ·exact Qm.pure trivial
  ·exact Qm.fail
theorem ve0 (fz:Bool):∀(k:Nat) (xs:List TV),Qt (packL fz k xs)
 |0,xs=>by unfold packL;exact Qm.fail
 |k+1,[]=>by unfold packL;exact Qm.pure trivial
 |k+1,x::xs=>by
  unfold packL
  exact (vh5 fz k x).bind fun y=>(ve0 fz k xs).bind fun ys=>Qm.pure trivial
end
mutual
theorem vjv (z:Bool):∀(k n:Nat) (x:TV),Qm (freeze z k n x) cnofz
 |0,n,x=>by unfold freeze;exact Qm.fail
 |k+1,n,x=>by
  unfold freeze
  split
  ·exact Qm.pure (by simp [cnofz])
  ·exact Qm.pure (by simp [cnofz])
  ·exact Qm.pure (by simp [cnofz])
  ·exact (vc6 z k _).bind fun ys h=>Qm.pure (by simp only [cnofz];exact h)
  ·exact (vc6 z k _).bind fun xs h=>(vc6 z k _).bind fun ys h'=>Qm.pure (by simp only [cnofz];exact ⟨h,h'⟩)
  ·exact (vjv z k _ _).bind fun y h=>Qm.pure (by simp only [cnofz];exact h)
  ·exact Qm.pure (by simp [cnofz])
  ·split
   ·exact Qm.fail
   ·refine (Qm.getN _).bind fun n hn=> ?_
    split
    ·exact Qm.pure (by simp [cnofz])
    ·exact (vc6 z k _).bind fun ys h=>Qm.pure (by simp only [cnofz];exact h)
    ·exact Qm.fail
  ·split
   ·exact Qm.fail
   ·refine (Qm.getN _).bind fun n hn=> ?_
    split
    ·exact Qm.pure (by simp [cnofz])
    ·exact Qm.fail
  ·split
   ·exact Qm.fail
   ·refine (Qm.getN _).bind fun n hn=> ?_
    split
    ·split
     ·split
      ·exact Qm.pure (by simp [cnofz])
      ·exact Qm.fail
     ·exact Qm.fail
    ·exact Qm.fail
  ·split
   ·exact Qm.fail
   ·refine (Qm.getN _).bind fun n hn=> ?_
    split
    ·split
     ·exact (vc6 z k _).bind fun ys h=>Qm.pure (by simp only [cnofz];exact h)
     ·exact Qm.fail
    ·exact Qm.fail
  ·exact Qm.fail
theorem vc6 (z:Bool):∀(k:Nat) (xs:List TV),Qm (freezeL z k xs) cnofzL
 |0,xs=>by unfold freezeL;exact Qm.fail
 |k+1,[]=>by unfold freezeL;exact Qm.pure (by simp [cnofzL])
 |k+1,x::xs=>by
  unfold freezeL
  exact (vjv z k 0 x).bind fun y h=>(vc6 z k xs).bind fun ys h'=>Qm.pure (by simp only [cnofzL];exact ⟨h,h'⟩)
end
theorem voa (keeps:Bool):∀(ms:List Md) (xs:List TV),Qm (lend keeps ms xs) fun ys=>keeps=false→cnofzL ys
 | [],[]=>by unfold lend;exact Qm.pure fun _=>by simp [cnofzL]
 | .ro _::ms,_::xs=>by
  unfold lend
  exact (voa keeps ms xs).bind fun ys h=>Qm.pure fun hk=>by simp only [cnofzL,cnofz,true_and];exact h hk
 | .mut _::ms,x::xs=>by
  unfold lend
  have hp:Qm (lend0 keeps x) fun y=>keeps=false→cnofz y:=by
   unfold lend0
   split
   ·exact Qm.pure fun _=>by simp only [cnofz]
   cases keeps with
   |false=>exact (vps depth x).weak fun y h _=>h
   |true=>exact (vh5 true depth x).weak fun y _ h=>by cases h
  exact hp.bind fun y h1=>(voa keeps ms xs).bind fun ys h=>Qm.pure fun hk=>by simp only [cnofzL];exact ⟨h1 hk,h hk⟩
 | [],_::_=>by unfold lend;exact Qm.fail
 | .ro _::_,[]=>by unfold lend;exact Qm.fail
 | .mut _::_,[]=>by unfold lend;exact Qm.fail
theorem vzp (keeps:Bool) (v:Nat) (x:TV) (y:CV) (hy:keeps=false→cnofz y):Qm (lend1 keeps v x y) fun y=>keeps=false→cnofz y:=by
 unfold lend1
 split
 ·refine (Qm.getN _).bind fun n hn=> ?_
  split
  ·rename_i q ver' e es
   split
   ·exact Qm.fail
   ·rename_i hcond
    split
    ·rename_i r es1 hg hp
     refine Qm.bind (Qm.setN _ _ fun ver e0 es0 hh=> ?_) fun _ _=>Qm.pure fun hk=> ?_
     ·simp only [Option.some.injEq,Node.sl.injEq] at hh
      obtain ⟨hq,_,_,rfl⟩:=hh
      subst hq
      exact vd2 (by simp only [nofz]) _ (hn _ _ _ rfl) hp
     ·have hq:q=false:=by
       cases q with
       |false=>rfl
       |true=>exact absurd (.inl (by rw [hk];rfl)) hcond
      subst hq
      simp only [cnofz]
      exact fun _=>ve6 _ (hn _ _ _ rfl) hg
    ·exact Qm.fail
  ·exact Qm.fail
 ·exact Qm.pure hy
theorem vll (keeps:Bool) (v:Nat):∀(ms:List Md) (xs:List TV) (ys:List CV),(keeps=false→cnofzL ys)→Qm (lendI keeps v ms xs ys) fun ys=>keeps=false→cnofzL ys
 | [],[],[],h=>by unfold lendI;exact Qm.pure fun _=>by simp [cnofzL]
 | .ro _::ms,_::xs,y::ys,h=>by
  unfold lendI
  exact (vll keeps v ms xs ys fun hk=>by have:=h hk;simp only [cnofzL] at this;exact this.2).bind fun ys' h'=>Qm.pure fun hk=>by
   have:=h hk;simp only [cnofzL] at this⊢;exact ⟨this.1,h' hk⟩
 | .mut _::ms,x::xs,y::ys,h=>by
  unfold lendI
  exact (vzp keeps v x y fun hk=>by have:=h hk;simp only [cnofzL] at this;exact this.1).bind fun y' hy'=>(vll keeps v ms xs ys fun hk=>by have:=h hk;simp only [cnofzL] at this;exact this.2).bind fun ys' h'=>Qm.pure fun hk=>by
   simp only [cnofzL];exact ⟨hy' hk,h' hk⟩
 | [],[],_::_,_=>by unfold lendI;exact Qm.fail
 | [],_::_,_,_=>by unfold lendI;exact Qm.fail
 | .ro _::_,[],_,_=>by unfold lendI;exact Qm.fail
 | .ro _::_,_::_,[],_=>by unfold lendI;exact Qm.fail
 | .mut _::_,[],_,_=>by unfold lendI;exact Qm.fail
 | .mut _::_,_::_,[],_=>by unfold lendI;exact Qm.fail
theorem vql (keeps:Bool) (v:Nat) (ms:List Md) (xs:List TV):Qm (lendA keeps v ms xs) fun ys=>keeps=false→cnofzL ys:=
 (voa keeps ms xs).bind fun ys h=>vll keeps v ms xs ys h
theorem vkr (keeps:Bool):∀(ms:List Md) (xs:List TV) (ys:List CV),(keeps=false→cnofzL ys)→Qm (show_ keeps ms xs ys) fun cs=>keeps=false→cnofzL cs
 | [],[],[],_=>by unfold show_;exact Qm.pure fun _=>by simp [cnofzL]
 | .ro n::ms,x::xs,y::ys,h=>by
  unfold show_
  exact (vjv keeps depth n x).bind fun y' h1=>(vkr keeps ms xs ys fun hk=>by have:=h hk;simp only [cnofzL] at this;exact this.2).bind fun ys' h2=>Qm.pure fun hk=>by simp only [cnofzL];exact ⟨h1,h2 hk⟩
 | .mut _::ms,_::xs,y::ys,h=>by
  unfold show_
  exact (vkr keeps ms xs ys fun hk=>by have:=h hk;simp only [cnofzL] at this;exact this.2).bind fun ys' h2=>Qm.pure fun hk=>by
   have:=h hk
   simp only [cnofzL] at this⊢
   exact ⟨this.1,h2 hk⟩
 | [],[],_::_,_=>by unfold show_;exact Qm.fail
 | [],_::_,_,_=>by unfold show_;exact Qm.fail
 | .ro _::_,[],_,_=>by unfold show_;exact Qm.fail
 | .ro _::_,_::_,[],_=>by unfold show_;exact Qm.fail
 | .mut _::_,[],_,_=>by unfold show_;exact Qm.fail
 | .mut _::_,_::_,[],_=>by unfold show_;exact Qm.fail
mutual
theorem voi (q:Bool):∀(c:CV) (b:Nat),(q=false→cnofz c)→Qt (unpack q b c)
 | .a _,b,_=>by unfold unpack;exact Qm.pure trivial
 | .sl z e es,b,h=>by
  unfold unpack
  split
  ·exact Qm.pure trivial
  ·rename_i hz
   refine Qt.bind (Qm.setN _ _ fun ver' e' es' hh=> ?_) fun _=>Qm.pure trivial
   simp only [Option.some.injEq,Node.sl.injEq] at hh
   obtain ⟨hq,_,_,rfl⟩:=hh
   have:=h hq
   simp only [cnofz] at this
   exact this (by simpa using hz)
 | .bx z cs,b,h=>by
  unfold unpack
  exact (vbw q cs _ fun hq=>by have:=h hq;simp only [cnofz] at this;exact this).bind fun r=>Qt.bind (Qm.setN _ _ fun _ _ _ h=>by cases h) fun _=>Qm.pure trivial
 | .st cs,b,h=>by
  unfold unpack
  exact (vbw q cs _ fun hq=>by have:=h hq;simp only [cnofz] at this;exact this).bind fun r=>Qm.pure trivial
 | .tp cs,b,h=>by
  unfold unpack
  exact (vbw q cs _ fun hq=>by have:=h hq;simp only [cnofz] at this;exact this).bind fun r=>Qm.pure trivial
 | .fn f fs cs,b,h=>by
  unfold unpack
  exact (vbw q fs _ fun hq=>by have:=h hq;simp only [cnofz] at this;exact this.1).bind fun r=>(vbw q cs _ fun hq=>by have:=h hq;simp only [cnofz] at this;exact this.2).bind fun r=>Qm.pure trivial
 | .ic t c,b,h=>by
  unfold unpack
  exact (voi q c _ fun hq=>by have:=h hq;simp only [cnofz] at this;exact this).bind fun r=>Qm.pure trivial
 | .un,b,_=>by unfold unpack;exact Qm.pure trivial
theorem vbw (q:Bool):∀(cs:List CV) (b:Nat),(q=false→cnofzL cs)→Qt (unpackL q b cs)
 | [],b,_=>by unfold unpackL;exact Qm.pure trivial
 |c::cs,b,h=>by
  unfold unpackL
  exact (voi q c _ fun hq=>by have:=h hq;simp only [cnofzL] at this;exact this.1).bind fun r=>(vbw q cs _ fun hq=>by have:=h hq;simp only [cnofzL] at this;exact this.2).bind fun r=>Qm.pure trivial
end
mutual
theorem vg0 (q:Bool) (V:Nat):∀(x:TV) (c0 y:CV) (b:Nat),(q=false→cnofz y)→Qt (restore q V b x c0 y)
 | .rf id,c0,y,b,h=>by
  cases c0 with
  |sl z0 e0 es0=>
   cases y with
   |sl z e es=>
    cases z0<;>cases z<;>simp only [restore]
    ·refine (Qm.getN _).bind fun n _=> ?_
     split
     ·refine Qt.bind (Qm.setN _ _ fun ver' e' es' hh=> ?_) fun _=>Qm.pure trivial
      simp only [Option.some.injEq,Node.sl.injEq] at hh
      obtain ⟨hq,_,_,rfl⟩:=hh
      have:=h hq
      simp only [cnofz] at this
      exact this trivial
     ·exact Qm.fail
    all_goals exact Qm.pure trivial
   |_=>simp only [restore];exact Qm.pure trivial
  |bx z0 cs0=>
   cases y with
   |bx z cs=>
    cases z0<;>cases z<;>simp only [restore]
    ·refine (Qm.getN _).bind fun n _=> ?_
     split
     ·exact (vbw q cs _ fun hq=>by have:=h hq;simp only [cnofz] at this;exact this).bind fun r=>Qt.bind (Qm.setN _ _ fun _ _ _ h=>by cases h) fun _=>Qm.pure trivial
     ·exact Qm.fail
    all_goals exact Qm.pure trivial
   |_=>simp only [restore];exact Qm.pure trivial
  |_=>simp only [restore];exact Qm.pure trivial
 | .fn f fs cs,c0,y,b,h=>by
  cases c0 with
  |fn f0 fs0 cs0=>
   cases y with
   |fn f1 fs1 cs1=>
    simp only [restore]
    exact (vec q V fs fs0 fs1 b fun hq=>by have:=h hq;simp only [cnofz] at this;exact this.1).bind fun b1=>vec q V cs cs0 cs1 b1 fun hq=>by have:=h hq;simp only [cnofz] at this;exact this.2
   |_=>simp only [restore];exact Qm.pure trivial
  |_=>simp only [restore];exact Qm.pure trivial
 | .st cs,c0,y,b,h=>by
  cases c0 with
  |st cs0=>
   cases y with
   |st cs1=>
    simp only [restore]
    exact vec q V cs cs0 cs1 b fun hq=>by have:=h hq;simp only [cnofz] at this;exact this
   |_=>simp only [restore];exact Qm.pure trivial
  |_=>simp only [restore];exact Qm.pure trivial
 | .ic t x,c0,y,b,h=>by
  cases c0 with
  |ic t0 x0=>
   cases y with
   |ic t1 x1=>
    simp only [restore]
    exact vg0 q V x x0 x1 b fun hq=>by have:=h hq;simp only [cnofz] at this;exact this
   |_=>simp only [restore];exact Qm.pure trivial
  |_=>simp only [restore];exact Qm.pure trivial
 | .a _,c0,y,b,h=>by simp only [restore];exact Qm.pure trivial
 | .nl _,c0,y,b,h=>by simp only [restore];exact Qm.pure trivial
 | .ri _ _ _,c0,y,b,h=>by simp only [restore];exact Qm.pure trivial
 | .sb _ _ _,c0,y,b,h=>by simp only [restore];exact Qm.pure trivial
 | .ad _ _,c0,y,b,h=>by simp only [restore];exact Qm.pure trivial
 | .ea _ _ _ _,c0,y,b,h=>by simp only [restore];exact Qm.pure trivial
 | .ei _ _ _ _ _ _,c0,y,b,h=>by simp only [restore];exact Qm.pure trivial
 | .sz _ _,c0,y,b,h=>by simp only [restore];exact Qm.pure trivial
 | .ez _ _,c0,y,b,h=>by simp only [restore];exact Qm.pure trivial
 | .tp _,c0,y,b,h=>by simp only [restore];exact Qm.pure trivial
 | .un,c0,y,b,h=>by simp only [restore];exact Qm.pure trivial
theorem vec (q:Bool) (V:Nat):∀(xs:List TV) (cs0 ys:List CV) (b:Nat),(q=false→cnofzL ys)→Qt (restoreL q V b xs cs0 ys)
 | [],cs0,ys,b,h=>by simp only [restoreL];exact Qm.pure trivial
 |x::xs,[],ys,b,h=>by simp only [restoreL];exact Qm.pure trivial
 |x::xs,c0::cs0,[],b,h=>by simp only [restoreL];exact Qm.pure trivial
 |x::xs,c0::cs0,y::ys,b,h=>by
  simp only [restoreL]
  exact (vg0 q V x c0 y b fun hq=>by have:=h hq;simp only [cnofzL] at this;exact this.1).bind fun b1=>vec q V xs cs0 ys b1 fun hq=>by have:=h hq;simp only [cnofzL] at this;exact this.2
end
theorem vxs (q:Bool) (V:Nat) (x:TV) (c0 y:CV) (b:Nat) (h:q=false→cnofz y):Qt (back1 q V b x c0 y):=by
 unfold back1
 split
 ·split
  ·refine (Qm.getN _).bind fun n hn=> ?_
   split
   ·split
    ·rename_i q0 ver e es _ _ es1 hat hput
     refine Qt.bind (Qm.setN _ _ fun ver' e0 es0 hh=> ?_) fun _=>Qm.pure trivial
     simp only [Option.some.injEq,Node.sl.injEq,Bool.or_eq_false_iff] at hh
     obtain ⟨⟨hq0,hq⟩,_,_,rfl⟩:=hh
     subst hq0
     have:=h hq
     simp only [cnofz] at this
     exact vd2 (by simp only [nofz];exact this trivial) _ (hn _ _ _ rfl) hput
    ·exact Qm.fail
   ·exact Qm.fail
  ·exact Qm.fail
 ·exact vg0 q V x c0 y b h
theorem vf8 (q:Bool) (V:Nat):∀(ms:List Md) (xs:List TV) (cs fs:List CV) (b:Nat),(q=false→cnofzL fs)→Qt (takeBack q V b ms xs cs fs)
 | [],[],[],[],b,h=>by simp only [takeBack];exact Qm.pure trivial
 | .ro _::ms,x::xs,c::cs,fs,b,h=>by simp only [takeBack];exact vf8 q V ms xs cs fs b h
 | .mut _::ms,x::xs,c::cs,f::fs,b,h=>by
  simp only [takeBack]
  exact (vxs q V x c f b fun hq=>by have:=h hq;simp only [cnofzL] at this;exact this.1).bind fun b1=>vf8 q V ms xs cs fs b1 fun hq=>by have:=h hq;simp only [cnofzL] at this;exact this.2
 | [],_::_,_,_,b,h=>by simp only [takeBack];exact Qm.fail
 | [],[],_::_,_,b,h=>by simp only [takeBack];exact Qm.fail
 | [],[],[],_::_,b,h=>by simp only [takeBack];exact Qm.fail
 | .ro _::_,[],_,_,b,h=>by simp only [takeBack];exact Qm.fail
 | .ro _::_,_::_,[],_,b,h=>by simp only [takeBack];exact Qm.fail
 | .mut _::_,[],_,_,b,h=>by simp only [takeBack];exact Qm.fail
 | .mut _::_,_::_,[],_,b,h=>by simp only [takeBack];exact Qm.fail
 | .mut _::_,_::_,_::_,[],b,h=>by simp only [takeBack];exact Qm.fail
theorem vgv:∀{cs ds:List CV},cnofzL (cs++ds)↔cnofzL cs∧cnofzL ds
 | [],ds=>by simp [cnofzL]
 |c::cs,ds=>by simp [cnofzL,vgv (cs:=cs),and_assoc]
def Nofz (g:Option Callee):Prop:=∀c,g=some c→c.keeps=false→∀cs rs fs,cnofzL cs→c.go cs=some (rs,fs)→cnofzL (rs++fs)
theorem vrd {g:Option Callee} (hg:Nofz g) (b:Nat) (xs:List TV):Qt (callM g b xs):=by
 cases g with
 |none=>exact Qm.fail
 |some c=>
  simp only [callM]
  refine (vql c.keeps (b+100) c.modes xs).bind fun ps hps=>(vkr c.keeps c.modes xs ps hps).bind fun cs hcs=> ?_
  cases hgo:c.go cs with
  |none=>exact Qm.fail
  |some rf=>
   obtain ⟨rs,fs⟩:=rf
   have hall:c.keeps=false→cnofzL rs∧cnofzL fs:=fun hk=>vgv.1 (hg c rfl hk cs rs fs (hcs hk) hgo)
   refine (vf8 c.keeps (b+100) c.modes xs cs fs b fun hk=>(hall hk).2).bind fun b'=> ?_
   split
   ·split
    ·exact Qt.bind (Qt.of (Qm.liftO _)) fun ts=>Qm.pure trivial
    ·exact Qm.fail
   unfold resultTV
   refine (vbw c.keeps rs b' fun hk=>(hall hk).1).bind fun r=> ?_
   split
   ·exact Qm.pure trivial
   ·exact Qm.fail
theorem vkx (d:Option Nat) (v:TV):Qt (putO d v):=by
 cases d with
 |none=>exact Qm.pure trivial
 |some d=>exact Qm.setS _ _
theorem vup {Φ:Nat→Option Callee} (hΦ:∀f,Nofz (Φ f)) (b:Nat) (op:VOp):Qt (exec Φ b op):=by
 cases op with
 |alloc d zs=>
  simp only [exec]
  split
  ·exact Qm.fail
  ·exact Qt.bind (Qm.setN _ _ fun _ _ _ h=>by cases h) fun _=>Qm.setS _ _
 |box d x=>
  simp only [exec]
  refine Qt.bind (vbd _) fun v=>Qt.bind (Qt.of (Qm.liftO _)) fun cs=> ?_
  split
  ·exact Qm.fail
  ·exact Qt.bind (Qm.setN _ _ fun _ _ _ h=>by cases h) fun _=>Qm.setS _ _
 |build d zs ps=>simp only [exec];exact (vpp _ _).bind fun cs=>Qm.setS _ _
 |bsl d e m zs n ps=>
  simp only [exec]
  refine (vub _ _ _ _ _ fun _=>va3.2 fun c hc=>by rw [(List.mem_replicate.1 hc).2];exact viu _ _).bind fun es hes=> ?_
  refine Qt.bind (Qm.setN _ _ fun ver' e' es' hh=> ?_) fun _=>Qm.setS _ _
  simp only [Option.some.injEq,Node.sl.injEq] at hh
  obtain ⟨hq,_,_,rfl⟩:=hh
  exact hes hq
 |load d w x=>simp only [exec];exact Qt.bind (vbd _) fun v=>(vo6 _ _).bind fun _=>Qm.setS _ _
 |store w x y=>simp only [exec];exact Qt.bind (vbd _) fun u=>Qt.bind (vbd _) fun v=>vu1 _ _ _ _
 |slc0 d e x=>
  simp only [exec]
  refine Qt.bind (vbd _) fun u=>Qt.bind (vfr _) fun r=> ?_
  split
  ·exact Qt.bind (Qm.setN _ _ fun ver' e' es' hh=>by simp only [Option.some.injEq,Node.sl.injEq] at hh;obtain ⟨_,_,_,rfl⟩:=hh;exact va3.2 (by simp)) fun _=>Qm.setS _ _
  ·exact Qm.fail
 |mks d e bytes zs x=>
  simp only [exec]
  refine Qt.bind (vbd _) fun u=> ?_
  split
  ·split
   ·refine Qt.bind (Qm.setN _ _ fun ver' e' es' hh=> ?_) fun _=>Qm.setS _ _
    simp only [Option.some.injEq,Node.sl.injEq] at hh
    obtain ⟨_,_,_,rfl⟩:=hh
    exact va3.2 fun c hc=>by rw [(List.mem_replicate.1 hc).2];exact viu _ _
   ·exact Qm.fail
  ·exact Qm.fail
 |slc d e x lo hi=>
  simp only [exec]
  exact Qt.bind (vbd _) fun v=>Qt.bind (vcd _) fun l=>Qt.bind (vcd _) fun h=>(vuv _ _ _ _).bind fun _=>Qm.setS _ _
 |sslc d x lo hi=>
  simp only [exec]
  exact Qt.bind (vbd _) fun v=>Qt.bind (vcd _) fun l=>Qt.bind (vcd _) fun h=>(vyz _ _ _).bind fun _=>Qm.setS _ _
 |fad d x off=>simp only [exec];exact Qt.bind (vbd _) fun v=>(vuq _ _).bind fun _=>Qm.setS _ _
 |iad d e m x i=>
  simp only [exec]
  refine Qt.bind (vbd _) fun v=>Qt.bind (vbd _) fun u=> ?_
  split
  ·exact (vva _ _ _ _).bind fun _=>Qm.setS _ _
  ·exact Qm.fail
 |len d x=>simp only [exec];exact Qt.bind (vbd _) fun v=>(vfr _).bind fun _=>Qm.setS _ _
 |app d e bytes mv x y=>simp only [exec];exact Qt.bind (vbd _) fun u=>Qt.bind (vbd _) fun v=>(vsy _ _ _ _ _ _).bind fun _=>Qm.setS _ _
 |call d f xs=>simp only [exec];exact Qt.bind (vcz _) fun vs=>(vrd (hΦ f) _ _).bind fun _=>vkx _ _
 |calv d f xs=>
  simp only [exec]
  refine Qt.bind (vbd _) fun g=> ?_
  split
  ·exact Qt.bind (vcz _) fun vs=>(vrd (hΦ _) _ _).bind fun _=>vkx _ _
  ·exact Qm.fail
 |b2s d e x=>
  simp only [exec]
  refine Qt.bind (vbd _) fun v=>Qt.bind (vfr _) fun r=> ?_
  split
  ·exact Qt.bind (Qt.of (Qm.liftO _)) fun _=>Qm.setS _ _
  ·exact Qm.fail
 |pick d c x y=>
  simp only [exec]
  refine Qt.bind (vbd _) fun u=> ?_
  split
  ·split
   ·exact Qt.bind (vbd _) fun _=>Qm.setS _ _
   ·exact Qt.bind (vbd _) fun _=>Qm.setS _ _
  ·exact Qm.fail
 |_=>simp only [exec];(repeat' (first|exact Qm.pure trivial|exact Qm.fail|exact Qm.setS _ _|exact Qm.getS _|exact Qt.of (Qm.getN _)|exact Qt.of (Qm.liftO _)|(refine Qt.bind (Qt.of (Qm.getN _)) fun _=> ?_)|(refine Qt.bind (Qt.of (Qm.liftO _)) fun _=> ?_)|(refine Qt.bind (Qm.getS _) fun _=> ?_)|(refine Qt.bind (vbd _) fun _=> ?_)|(refine Qt.bind (vcz _) fun _=> ?_)|(refine Qt.bind (vcd _) fun _=> ?_)|split))
theorem vhz {Φ:Nat→Option Callee} (hΦ:∀f,Nofz (Φ f)) (b:Nat) (o:VOper):Qt (execG Φ b o):=by
 unfold execG
 split
 ·exact vup hΦ b _
 ·refine Qt.bind (Qm.getS _) fun u=> ?_
  split
  ·split
   ·exact vup hΦ b _
   ·exact vkx _ _
  ·exact vkx _ _
  ·exact Qm.fail
theorem vlm {Φ:Nat→Option Callee} (hΦ:∀f,Nofz (Φ f)):∀(os:List VOper) (b:Nat) (st st':St),execs Φ b os st=some st'→Qok st→Qok st'
 | [],b,st,st',h,hq=>by cases h;exact hq
 |o::os,b,st,st',h,hq=>by
  simp only [execs] at h
  split at h
  ·rename_i u s1 h1
   exact vlm hΦ os _ _ _ h (vhz hΦ b o st _ s1 h1 hq).1
  ·cases h
end Go.Proofs.YteomgghmhicpcaaDoor.VM
namespace Go.Proofs.YteomgghmhicpcaaDoor.VM
open Go
variable {cx:Cx} {U:Nat→Prop} {X:Cells} {ρ:Nat→Value} {F:Nat→Cells} {st:St} {sh:Shape} {V:Nat} {a:Act} {w:World}
theorem vqm {b:Nat} {Φ:Nat→Option Callee} (hq:Qok st):∀f c (xs:List TV),Φ f=some c→c.keeps=false→∀ps cs s1 s2,(lendA c.keeps (b+100) c.modes xs).run st=some (ps,s1)→(show_ c.keeps c.modes xs ps).run s1=some (cs,s2)→cnofzL cs:=by
 intro f c xs _ hk ps cs s1 s2 h1 h2
 obtain ⟨q1,r1⟩:=vql c.keeps (b+100) c.modes xs st ps s1 h1 hq
 exact (vkr c.keeps c.modes xs ps r1 s1 cs s2 h2 q1).2 hk
theorem vr9 {x y:Operand} (h:sameOpd x y=true):x=y:=by
 unfold sameOpd at h
 split at h
 ·rw [beq_iff_eq] at h;subst h;rfl
 ·rw [beq_iff_eq] at h;subst h;rfl
 ·cases h
theorem qjc {x:Operand} {n:Nat} (h:isTmp x=some n):x= .tmp n:=by
 cases x<;>simp [isTmp] at h
 rw [h]
theorem vzl {Φ:Nat→Option Callee} (hS:∀f c,Φ f=some c→Sound cx.P f c) (h:G cx U (fun _ _=>False) ρ F st a w) (hq:Qok st) {b:Nat} (hb:∀i,b≤i→i<b+100→¬U i) {ops:Array Oper} {o:Oper} {v:VOp} (hc:cOp1 cx.P ops o=some v)
  (hd:∀d,o.dst=some d→d<cx.n) {s1:St} (hr:(exec Φ b v).run st=some ((),s1)):Now cx U b o s1 a w:=by
 unfold cOp1 at hc
 split at hc
 ·rename_i hop hdst
  obtain ⟨y,hy,rfl⟩:=Option.map_eq_some_iff.1 hc
  exact vox h hdst (hd _ hdst) (.inl hop) hy hr
 ·rename_i hop hdst
  obtain ⟨y,hy,rfl⟩:=Option.map_eq_some_iff.1 hc
  exact vox h hdst (hd _ hdst) (.inr hop) hy hr
 ·rename_i hop hdst
  split at hc
  ·rename_i h1 h2 h3
   cases hc
   exact vqq h hdst (hd _ hdst) hop h1 h2 h3 hr
  ·cases hc
 ·rename_i hop hdst
  obtain ⟨y,hy,rfl⟩:=Option.map_eq_some_iff.1 hc
  exact vpt h hb hdst (hd _ hdst) hop hy hr
 ·rename_i hop hdst
  split at hc
  ·obtain ⟨y,hy,rfl⟩:=Option.map_eq_some_iff.1 hc
   exact vtf h hb hdst (hd _ hdst) hop hy hr
  ·cases hc
 ·rename_i hop hdst
  split at hc
  ·rename_i h1 h2 h3
   split at hc
   ·rename_i h4
    cases hc
    exact vov h hdst (hd _ hdst) hop h1 h2 h3 h4 hr
   ·cases hc
  ·cases hc
 ·rename_i hop hdst
  split at hc
  ·rename_i h0
   split at hc
   ·rename_i h1 h2 h3
    split at hc
    ·rename_i h4
     cases hc
     exact vuj h hb hdst (hd _ hdst) hop h0 h1 h2 h3 h4 hr
    ·cases hc
   ·cases hc
  ·cases hc
 ·rename_i hop hdst
  split at hc
  ·rename_i h1 h2
   cases hc
   exact vqo h hdst (hd _ hdst) hop h1 h2 hr
  ·cases hc
 ·rename_i hop hdst
  split at hc
  ·rename_i h1 h2 h3 h4
   cases hc
   exact voo h hb hdst hop h2 h3 h4 hr
  ·cases hc
 ·rename_i hop hdst
  obtain ⟨y,hy,rfl⟩:=Option.map_eq_some_iff.1 hc
  exact vop h hdst (hd _ hdst) hop hy hr
 ·rename_i hop hdst
  split at hc
  ·split at hc
   ·rename_i h1 h2
    cases hc
    exact vud h hdst (hd _ hdst) hop h1 h2 hr
   ·cases hc
  ·split at hc
   ·rename_i hbt
    split at hc
    ·rename_i h1 h2 h3
     cases hc
     exact vtt h hdst (hd _ hdst) hop h1 h2 hbt h3 hr
    ·cases hc
   ·cases hc
 ·rename_i hop hdst
  obtain ⟨y,hy,rfl⟩:=Option.map_eq_some_iff.1 hc
  exact vxo h (t':=0) hdst (hd _ hdst) hop hy hr
 ·rename_i hop hdst
  split at hc
  ·rename_i h1 h2 h3
   cases hc
   exact vsx h hdst (hd _ hdst) hop h1 h2 h3 hr
  ·rename_i h1 h2 h3
   cases hc
   exact vvg h hdst (hd _ hdst) hop h1 h2 h3 hr
  ·split at hc
   ·cases hc
    exact (vac hr).elim
   ·cases hc
  ·rename_i h1 h2 h3
   split at hc
   ·rename_i h4
    cases hc
    exact vu2 h hdst (hd _ hdst) hop h1 h4 h2 h3 hr
   ·cases hc
  ·cases hc
 ·rename_i hop hdst
  split at hc
  ·rename_i h1 h2
   cases hc
   exact vu9 h hdst (hd _ hdst) hop h1 h2 hr
  ·cases hc
 ·rename_i hop hdst
  split at hc
  ·rename_i hcon
   obtain ⟨y,hy,rfl⟩:=Option.map_eq_some_iff.1 hc
   exact vti h hdst (hd _ hdst) hop (fun v=>run_makeInterface w _ v hcon) hy hr
  ·cases hc
 ·rename_i hop hdst
  split at hc
  ·rename_i h0
   split at hc
   ·rename_i h2 h3 h4
    split at hc
    ·rename_i hcond
     cases hc
     rw [←vr9 hcond] at hop
     exact vs6 h hb hdst (hd _ hdst) hop h0 h2 h3 h4 hr
    ·cases hc
   ·cases hc
  ·cases hc
 ·rename_i hop hdst
  split at hc
  ·rename_i h1 h2 h3 h4
   cases hc
   exact vqy h hdst (hd _ hdst) hop h1 h2 h3 h4 hr
  ·rename_i h1 h2 h3 h4
   split at hc
   ·rename_i hs
    cases hc
    obtain ⟨m,hm⟩:=Option.isSome_iff_exists.1 hs
    exact vtr h hdst (hd _ hdst) hop h1 hm h2 h3 h4 hr
   ·cases hc
  ·cases hc
 ·rename_i hop hdst
  split at hc
  ·rename_i h1 h2
   split at hc
   ·rename_i hcond
    cases hc
    obtain ⟨m,hm⟩:=Option.isSome_iff_exists.1 hcond.2.2
    exact vqw h hb hdst (hd _ hdst) hop h1 hm h2 hcond.1 hcond.2.1 hr
   ·cases hc
  ·cases hc
 ·rename_i hop hdst
  split at hc
  ·rename_i h1 h2
   split at hc
   ·rename_i h3
    cases hc
    exact vtc h hdst (hd _ hdst) hop h1 h3 h2 hr
   ·cases hc
  ·cases hc
 ·rename_i hop hdst
  split at hc
  ·rename_i h1
   split at hc
   ·rename_i h2 h3
    cases hc
    exact vug h hdst (hd _ hdst) hop h1 h2 h3 hr
   ·cases hc
  ·cases hc
 ·rename_i hop hdst
  split at hc
  ·rename_i h0
   split at hc
   ·rename_i h1 h2 h3
    split at hc
    ·cases hc
     exact vtu h hdst (hd _ hdst) hop h0 h1 h2 h3 hr
    ·cases hc
   ·cases hc
  ·cases hc
 ·rename_i hop hdst
  split at hc
  ·rename_i h0
   split at hc
   ·rename_i h1 h2
    cases hc
    exact vxh h hdst (hd _ hdst) hop h0 h1 h2 hr
   ·cases hc
  ·cases hc
 ·rename_i hop hdst
  obtain ⟨y,hy,rfl⟩:=Option.map_eq_some_iff.1 hc
  exact vt4 h hdst (hd _ hdst) hop hy hr
 ·rename_i hop hdst
  split at hc
  ·rename_i ha ht
   have ha':=Array.toList_inj.1 (ha.trans (List.toList_toArray).symm)
   have ht':=Array.toList_inj.1 (ht.trans (List.toList_toArray).symm)
   split at hc
   ·rename_i h0
    obtain ⟨y,hy,rfl⟩:=Option.map_eq_some_iff.1 hc
    exact vq8 h hdst (hd _ hdst) hop rfl ha' ht' h0 hy hr
   ·rename_i h0
    obtain ⟨y,hy,rfl⟩:=Option.map_eq_some_iff.1 hc
    exact vul h hdst (hd _ hdst) hop rfl ha' ht' h0 hy hr
   ·cases hc
  ·cases hc
 ·rename_i hop hdst
  split at hc
  ·rename_i ha ht
   have ha':=Array.toList_inj.1 (ha.trans (List.toList_toArray).symm)
   have ht':=Array.toList_inj.1 (ht.trans (List.toList_toArray).symm)
   split at hc
   ·rename_i h0 _
    split at hc
    ·rename_i hcond
     obtain ⟨rfl,rfl⟩:=hcond
     split at hc
     ·rename_i h1 h2 h3 h4 h5
      split at hc
      ·rename_i hpos
       cases hc
       exact vum h hb hdst (hd _ hdst) hop rfl ha' ht' h0 h1 h2 h3 hpos.1 h4 h5 hr
      ·cases hc
     ·cases hc
    ·cases hc
   ·cases hc
  ·cases hc
 ·rename_i hop hdst
  split at hc
  ·rename_i hcond
   simp only [Bool.and_eq_true,decide_eq_true_eq] at hcond
   obtain ⟨y,hy,rfl⟩:=Option.map_eq_some_iff.1 hc
   exact vpi h hdst (hd _ hdst) (isMax:=true) hop rfl hcond.1 hy hr
  ·cases hc
 ·rename_i hop hdst
  split at hc
  ·rename_i hcond
   simp only [Bool.and_eq_true,decide_eq_true_eq] at hcond
   obtain ⟨y,hy,rfl⟩:=Option.map_eq_some_iff.1 hc
   exact vpi h hdst (hd _ hdst) (isMax:=false) hop rfl hcond.1 hy hr
  ·cases hc
 ·rename_i hop
  split at hc
  ·cases hc
  ·rename_i hsz
   obtain ⟨y,hy,rfl⟩:=Option.map_eq_some_iff.1 hc
   exact vqt h hb rfl hd hop rfl (Decidable.of_not_not hsz) hy (hS _) (fun c xs=>vqm hq _ c xs) hr
 ·rename_i hop
  split at hc
  ·cases hc
  ·rename_i hsz
   obtain ⟨y,hy,rfl⟩:=Option.map_eq_some_iff.1 hc
   have hn:=Nat.lt_of_not_le fun h=>hsz (.inr h)
   have hsz':=Decidable.of_not_not fun h=>hsz (.inl h)
   exact vri h hb rfl hd hop hn rfl hsz' hy hS (fun f c xs=>vqm hq f c xs) hr
 ·cases hc
theorem vtw {Φ:Nat→Option Callee} (hS:∀f c,Φ f=some c→Sound cx.P f c) (h:G cx U (fun _ _=>False) ρ F st a w) (hq:Qok st) {b:Nat} (hb:∀i,b≤i→i<b+100→¬U i) {ops:Array Oper} {o:Oper} {v:VOp} (hc:cOp cx.P ops o=some v)
  (hd:∀d,o.dst=some d→d<cx.n) {s1:St} (hr:(exec Φ b v).run st=some ((),s1)):Now cx U b o s1 a w:=by
 unfold cOp at hc
 cases h1:cOp1 cx.P ops o with
 |none=>
  rw [h1] at hc
  cases hc
  exact (vac hr).elim
 |some x=>
  rw [h1] at hc
  cases hc
  exact vzl hS h hq hb h1 hd hr
end Go.Proofs.YteomgghmhicpcaaDoor.VM
