/- The interpreter 'VM': a slice that is not marked has no frozen parts: each operation keeps that. The interpreter 'VM': each operation, by the compiler's cases. -/
import Derived.Test.YtkidnhclcbcglaaGreatVmQs
open Option renaming map_eq_some_iff->Aa,isSome_iff_exists->Al
open Option.some renaming injEq->Ab
open List renaming mem_of_getElem?->Ac,mem_or_eq_of_mem_set->Ae,toList_toArray->Af,mem_of_mem_drop->Ah,mem_map->Aj,mem_of_mem_take->Am,mem_replicate->An,mem_append->Ao
open Bool renaming or_eq_false_iff->Ad,and_eq_true->Ak,not_false->Ap
open Array renaming toList_inj->Ag
open Decidable renaming of_not_not->Ai
namespace Go.Proofs.YtkidnhclcbcglaaGreat.VM
open Go
theorem vb4:∀{l:List PV},vcg l↔∀x∈l,nofz x
 | []=>by simp [vcg]
 |c::cs=>by simp [vcg,vb4 (l:=cs)]
theorem vqv {x:PV} (h:nofz x):∀c∈x.cells,nofz c:=by
 cases x with
 |st cs=>exact fun c hc=>vb4.1 (show vcg cs by simpa [nofz] using h) c hc
 |_=>intro c hc;simp [PV.cells] at hc;subst hc;exact h
theorem vsp {l:List PV} (h:∀c∈l,nofz c):nofz (.st l):=by simp only [nofz];exact vb4.2 h
theorem vl3 {x:PV} {o:Nat} {ys:List PV} (h:nofz x) (hy:∀c∈ys,nofz c):nofz (vbp x o ys):=by
 unfold vbp;split
 ·rename_i cs;apply vsp;intro c hc;simp only [Ao] at hc;have hcs:=vqv h;rcases hc with (hc|hc)|hc
  ·exact hcs c (Am hc)
  ·exact hy c hc
  ·exact hcs c (Ah hc)
 ·split
  ·exact hy _ (by simp)
  ·exact h
theorem qdr (x:PV):nofz x.cpy:=by
 cases x with
 |st cs=>
  apply vsp;intro c hc;obtain ⟨y,_,rfl⟩:=Aj.1 hc;split<;>simp [nofz]
 |_=>simp [PV.cpy,nofz]
theorem qgv (z:ZC):nofz z.pv:=by cases z<;>simp [ZC.pv,nofz,vcg]
theorem vxf (m:Nat) (zs:List ZC):nofz (zeroEl m zs):=by
 unfold zeroEl;split
 ·cases zs with
  |nil=>simp [nofz]
  |cons z zs=>exact qgv z
 ·apply vsp;intro c hc;obtain ⟨z,_,rfl⟩:=Aj.1 hc;exact qgv z
def Qm {α:Type} (m:M α) (R:α→Prop):Prop:=∀st r st',m.run st=some (r,st')→Qok st→Qok st'∧R r
theorem Qm.bind {α β:Type} {m:M α} {k:α→M β} {R:α→Prop} {S:β→Prop} (h:Qm m R) (hk:∀x,R x→Qm (k x) S):Qm (m.bind k) S:=by
 intro st r st' hr hq;obtain ⟨x,s1,h1,h2⟩:=vaa hr;obtain ⟨q1,r1⟩:=h st x s1 h1 hq;exact hk x r1 s1 r st' h2 q1
theorem Qm.pure {α:Type} {x:α} {R:α→Prop} (h:R x):Qm (M.pure x) R:=by
 intro st r st' hr hq;cases run_pure hr;exact ⟨hq,h⟩
theorem Qm.fail {α:Type} {R:α→Prop}:Qm (M.fail:M α) R:=fun _ _ _ hr=>(vac hr).elim
theorem Qm.getS (t:Nat):Qm (getS t) fun _=>True:=by
 intro st r st' hr hq;cases vj9 hr;exact ⟨hq,trivial⟩
theorem Qm.setS (t:Nat) (v:TV):Qm (setS t v) fun _=>True:=by
 intro st r st' hr hq;cases vba hr;exact ⟨fun id ver e es hn=>hq id ver e es hn,trivial⟩
theorem Qm.getN (id:Nat):Qm (getN id) fun n=>∀ver e es,n=some (.sl false ver e es)→vcg es:=by
 intro st r st' hr hq;cases vbl hr;exact ⟨hq,fun ver e es hn=>hq id ver e es hn⟩
theorem Qm.setN (id:Nat) (n:Option Node) (h:∀ver e es,n=some (.sl false ver e es)→vcg es):Qm (setN id n) fun _=>True:=by
 intro st r st' hr hq;cases vbz hr;refine ⟨fun j ver e es hn=> ?_,trivial⟩;rw [vgm] at hn;split at hn
 ·exact h ver e es hn
 ·exact hq j ver e es hn
theorem Qm.liftO {α:Type} (x:Option α):Qm (liftO x) fun r=>x=some r:=by
 intro st r st' hr hq;obtain ⟨h1,h2⟩:=vda hr;simp only at h1 h2;subst h2;exact ⟨hq,h1⟩
theorem Qm.weak {α:Type} {m:M α} {R S:α→Prop} (h:Qm m R) (hs:∀x,R x→S x):Qm m S:=fun st r st' hr hq=>let ⟨h1,h2⟩:=h st r st' hr hq;⟨h1,hs r h2⟩
abbrev Qt {α:Type} (m:M α):Prop:=Qm m fun _=>True
theorem Qt.of {α:Type} {m:M α} {R:α→Prop} (h:Qm m R):Qt m:=h.weak fun _ _=>trivial
theorem Qt.bind {α β:Type} {m:M α} {k:α→M β} {S:β→Prop} (h:Qt m) (hk:∀x,Qm (k x) S):Qm (m.bind k) S:=Qm.bind h fun x _=>hk x
theorem vdh (x:Opd):Qt (opd x):=by
 cases x<;>first|exact Qm.getS _|exact Qm.pure trivial
theorem vk3:∀(xs:List Opd),Qt (opds xs)
 | []=>Qm.pure trivial
 |x::xs=>(vdh x).bind fun _=>(vk3 xs).bind fun _=>Qm.pure trivial
theorem vjt (x:Option Opd):Qt (bound x):=by
 cases x with
 |none=>exact Qm.pure trivial
 |some y=>
  refine (vdh y).bind fun u=> ?_;split
  ·exact Qm.pure trivial
  ·exact Qm.fail
theorem qeg (w:Option Nat) (v:TV):Qt (loadAt w v):=by unfold loadAt;(repeat' (first|exact Qm.pure trivial|exact Qm.fail|exact Qm.setS _ _|exact Qm.getS _|exact Qt.of (Qm.getN _)|exact Qt.of (Qm.liftO _)|(refine Qt.bind (Qt.of (Qm.getN _)) fun _=> ?_)|(refine Qt.bind (Qt.of (Qm.liftO _)) fun _=> ?_)|(refine Qt.bind (Qm.getS _) fun _=> ?_)|(refine Qt.bind (vdh _) fun _=> ?_)|(refine Qt.bind (vk3 _) fun _=> ?_)|(refine Qt.bind (vjt _) fun _=> ?_)|split))
theorem vss (v:TV):Qt (elems v):=by unfold elems;(repeat' (first|exact Qm.pure trivial|exact Qm.fail|exact Qm.setS _ _|exact Qm.getS _|exact Qt.of (Qm.getN _)|exact Qt.of (Qm.liftO _)|(refine Qt.bind (Qt.of (Qm.getN _)) fun _=> ?_)|(refine Qt.bind (Qt.of (Qm.liftO _)) fun _=> ?_)|(refine Qt.bind (Qm.getS _) fun _=> ?_)|(refine Qt.bind (vdh _) fun _=> ?_)|(refine Qt.bind (vk3 _) fun _=> ?_)|(refine Qt.bind (vjt _) fun _=> ?_)|split))
theorem qmc (e:Nat) (v:TV) (l h:Option Int):Qt (sliceAt e v l h):=by unfold sliceAt;(repeat' (first|exact Qm.pure trivial|exact Qm.fail|exact Qm.setS _ _|exact Qm.getS _|exact Qt.of (Qm.getN _)|exact Qt.of (Qm.liftO _)|(refine Qt.bind (Qt.of (Qm.getN _)) fun _=> ?_)|(refine Qt.bind (Qt.of (Qm.liftO _)) fun _=> ?_)|(refine Qt.bind (Qm.getS _) fun _=> ?_)|(refine Qt.bind (vdh _) fun _=> ?_)|(refine Qt.bind (vk3 _) fun _=> ?_)|(refine Qt.bind (vjt _) fun _=> ?_)|split))
theorem qrp (v:TV) (l h:Option Int):Qt (strAt v l h):=by unfold strAt;(repeat' (first|exact Qm.pure trivial|exact Qm.fail|exact Qm.setS _ _|exact Qm.getS _|exact Qt.of (Qm.getN _)|exact Qt.of (Qm.liftO _)|(refine Qt.bind (Qt.of (Qm.getN _)) fun _=> ?_)|(refine Qt.bind (Qt.of (Qm.liftO _)) fun _=> ?_)|(refine Qt.bind (Qm.getS _) fun _=> ?_)|(refine Qt.bind (vdh _) fun _=> ?_)|(refine Qt.bind (vk3 _) fun _=> ?_)|(refine Qt.bind (vjt _) fun _=> ?_)|split))
theorem qkz (o:Nat) (v:TV):Qt (fieldAt o v):=by unfold fieldAt;(repeat' (first|exact Qm.pure trivial|exact Qm.fail|exact Qm.setS _ _|exact Qm.getS _|exact Qt.of (Qm.getN _)|exact Qt.of (Qm.liftO _)|(refine Qt.bind (Qt.of (Qm.getN _)) fun _=> ?_)|(refine Qt.bind (Qt.of (Qm.liftO _)) fun _=> ?_)|(refine Qt.bind (Qm.getS _) fun _=> ?_)|(refine Qt.bind (vdh _) fun _=> ?_)|(refine Qt.bind (vk3 _) fun _=> ?_)|(refine Qt.bind (vjt _) fun _=> ?_)|split))
theorem ql6 (e m:Nat) (v:TV) (i:Int):Qt (indexAt e m v i):=by
 unfold indexAt;refine Qt.bind (vss _) fun _=> ?_
 (repeat' (first|exact Qm.pure trivial|exact Qm.fail|exact Qm.setS _ _|exact Qm.getS _|exact Qt.of (Qm.getN _)|exact Qt.of (Qm.liftO _)|(refine Qt.bind (Qt.of (Qm.getN _)) fun _=> ?_)|(refine Qt.bind (Qt.of (Qm.liftO _)) fun _=> ?_)|(refine Qt.bind (Qm.getS _) fun _=> ?_)|(refine Qt.bind (vdh _) fun _=> ?_)|(refine Qt.bind (vk3 _) fun _=> ?_)|(refine Qt.bind (vjt _) fun _=> ?_)|split))
theorem qlt (x:TV):Qm (toPV x) fun r=>r.2=false→nofz r.1:=by
 unfold toPV;split
 ·split
  ·exact Qm.pure fun _=>by simp [nofz]
  ·exact Qm.fail
 ·exact Qm.pure fun _=>by simp [nofz,vcg]
 ·exact Qm.pure fun h=>by cases h
 ·refine (Qm.getN _).bind fun n hn=> ?_;split
  ·rename_i q ver e es;refine Qt.bind (Qm.setN _ _ fun _ _ _ h=>by cases h) fun _=>Qm.pure fun hq=> ?_;simp only at hq;subst hq;simp only [nofz];exact hn _ _ _ rfl
  ·exact Qm.fail
 ·exact Qm.fail
theorem qav:∀(xs:List TV),Qm (toPVs xs) fun r=>r.2=false→∀c∈r.1,nofz c
 | []=>Qm.pure fun _=>by simp
 |x::xs=>by
  unfold toPVs;refine (qlt x).bind fun y hy=>(qav xs).bind fun ys hys=>Qm.pure fun hq=> ?_;simp only [Ad] at hq;intro c hc;cases hc with
  |head=>exact hy hq.1
  |tail _ hc=>exact hys hq.2 c hc
theorem vxc {x:TV} {y:PV} (h:atomPV x=some y):nofz y:=by
 unfold atomPV at h;split at h
 ·split at h
  ·cases h;simp [nofz]
  ·cases h
 ·cases h
theorem vrp:∀{xs:List TV} {ys:List PV},veh xs=some ys→∀y∈ys,nofz y
 | [],ys,h=>by cases h;simp
 |x::xs,ys,h=>by
  simp only [veh] at h;split at h
  ·rename_i y ys' h1 h2;cases h;intro c hc;cases hc with
   |head=>exact vxc h1
   |tail _ hc=>exact vrp h2 c hc
  ·cases h
theorem qk8 (flat:Bool) (x:TV):Qm (toEl flat x) fun r=>r.2=false→nofz r.1:=by
 unfold toEl;split
 ·split
  ·refine (Qm.liftO _).bind fun ys hys=>Qm.pure fun _=>vsp (vrp hys)
  ·exact (qav _).bind fun ys hys=>Qm.pure fun hq=>vsp (hys hq)
 ·split
  ·exact (Qm.liftO _).bind fun y hy=>Qm.pure fun _=>vxc hy
  ·exact qlt _
theorem qlq (flat:Bool) (m:Nat):∀(ps:List (Nat×Opd)) (q:Bool) (es:List PV),(q=false→vcg es)→Qm (bslM flat m ps q es) fun r=>r.2=false→vcg r.1
 | [],q,es,h=>Qm.pure h
 |(i,x)::ps,q,es,h=>by
  unfold bslM;refine (vdh x).bind fun v=>(qk8 flat v).bind fun y hy=> ?_;split
  ·refine qlq flat m ps _ _ fun hq=> ?_;simp only [Ad] at hq;refine vb4.2 fun c hc=> ?_;rcases Ae hc with hc|rfl
   ·exact vb4.1 (h hq.1) c hc
   ·exact hy hq.2
  ·exact Qm.fail
theorem qfk:∀(ps:List (Nat×Nat×Opd)) (cs:List TV),Qt (buildM ps cs)
 | [],cs=>Qm.pure trivial
 |(o,w,x)::ps,cs=>by
  unfold buildM;refine (vdh x).bind fun v=> ?_;split
  ·exact qfk ps _
  ·exact Qm.fail
theorem vu1 {es:List PV} {i:Nat} {x:PV} (h:vcg es) (hx:nofz x):vcg (es.set i x):=
 vb4.2 fun y hy=>(Ae hy).elim (vb4.1 h y) fun e=>e▸hx
theorem vpr:∀(p:List (Nat×Nat×Nat)) {es:List PV} {r:Nat×List PV},vcg es→dget es p=some r→vcg r.2
 | [],es,r,h,hr=>by simp [dget] at hr
 |(i,m,o)::p,es,r,h,hr=>by
  simp only [dget] at hr;split at hr
  ·cases hr
  ·rename_i x hx;split at hr
   ·split at hr
    ·rename_i e es' hc;have h1:vcg es':=by
      have:=vqv (vb4.1 h x (Ac hx)) _ (Ac hc);simpa only [nofz] using this
     split at hr
     ·cases hr;exact h1
     ·exact vpr _ h1 hr
    ·cases hr
   ·cases hr
theorem vna {c:PV} (hc:nofz c):∀(p:List (Nat×Nat×Nat)) {es es1:List PV},vcg es→dput es p c=some es1→vcg es1
 | [],es,es1,h,hr=>by simp [dput] at hr
 |(i,m,o)::p,es,es1,h,hr=>by
  simp only [dput] at hr;split at hr
  ·cases hr
  ·rename_i x hx;have hxn:=vb4.1 h x (Ac hx);split at hr
   ·split at hr
    ·cases hr
    ·rename_i c0 hc0;split at hr
     ·cases hr;exact vu1 h (vl3 hxn (by simpa using hc))
     ·split at hr
      ·rename_i e es';split at hr
       ·rename_i in' hin;cases hr;have h1:vcg es':=by
         have:=vqv hxn _ (Ac hc0);simpa only [nofz] using this
        exact vu1 h (vl3 hxn (by simpa only [List.mem_singleton,forall_eq,nofz] using vna hc _ h1 hin))
       ·cases hr
      ·cases hr
   ·cases hr
theorem qlx (b w:Nat) (x y:TV):Qt (storeAt b w x y):=by
 have box:∀id o,Qt (storeBox w id o y):=by
  intro id o;unfold storeBox;refine (Qm.getN _).bind fun n hn=> ?_;split
  ·split
   ·exact Qm.setN _ _ fun _ _ _ h=>by cases h
   ·exact Qm.fail
  ·exact Qm.fail
 unfold storeAt;split
 ·exact box _ _
 ·exact box _ _
 ·refine (qav _).bind fun ys hys=>(Qm.getN _).bind fun n hn=> ?_;split
  ·rename_i q ver e es;split
   ·rename_i x0 hx0;split
    ·refine Qm.setN _ _ fun ver' e' es' h=> ?_;simp only [Ab,Node.sl.injEq] at h;obtain ⟨hq,_,_,rfl⟩:=h;simp only [Ad] at hq;have hes:vcg es:=hn ver e es (by rw [hq.1]);refine vb4.2 fun c hc=> ?_;rcases Ae hc with hc|rfl
     ·exact vb4.1 hes c hc
     ·exact vl3 (vb4.1 hes x0 (Ac hx0)) (hys hq.2)
    ·exact Qm.fail
   ·exact Qm.fail
  ·exact Qm.fail
 ·refine (Qm.getN _).bind fun n hn=> ?_;split
  ·rename_i q ver e es;split
   ·unfold vpi;split
    ·rename_i e' es' ys hget hys;split
     ·rename_i x0 hx0;split
      ·split
       ·rename_i es1 hput;refine Qm.setN _ _ fun ver' e2 es2 h=> ?_;simp only [Ab,Node.sl.injEq] at h;obtain ⟨hq,_,_,rfl⟩:=h;have hes:vcg es:=hn ver e es (by rw [hq]);have he:=vpr _ hes hget;refine vna (c:= .sl e' (es'.set _ _)) ?_ _ hes hput;simp only [nofz];exact vu1 he (vl3 (vb4.1 he x0 (Ac hx0)) (vrp hys))
       ·exact Qm.fail
      ·exact Qm.fail
     ·exact Qm.fail
    ·exact Qm.fail
   ·exact Qm.fail
  ·exact Qm.fail
 ·exact Qm.fail
theorem qsg (b e:Nat) (x:TV):Qm (appTo b e x) fun r=>r.2=false→vcg r.1:=by
 unfold appTo;split
 ·split
  ·exact Qm.pure fun _=>by simp [vcg]
  ·exact Qm.fail
 ·refine (Qm.getN _).bind fun n hn=> ?_;split
  ·rename_i q ver e' es;split
   ·refine Qt.bind (Qm.setN _ _ fun _ _ _ h=>by cases h) fun _=>Qm.pure fun hq=> ?_;simp only at hq;subst hq;exact hn _ _ _ rfl
   ·exact Qm.fail
  ·exact Qm.fail
 ·rename_i id lo k;refine (Qm.getN _).bind fun n hn=> ?_;split
  ·rename_i q ver e' es;split
   ·split
    ·refine Qt.bind (Qm.setN _ _ fun _ _ _ h=>by cases h) fun _=>Qm.pure fun hq=> ?_;simp only at hq;subst hq;exact vb4.2 fun c hc=>vb4.1 (hn _ _ _ rfl) c (Ah hc)
    ·exact Qm.fail
   ·exact Qm.fail
  ·exact Qm.fail
 ·refine (Qm.getN _).bind fun n hn=> ?_;split
  ·rename_i q ver e' es;split
   ·unfold takeIn;split
    ·rename_i r es1 hg hp;split
     ·refine Qt.bind (Qm.setN _ _ fun _ _ _ h=> ?_) fun _=>Qm.pure fun hq=> ?_
      ·simp only [Ab,Node.sl.injEq] at h;obtain ⟨hq,_,_,rfl⟩:=h;exact vna (by simp only [nofz]) _ (hn ver e' es (by rw [hq])) hp
      ·simp only at hq;subst hq;exact vpr _ (hn _ _ _ rfl) hg
     ·exact Qm.fail
    ·exact Qm.fail
   ·exact Qm.fail
  ·exact Qm.fail
 ·exact Qm.fail
theorem qb9 (es:List PV):vcg (es.map PV.cpy):=vb4.2 fun c hc=>by
 obtain ⟨x,_,rfl⟩:=Aj.1 hc;exact qdr x
theorem qq2 (b:Nat) (x:TV):Qt (pull1 b x):=by
 unfold pull1;split
 ·refine (Qm.getN _).bind fun n hn=> ?_;split
  ·rename_i q ver' e' es;split
   ·unfold pullK;split
    ·rename_i r hg;refine Qm.bind (R:=fun z=>z.2=false→vcg z.1) ?_ fun z hz=>Qt.bind (Qm.setN _ _ fun ver e es h=> ?_) fun _=>Qm.pure trivial
     ·unfold takeIn;split
      ·rename_i r1 es1 hg2 hp;cases hg2;split
       ·refine Qt.bind (Qm.setN _ _ fun _ _ _ h=> ?_) fun _=>Qm.pure fun hq=> ?_
        ·simp only [Ab,Node.sl.injEq] at h;obtain ⟨hq,_,_,rfl⟩:=h;exact vna (by simp only [nofz]) _ (hn ver' e' es (by rw [hq])) hp
        ·simp only at hq;subst hq;exact vpr _ (hn _ _ _ rfl) hg
       ·exact Qm.fail
      ·exact Qm.fail
     ·simp only [Ab,Node.sl.injEq] at h;obtain ⟨hq,_,_,rfl⟩:=h;exact hz hq
    ·exact Qm.fail
   ·exact Qm.fail
  ·exact Qm.fail
 ·exact Qm.pure trivial
theorem qhl (b:Nat):∀(xs:List TV),Qt (pullL b xs)
 | []=>Qm.pure trivial
 |x::xs=>by
  unfold pullL;split
  ·exact Qt.bind (qq2 _ _) fun _=>Qm.pure trivial
  ·exact Qt.bind (qhl b xs) fun _=>Qm.pure trivial
theorem qe7 (b:Nat) (u v:TV):Qt (pullTo b u v):=by
 unfold pullTo;split
 ·exact Qt.bind (qhl _ _) fun _=>Qm.pure trivial
 ·exact Qm.pure trivial
theorem qu5 (b:Nat) (flat:Bool) (m:Nat) (ps:List (Nat×Opd)) (es:List PV) (h:vcg es):Qm (bslQ b flat m ps es) fun r=>r.2=false→vcg r.1:=by
 unfold bslQ;split
 ·refine Qt.bind (vdh _) fun v=>Qt.bind (qe7 _ _ _) fun v=>(qk8 _ v).bind fun y hy=> ?_;split
  ·refine Qm.pure fun hq=>vb4.2 fun c hc=> ?_;rcases Ae hc with hc|rfl
   ·exact vb4.1 h c hc
   ·exact hy hq
  ·exact Qm.fail
 ·exact qlq _ _ _ _ _ fun _=>h
theorem qtd (e:Nat) (mv:Bool) (y:TV):Qm (appOf e mv y) fun r=>r.2=false→vcg r.1:=by
 unfold appOf;split
 ·refine (Qm.getN _).bind fun n hn=> ?_;split
  ·rename_i q ver e' es;split
   ·split
    ·refine Qt.bind (Qm.setN _ _ fun _ _ _ h=>by cases h) fun _=>Qm.pure fun hq=> ?_;simp only at hq;subst hq;exact hn _ _ _ rfl
    ·exact Qm.pure fun _=>qb9 _
   ·exact Qm.fail
  ·exact Qm.fail
 ·refine Qt.bind (vss _) fun r=> ?_;split
  ·unfold cpyOf;split
   ·exact Qm.pure fun h=>by cases h
   ·exact Qm.pure fun _=>qb9 _
  ·exact Qm.fail
theorem qme (b e bytes:Nat) (mv:Bool) (x y:TV):Qt (appendM b e bytes mv x y):=by
 unfold appendM;refine (qsg b e x).bind fun xs hxs=>(qtd e mv y).bind fun ys hys=> ?_;split
 ·refine Qt.bind (Qm.setN _ _ fun ver' e' es' h=> ?_) fun _=>Qm.pure trivial;simp only [Ab,Node.sl.injEq] at h;obtain ⟨hq,_,_,rfl⟩:=h;simp only [Ad] at hq;refine vb4.2 fun c hc=> ?_;rcases Ao.1 hc with hc|hc
  ·exact vb4.1 (hxs hq.1) c hc
  ·exact vb4.1 (hys hq.2) c hc
 ·exact Qm.fail
theorem vvv:∀{es:List PV},vcg es↔∀x∈es,nofz x
 | []=>by simp [vcg]
 |e::es=>by simp [vcg,vvv (es:=es)]
theorem qcl {es fs:List PV} (h:∀x∈fs,x∈es) (hn:vcg es):vcg fs:=vvv.2 fun x hx=>vvv.1 hn x (h x hx)
mutual
theorem qty:∀{x:PV},nfz x=true→nofz x
 | .a _,_=>by simp [nofz]
 | .sl _ es,h=>by simp only [nfz] at h;simp only [nofz];exact vrq h
 | .fz _ _,h=>by simp [nfz] at h
 | .st cs,h=>by simp only [nfz] at h;simp only [nofz];exact vrq h
 | .un,_=>by simp [nofz]
theorem vrq:∀{l:List PV},nfzL l=true→vcg l
 | [],_=>by simp [vcg]
 |c::cs,h=>by simp only [nfzL,Ak] at h;simp only [vcg];exact ⟨qty h.1,vrq h.2⟩
end
mutual
theorem qem:∀(k:Nat) (x:TV),Qm (pack false k x) vbn
 |0,x=>by unfold pack;exact Qm.fail
 |k+1,x=>by
  unfold pack;split
  ·exact Qm.pure (by simp [vbn])
  ·exact Qm.pure (by simp [vbn,vcg])
  ·exact Qm.fail
  ·exact (vs6 k _).bind fun ys h=>Qm.pure (by simp only [vbn];exact h)
  ·exact (vs6 k _).bind fun xs h=>(vs6 k _).bind fun ys h'=>Qm.pure (by simp only [vbn];exact ⟨h,h'⟩)
  ·exact (qem k _).bind fun y h=>Qm.pure (by simp only [vbn];exact h)
  ·refine (Qm.getN _).bind fun n hn=> ?_;split
   ·rename_i q ver e es;cases q with
    |true=>
     cases hf:nfzL es with
     |false=>simp only [badFz,hf,Ap,Bool.and_self,if_true];exact Qm.fail
     |true=>
      simp only [badFz,hf,Bool.not_true,Bool.and_false,Bool.false_eq_true,if_false];exact Qt.bind (Qm.setN _ _ fun _ _ _ h=>by cases h) fun _=>Qm.pure (by simp only [vbn];exact fun _=>vrq hf)
    |false=>exact Qt.bind (Qm.setN _ _ fun _ _ _ h=>by cases h) fun _=>Qm.pure (by simp only [vbn];exact fun _=>hn _ _ _ rfl)
   ·split
    ·exact Qm.fail
    ·exact Qt.bind (Qm.setN _ _ fun _ _ _ h=>by cases h) fun _=>(vs6 k _).bind fun ys h=>Qm.pure (by simp only [vbn];exact h)
   ·exact Qm.pure (by simp [vbn])
  ·exact Qm.pure (by simp [vbn])
  ·refine (Qm.getN _).bind fun n hn=> ?_;split
   ·rename_i q ver e es;cases q with
    |true=>simp only [Bool.true_and,Ap,true_or,if_true];exact Qm.fail
    |false=>
     split
     ·exact Qm.fail
     ·exact Qt.bind (Qm.setN _ _ fun _ _ _ h=>by cases h) fun _=>Qm.pure (by simp only [vbn];exact fun _=>qcl (fun x hx=>Ah (Am hx)) (hn _ _ _ rfl))
   ·exact Qm.fail
  ·exact Qm.fail
theorem vs6:∀(k:Nat) (xs:List TV),Qm (vci false k xs) vaz
 |0,xs=>by unfold vci;exact Qm.fail
 |k+1,[]=>by unfold vci;exact Qm.pure (by simp [vaz])
 |k+1,x::xs=>by
  unfold vci;exact (qem k x).bind fun y h=>(vs6 k xs).bind fun ys h'=>Qm.pure (by simp only [vaz];exact ⟨h,h'⟩)
end
mutual
theorem qbb (fz:Bool):∀(k:Nat) (x:TV),Qt (pack fz k x)
 |0,x=>by unfold pack;exact Qm.fail
 |k+1,x=>by
  unfold pack;split
  ·exact Qm.pure trivial
  ·exact Qm.pure trivial
  ·split
   ·exact Qm.pure trivial
   ·exact Qm.fail
  ·exact (vrw fz k _).bind fun ys=>Qm.pure trivial
  ·exact (vrw fz k _).bind fun xs=>(vrw fz k _).bind fun ys=>Qm.pure trivial
  ·exact (qbb fz k _).bind fun y=>Qm.pure trivial
  ·refine (Qm.getN _).bind fun n hn=> ?_;split
   ·split
    ·exact Qm.fail
    ·exact Qt.bind (Qm.setN _ _ fun _ _ _ h=>by cases h) fun _=>Qm.pure trivial
   ·split
    ·exact Qm.fail
    ·exact Qt.bind (Qm.setN _ _ fun _ _ _ h=>by cases h) fun _=>(vrw fz k _).bind fun ys=>Qm.pure trivial
   ·exact Qm.pure trivial
  ·exact Qm.pure trivial
  ·refine (Qm.getN _).bind fun n hn=> ?_;split
   ·split
    ·exact Qm.fail
    ·exact Qt.bind (Qm.setN _ _ fun _ _ _ h=>by cases h) fun _=>Qm.pure trivial
   ·exact Qm.fail
  ·exact Qm.fail
theorem vrw (fz:Bool):∀(k:Nat) (xs:List TV),Qt (vci fz k xs)
 |0,xs=>by unfold vci;exact Qm.fail
 |k+1,[]=>by unfold vci;exact Qm.pure trivial
 |k+1,x::xs=>by
  unfold vci;exact (qbb fz k x).bind fun y=>(vrw fz k xs).bind fun ys=>Qm.pure trivial
end
mutual
theorem vyh (z:Bool):∀(k n:Nat) (x:TV),Qm (vbf z k n x) vbn
 |0,n,x=>by unfold vbf;exact Qm.fail
 |k+1,n,x=>by
  unfold vbf;split
  ·exact Qm.pure (by simp [vbn])
  ·exact Qm.pure (by simp [vbn])
  ·exact Qm.pure (by simp [vbn])
  ·exact (vnf z k _).bind fun ys h=>Qm.pure (by simp only [vbn];exact h)
  ·exact (vnf z k _).bind fun xs h=>(vnf z k _).bind fun ys h'=>Qm.pure (by simp only [vbn];exact ⟨h,h'⟩)
  ·exact (vyh z k _ _).bind fun y h=>Qm.pure (by simp only [vbn];exact h)
  ·exact Qm.pure (by simp [vbn])
  ·split
   ·exact Qm.fail
   ·refine (Qm.getN _).bind fun n hn=> ?_;split
    ·exact Qm.pure (by simp [vbn])
    ·exact (vnf z k _).bind fun ys h=>Qm.pure (by simp only [vbn];exact h)
    ·exact Qm.fail
  ·split
   ·exact Qm.fail
   ·refine (Qm.getN _).bind fun n hn=> ?_;split
    ·exact Qm.pure (by simp [vbn])
    ·exact Qm.fail
  ·split
   ·exact Qm.fail
   ·refine (Qm.getN _).bind fun n hn=> ?_;split
    ·split
     ·split
      ·exact Qm.pure (by simp [vbn])
      ·exact Qm.fail
     ·exact Qm.fail
    ·exact Qm.fail
  ·split
   ·exact Qm.fail
   ·refine (Qm.getN _).bind fun n hn=> ?_;split
    ·split
     ·exact (vnf z k _).bind fun ys h=>Qm.pure (by simp only [vbn];exact h)
     ·exact Qm.fail
    ·exact Qm.fail
  ·exact Qm.fail
theorem vnf (z:Bool):∀(k:Nat) (xs:List TV),Qm (vbr z k xs) vaz
 |0,xs=>by unfold vbr;exact Qm.fail
 |k+1,[]=>by unfold vbr;exact Qm.pure (by simp [vaz])
 |k+1,x::xs=>by
  unfold vbr;exact (vyh z k 0 x).bind fun y h=>(vnf z k xs).bind fun ys h'=>Qm.pure (by simp only [vaz];exact ⟨h,h'⟩)
end
theorem qe6 (keeps:Bool):∀(ms:List Md) (xs:List TV),Qm (lend keeps ms xs) fun ys=>keeps=false→vaz ys
 | [],[]=>by unfold lend;exact Qm.pure fun _=>by simp [vaz]
 | .ro _::ms,_::xs=>by
  unfold lend;exact (qe6 keeps ms xs).bind fun ys h=>Qm.pure fun hk=>by simp only [vaz,vbn,true_and];exact h hk
 | .mut _::ms,x::xs=>by
  unfold lend;have hp:Qm (lend0 keeps x) fun y=>keeps=false→vbn y:=by
   unfold lend0;split
   ·exact Qm.pure fun _=>by simp only [vbn]
   cases keeps with
   |false=>exact (qem depth x).weak fun y h _=>h
   |true=>exact (qbb true depth x).weak fun y _ h=>by cases h
  exact hp.bind fun y h1=>(qe6 keeps ms xs).bind fun ys h=>Qm.pure fun hk=>by simp only [vaz];exact ⟨h1 hk,h hk⟩
 | [],_::_=>by unfold lend;exact Qm.fail
 | .ro _::_,[]=>by unfold lend;exact Qm.fail
 | .mut _::_,[]=>by unfold lend;exact Qm.fail
theorem qrq (keeps:Bool) (v:Nat) (x:TV) (y:CV) (hy:keeps=false→vbn y):Qm (lend1 keeps v x y) fun y=>keeps=false→vbn y:=by
 unfold lend1;split
 ·refine (Qm.getN _).bind fun n hn=> ?_;split
  ·rename_i q ver' e es;split
   ·exact Qm.fail
   ·rename_i hcond;split
    ·rename_i r es1 hg hp;refine Qm.bind (Qm.setN _ _ fun ver e0 es0 hh=> ?_) fun _ _=>Qm.pure fun hk=> ?_
     ·simp only [Ab,Node.sl.injEq] at hh;obtain ⟨hq,_,_,rfl⟩:=hh;subst hq;exact vna (by simp only [nofz]) _ (hn _ _ _ rfl) hp
     ·have hq:q=false:=by
       cases q with
       |false=>rfl
       |true=>exact absurd (.inl (by rw [hk];rfl)) hcond
      subst hq;simp only [vbn];exact fun _=>vpr _ (hn _ _ _ rfl) hg
    ·exact Qm.fail
  ·exact Qm.fail
 ·exact Qm.pure hy
theorem qbk (keeps:Bool) (v:Nat):∀(ms:List Md) (xs:List TV) (ys:List CV),(keeps=false→vaz ys)→Qm (vbo keeps v ms xs ys) fun ys=>keeps=false→vaz ys
 | [],[],[],h=>by unfold vbo;exact Qm.pure fun _=>by simp [vaz]
 | .ro _::ms,_::xs,y::ys,h=>by
  unfold vbo;exact (qbk keeps v ms xs ys fun hk=>by have:=h hk;simp only [vaz] at this;exact this.2).bind fun ys' h'=>Qm.pure fun hk=>by
   have:=h hk;simp only [vaz] at this⊢;exact ⟨this.1,h' hk⟩
 | .mut _::ms,x::xs,y::ys,h=>by
  unfold vbo;exact (qrq keeps v x y fun hk=>by have:=h hk;simp only [vaz] at this;exact this.1).bind fun y' hy'=>(qbk keeps v ms xs ys fun hk=>by have:=h hk;simp only [vaz] at this;exact this.2).bind fun ys' h'=>Qm.pure fun hk=>by
   simp only [vaz];exact ⟨hy' hk,h' hk⟩
 | [],[],_::_,_=>by unfold vbo;exact Qm.fail
 | [],_::_,_,_=>by unfold vbo;exact Qm.fail
 | .ro _::_,[],_,_=>by unfold vbo;exact Qm.fail
 | .ro _::_,_::_,[],_=>by unfold vbo;exact Qm.fail
 | .mut _::_,[],_,_=>by unfold vbo;exact Qm.fail
 | .mut _::_,_::_,[],_=>by unfold vbo;exact Qm.fail
theorem qhd (keeps:Bool) (v:Nat) (ms:List Md) (xs:List TV):Qm (lendA keeps v ms xs) fun ys=>keeps=false→vaz ys:=
 (qe6 keeps ms xs).bind fun ys h=>qbk keeps v ms xs ys h
theorem vze (keeps:Bool):∀(ms:List Md) (xs:List TV) (ys:List CV),(keeps=false→vaz ys)→Qm (show_ keeps ms xs ys) fun cs=>keeps=false→vaz cs
 | [],[],[],_=>by unfold show_;exact Qm.pure fun _=>by simp [vaz]
 | .ro n::ms,x::xs,y::ys,h=>by
  unfold show_;exact (vyh keeps depth n x).bind fun y' h1=>(vze keeps ms xs ys fun hk=>by have:=h hk;simp only [vaz] at this;exact this.2).bind fun ys' h2=>Qm.pure fun hk=>by simp only [vaz];exact ⟨h1,h2 hk⟩
 | .mut _::ms,_::xs,y::ys,h=>by
  unfold show_;exact (vze keeps ms xs ys fun hk=>by have:=h hk;simp only [vaz] at this;exact this.2).bind fun ys' h2=>Qm.pure fun hk=>by
   have:=h hk;simp only [vaz] at this⊢;exact ⟨this.1,h2 hk⟩
 | [],[],_::_,_=>by unfold show_;exact Qm.fail
 | [],_::_,_,_=>by unfold show_;exact Qm.fail
 | .ro _::_,[],_,_=>by unfold show_;exact Qm.fail
 | .ro _::_,_::_,[],_=>by unfold show_;exact Qm.fail
 | .mut _::_,[],_,_=>by unfold show_;exact Qm.fail
 | .mut _::_,_::_,[],_=>by unfold show_;exact Qm.fail
mutual
theorem qe3 (q:Bool):∀(c:CV) (b:Nat),(q=false→vbn c)→Qt (vaw q b c)
 | .a _,b,_=>by unfold vaw;exact Qm.pure trivial
 | .sl z e es,b,h=>by
  unfold vaw;split
  ·exact Qm.pure trivial
  ·rename_i hz;refine Qt.bind (Qm.setN _ _ fun ver' e' es' hh=> ?_) fun _=>Qm.pure trivial;simp only [Ab,Node.sl.injEq] at hh;obtain ⟨hq,_,_,rfl⟩:=hh;have:=h hq;simp only [vbn] at this;exact this (by simpa using hz)
 | .bx z cs,b,h=>by
  unfold vaw;exact (vg4 q cs _ fun hq=>by have:=h hq;simp only [vbn] at this;exact this).bind fun r=>Qt.bind (Qm.setN _ _ fun _ _ _ h=>by cases h) fun _=>Qm.pure trivial
 | .st cs,b,h=>by
  unfold vaw;exact (vg4 q cs _ fun hq=>by have:=h hq;simp only [vbn] at this;exact this).bind fun r=>Qm.pure trivial
 | .tp cs,b,h=>by
  unfold vaw;exact (vg4 q cs _ fun hq=>by have:=h hq;simp only [vbn] at this;exact this).bind fun r=>Qm.pure trivial
 | .fn f fs cs,b,h=>by
  unfold vaw;exact (vg4 q fs _ fun hq=>by have:=h hq;simp only [vbn] at this;exact this.1).bind fun r=>(vg4 q cs _ fun hq=>by have:=h hq;simp only [vbn] at this;exact this.2).bind fun r=>Qm.pure trivial
 | .ic t c,b,h=>by
  unfold vaw;exact (qe3 q c _ fun hq=>by have:=h hq;simp only [vbn] at this;exact this).bind fun r=>Qm.pure trivial
 | .un,b,_=>by unfold vaw;exact Qm.pure trivial
theorem vg4 (q:Bool):∀(cs:List CV) (b:Nat),(q=false→vaz cs)→Qt (vbe q b cs)
 | [],b,_=>by unfold vbe;exact Qm.pure trivial
 |c::cs,b,h=>by
  unfold vbe;exact (qe3 q c _ fun hq=>by have:=h hq;simp only [vaz] at this;exact this.1).bind fun r=>(vg4 q cs _ fun hq=>by have:=h hq;simp only [vaz] at this;exact this.2).bind fun r=>Qm.pure trivial
end
mutual
theorem vvg (q:Bool) (V:Nat):∀(x:TV) (c0 y:CV) (b:Nat),(q=false→vbn y)→Qt (vae q V b x c0 y)
 | .rf id,c0,y,b,h=>by
  cases c0 with
  |sl z0 e0 es0=>
   cases y with
   |sl z e es=>
    cases z0<;>cases z<;>simp only [vae]
    ·refine (Qm.getN _).bind fun n _=> ?_;split
     ·refine Qt.bind (Qm.setN _ _ fun ver' e' es' hh=> ?_) fun _=>Qm.pure trivial;simp only [Ab,Node.sl.injEq] at hh;obtain ⟨hq,_,_,rfl⟩:=hh;have:=h hq;simp only [vbn] at this;exact this trivial
     ·exact Qm.fail
    all_goals exact Qm.pure trivial
   |_=>simp only [vae];exact Qm.pure trivial
  |bx z0 cs0=>
   cases y with
   |bx z cs=>
    cases z0<;>cases z<;>simp only [vae]
    ·refine (Qm.getN _).bind fun n _=> ?_;split
     ·exact (vg4 q cs _ fun hq=>by have:=h hq;simp only [vbn] at this;exact this).bind fun r=>Qt.bind (Qm.setN _ _ fun _ _ _ h=>by cases h) fun _=>Qm.pure trivial
     ·exact Qm.fail
    all_goals exact Qm.pure trivial
   |_=>simp only [vae];exact Qm.pure trivial
  |_=>simp only [vae];exact Qm.pure trivial
 | .fn f fs cs,c0,y,b,h=>by
  cases c0 with
  |fn f0 fs0 cs0=>
   cases y with
   |fn f1 fs1 cs1=>
    simp only [vae];exact (vqu q V fs fs0 fs1 b fun hq=>by have:=h hq;simp only [vbn] at this;exact this.1).bind fun b1=>vqu q V cs cs0 cs1 b1 fun hq=>by have:=h hq;simp only [vbn] at this;exact this.2
   |_=>simp only [vae];exact Qm.pure trivial
  |_=>simp only [vae];exact Qm.pure trivial
 | .st cs,c0,y,b,h=>by
  cases c0 with
  |st cs0=>
   cases y with
   |st cs1=>
    simp only [vae];exact vqu q V cs cs0 cs1 b fun hq=>by have:=h hq;simp only [vbn] at this;exact this
   |_=>simp only [vae];exact Qm.pure trivial
  |_=>simp only [vae];exact Qm.pure trivial
 | .ic t x,c0,y,b,h=>by
  cases c0 with
  |ic t0 x0=>
   cases y with
   |ic t1 x1=>
    simp only [vae];exact vvg q V x x0 x1 b fun hq=>by have:=h hq;simp only [vbn] at this;exact this
   |_=>simp only [vae];exact Qm.pure trivial
  |_=>simp only [vae];exact Qm.pure trivial
 | .a _,c0,y,b,h=>by simp only [vae];exact Qm.pure trivial
 | .nl _,c0,y,b,h=>by simp only [vae];exact Qm.pure trivial
 | .ri _ _ _,c0,y,b,h=>by simp only [vae];exact Qm.pure trivial
 | .sb _ _ _,c0,y,b,h=>by simp only [vae];exact Qm.pure trivial
 | .ad _ _,c0,y,b,h=>by simp only [vae];exact Qm.pure trivial
 | .ea _ _ _ _,c0,y,b,h=>by simp only [vae];exact Qm.pure trivial
 | .ei _ _ _ _ _ _,c0,y,b,h=>by simp only [vae];exact Qm.pure trivial
 | .sz _ _,c0,y,b,h=>by simp only [vae];exact Qm.pure trivial
 | .ez _ _,c0,y,b,h=>by simp only [vae];exact Qm.pure trivial
 | .tp _,c0,y,b,h=>by simp only [vae];exact Qm.pure trivial
 | .un,c0,y,b,h=>by simp only [vae];exact Qm.pure trivial
theorem vqu (q:Bool) (V:Nat):∀(xs:List TV) (cs0 ys:List CV) (b:Nat),(q=false→vaz ys)→Qt (vbi q V b xs cs0 ys)
 | [],cs0,ys,b,h=>by simp only [vbi];exact Qm.pure trivial
 |x::xs,[],ys,b,h=>by simp only [vbi];exact Qm.pure trivial
 |x::xs,c0::cs0,[],b,h=>by simp only [vbi];exact Qm.pure trivial
 |x::xs,c0::cs0,y::ys,b,h=>by
  simp only [vbi];exact (vvg q V x c0 y b fun hq=>by have:=h hq;simp only [vaz] at this;exact this.1).bind fun b1=>vqu q V xs cs0 ys b1 fun hq=>by have:=h hq;simp only [vaz] at this;exact this.2
end
theorem qsn (q:Bool) (V:Nat) (x:TV) (c0 y:CV) (b:Nat) (h:q=false→vbn y):Qt (back1 q V b x c0 y):=by
 unfold back1;split
 ·split
  ·refine (Qm.getN _).bind fun n hn=> ?_;split
   ·split
    ·rename_i q0 ver e es _ _ es1 hat hput;refine Qt.bind (Qm.setN _ _ fun ver' e0 es0 hh=> ?_) fun _=>Qm.pure trivial;simp only [Ab,Node.sl.injEq,Ad] at hh;obtain ⟨⟨hq0,hq⟩,_,_,rfl⟩:=hh;subst hq0;have:=h hq;simp only [vbn] at this;exact vna (by simp only [nofz];exact this trivial) _ (hn _ _ _ rfl) hput
    ·exact Qm.fail
   ·exact Qm.fail
  ·exact Qm.fail
 ·exact vvg q V x c0 y b h
theorem vtb (q:Bool) (V:Nat):∀(ms:List Md) (xs:List TV) (cs fs:List CV) (b:Nat),(q=false→vaz fs)→Qt (vaj q V b ms xs cs fs)
 | [],[],[],[],b,h=>by simp only [vaj];exact Qm.pure trivial
 | .ro _::ms,x::xs,c::cs,fs,b,h=>by simp only [vaj];exact vtb q V ms xs cs fs b h
 | .mut _::ms,x::xs,c::cs,f::fs,b,h=>by
  simp only [vaj];exact (qsn q V x c f b fun hq=>by have:=h hq;simp only [vaz] at this;exact this.1).bind fun b1=>vtb q V ms xs cs fs b1 fun hq=>by have:=h hq;simp only [vaz] at this;exact this.2
 | [],_::_,_,_,b,h=>by simp only [vaj];exact Qm.fail
 | [],[],_::_,_,b,h=>by simp only [vaj];exact Qm.fail
 | [],[],[],_::_,b,h=>by simp only [vaj];exact Qm.fail
 | .ro _::_,[],_,_,b,h=>by simp only [vaj];exact Qm.fail
 | .ro _::_,_::_,[],_,b,h=>by simp only [vaj];exact Qm.fail
 | .mut _::_,[],_,_,b,h=>by simp only [vaj];exact Qm.fail
 | .mut _::_,_::_,[],_,b,h=>by simp only [vaj];exact Qm.fail
 | .mut _::_,_::_,_::_,[],b,h=>by simp only [vaj];exact Qm.fail
theorem vum:∀{cs ds:List CV},vaz (cs++ds)↔vaz cs∧vaz ds
 | [],ds=>by simp [vaz]
 |c::cs,ds=>by simp [vaz,vum (cs:=cs),and_assoc]
def Nofz (g:Option Callee):Prop:=∀c,g=some c→c.keeps=false→∀cs rs fs,vaz cs→c.go cs=some (rs,fs)→vaz (rs++fs)
theorem qa3 {g:Option Callee} (hg:Nofz g) (b:Nat) (xs:List TV):Qt (callM g b xs):=by
 cases g with
 |none=>exact Qm.fail
 |some c=>
  simp only [callM];refine (qhd c.keeps (b+100) c.modes xs).bind fun ps hps=>(vze c.keeps c.modes xs ps hps).bind fun cs hcs=> ?_;cases hgo:c.go cs with
  |none=>exact Qm.fail
  |some rf=>
   obtain ⟨rs,fs⟩:=rf;have hall:c.keeps=false→vaz rs∧vaz fs:=fun hk=>vum.1 (hg c rfl hk cs rs fs (hcs hk) hgo);refine (vtb c.keeps (b+100) c.modes xs cs fs b fun hk=>(hall hk).2).bind fun b'=> ?_;split
   ·split
    ·exact Qt.bind (Qt.of (Qm.liftO _)) fun ts=>Qm.pure trivial
    ·exact Qm.fail
   unfold vdv;refine (vg4 c.keeps rs b' fun hk=>(hall hk).1).bind fun r=> ?_;split
   ·exact Qm.pure trivial
   ·exact Qm.fail
theorem vvf (d:Option Nat) (v:TV):Qt (putO d v):=by
 cases d with
 |none=>exact Qm.pure trivial
 |some d=>exact Qm.setS _ _
theorem qr6 (c:Option Callee) (vs:List TV) (tv:TV):Qt (alsIn c vs tv):=by
 unfold alsIn;split
 ·split
  ·refine (Qm.getN _).bind fun n hn=> ?_;split
   ·exact Qm.setN _ _ fun _ _ _ h=>by cases h
   ·exact Qm.fail
  ·exact Qm.fail
 ·exact Qm.fail
theorem qdy (q:Bool) (ts:List TV):Qt (alsOut q ts):=by
 unfold alsOut;split
 ·split
  ·refine (Qm.getN _).bind fun n hn=> ?_;split
   ·refine (Qm.getS _).bind fun x _=> ?_;split
    ·split
     ·exact Qm.setN _ _ fun _ _ _ h=>by cases h
     ·exact Qm.fail
    ·exact Qm.fail
   ·exact Qm.fail
  ·exact Qm.fail
 ·exact Qm.pure trivial
theorem qk6 {Φ:Nat→Option Callee} (hΦ:∀f,Nofz (Φ f)) (b:Nat) (op:VOp):Qt (exec Φ b op):=by
 cases op with
 |alloc d zs=>
  simp only [exec];split
  ·exact Qm.fail
  ·exact Qt.bind (Qm.setN _ _ fun _ _ _ h=>by cases h) fun _=>Qm.setS _ _
 |box d x=>
  simp only [exec];refine Qt.bind (vdh _) fun v=>Qt.bind (Qt.of (Qm.liftO _)) fun cs=> ?_;split
  ·exact Qm.fail
  ·exact Qt.bind (Qm.setN _ _ fun _ _ _ h=>by cases h) fun _=>Qm.setS _ _
 |build d zs ps=>simp only [exec];exact (qfk _ _).bind fun cs=>Qm.setS _ _
 |bsl d e m zs n ps=>
  simp only [exec];refine (qu5 _ _ _ _ _ (vb4.2 fun c hc=>by rw [(An.1 hc).2];exact vxf _ _)).bind fun es hes=> ?_;refine Qt.bind (Qm.setN _ _ fun ver' e' es' hh=> ?_) fun _=>Qm.setS _ _;simp only [Ab,Node.sl.injEq] at hh;obtain ⟨hq,_,_,rfl⟩:=hh;exact hes hq
 |load d w x=>simp only [exec];exact Qt.bind (vdh _) fun v=>(qeg _ _).bind fun _=>Qm.setS _ _
 |store w x y=>simp only [exec];exact Qt.bind (vdh _) fun u=>Qt.bind (vdh _) fun v=>Qt.bind (qe7 _ _ _) fun v=>qlx _ _ _ _
 |slc0 d e x=>
  simp only [exec];refine Qt.bind (vdh _) fun u=>Qt.bind (vss _) fun r=> ?_;split
  ·exact Qt.bind (Qm.setN _ _ fun ver' e' es' hh=>by simp only [Ab,Node.sl.injEq] at hh;obtain ⟨_,_,_,rfl⟩:=hh;exact vb4.2 (by simp)) fun _=>Qm.setS _ _
  ·exact Qm.fail
 |s2b d e x=>
  simp only [exec];refine Qt.bind (vdh _) fun u=> ?_;split
  ·split
   ·refine Qt.bind (Qm.setN _ _ fun ver' e' es' hh=> ?_) fun _=>Qm.setS _ _;simp only [Ab,Node.sl.injEq] at hh;obtain ⟨_,_,_,rfl⟩:=hh;exact vb4.2 fun c hc=>by obtain ⟨y,_,rfl⟩:=Aj.1 hc;simp only [nofz]
   ·exact Qm.fail
  ·exact Qm.fail
 |mks d e bytes zs x=>
  simp only [exec];refine Qt.bind (vdh _) fun u=> ?_;split
  ·split
   ·refine Qt.bind (Qm.setN _ _ fun ver' e' es' hh=> ?_) fun _=>Qm.setS _ _;simp only [Ab,Node.sl.injEq] at hh;obtain ⟨_,_,_,rfl⟩:=hh;exact vb4.2 fun c hc=>by rw [(An.1 hc).2];exact vxf _ _
   ·exact Qm.fail
  ·exact Qm.fail
 |slc d e x lo hi=>
  simp only [exec];exact Qt.bind (vdh _) fun v=>Qt.bind (vjt _) fun l=>Qt.bind (vjt _) fun h=>(qmc _ _ _ _).bind fun _=>Qm.setS _ _
 |sslc d x lo hi=>
  simp only [exec];exact Qt.bind (vdh _) fun v=>Qt.bind (vjt _) fun l=>Qt.bind (vjt _) fun h=>(qrp _ _ _).bind fun _=>Qm.setS _ _
 |fad d x off=>simp only [exec];exact Qt.bind (vdh _) fun v=>(qkz _ _).bind fun _=>Qm.setS _ _
 |iad d e m x i=>
  simp only [exec];refine Qt.bind (vdh _) fun v=>Qt.bind (vdh _) fun u=> ?_;split
  ·exact (ql6 _ _ _ _).bind fun _=>Qm.setS _ _
  ·exact Qm.fail
 |len d x=>simp only [exec];exact Qt.bind (vdh _) fun v=>(vss _).bind fun _=>Qm.setS _ _
 |app d e bytes mv x y=>simp only [exec];exact Qt.bind (vdh _) fun u=>Qt.bind (vdh _) fun v=>(qme _ _ _ _ _ _).bind fun _=>Qm.setS _ _
 |call d f xs=>simp only [exec];exact Qt.bind (vk3 _) fun vs=>(qa3 (hΦ f) _ _).bind fun _=>vvf _ _
 |cala d f xs=>
  simp only [exec];exact Qt.bind (vk3 _) fun vs=>(qa3 (hΦ f) _ _).bind fun tv=>Qt.bind (qr6 _ _ _) fun _=>vvf _ _
 |calv d f xs=>
  simp only [exec];refine Qt.bind (vdh _) fun g=> ?_;split
  ·exact Qt.bind (vk3 _) fun vs=>(qa3 (hΦ _) _ _).bind fun _=>vvf _ _
  ·exact Qm.fail
 |b2s d e x=>
  simp only [exec];refine Qt.bind (vdh _) fun v=>Qt.bind (vss _) fun r=> ?_;split
  ·exact Qt.bind (Qt.of (Qm.liftO _)) fun _=>Qm.setS _ _
  ·exact Qm.fail
 |pick d c x y=>
  simp only [exec];refine Qt.bind (vdh _) fun u=> ?_;split
  ·split
   ·exact Qt.bind (vdh _) fun _=>Qm.setS _ _
   ·exact Qt.bind (vdh _) fun _=>Qm.setS _ _
  ·exact Qm.fail
 |_=>simp only [exec];(repeat' (first|exact Qm.pure trivial|exact Qm.fail|exact Qm.setS _ _|exact Qm.getS _|exact Qt.of (Qm.getN _)|exact Qt.of (Qm.liftO _)|(refine Qt.bind (Qt.of (Qm.getN _)) fun _=> ?_)|(refine Qt.bind (Qt.of (Qm.liftO _)) fun _=> ?_)|(refine Qt.bind (Qm.getS _) fun _=> ?_)|(refine Qt.bind (vdh _) fun _=> ?_)|(refine Qt.bind (vk3 _) fun _=> ?_)|(refine Qt.bind (vjt _) fun _=> ?_)|split))
theorem vv8 {Φ:Nat→Option Callee} (hΦ:∀f,Nofz (Φ f)) (b:Nat) (o:VOper):Qt (execG Φ b o):=by
 unfold execG;split
 ·exact qk6 hΦ b _
 ·refine Qt.bind (Qm.getS _) fun u=> ?_;split
  ·split
   ·exact qk6 hΦ b _
   ·exact vvf _ _
  ·exact vvf _ _
  ·exact Qm.fail
theorem qam {Φ:Nat→Option Callee} (hΦ:∀f,Nofz (Φ f)):∀(os:List VOper) (b:Nat) (st st':St),execs Φ b os st=some st'→Qok st→Qok st'
 | [],b,st,st',h,hq=>by cases h;exact hq
 |o::os,b,st,st',h,hq=>by
  simp only [execs] at h;split at h
  ·rename_i u s1 h1;exact qam hΦ os _ _ _ h (vv8 hΦ b o st _ s1 h1 hq).1
  ·cases h
end Go.Proofs.YtkidnhclcbcglaaGreat.VM
namespace Go.Proofs.YtkidnhclcbcglaaGreat.VM
open Go
variable {cx:Cx} {U:Nat→Prop} {X:vab} {ρ:Nat→Value} {F:Nat→vab} {st:St} {sh:va1} {V:Nat} {a:Act} {w:World}
theorem qbn {b:Nat} {Φ:Nat→Option Callee} (hq:Qok st):∀f c (xs:List TV),Φ f=some c→c.keeps=false→∀ps cs s1 s2,(lendA c.keeps (b+100) c.modes xs).run st=some (ps,s1)→(show_ c.keeps c.modes xs ps).run s1=some (cs,s2)→vaz cs:=by
 intro f c xs _ hk ps cs s1 s2 h1 h2;obtain ⟨q1,r1⟩:=qhd c.keeps (b+100) c.modes xs st ps s1 h1 hq;exact (vze c.keeps c.modes xs ps r1 s1 cs s2 h2 q1).2 hk
theorem qi2 {x y:Operand} (h:sameOpd x y=true):x=y:=by
 unfold sameOpd at h;split at h
 ·rw [beq_iff_eq] at h;subst h;rfl
 ·rw [beq_iff_eq] at h;subst h;rfl
 ·cases h
theorem qs4 {Φ:Nat→Option Callee} (hS:∀f c,Φ f=some c→Sound cx.P f c) (h:G cx U (fun _ _=>False) ρ F st a w) (hq:Qok st) {b:Nat} (hb:∀i,b≤i→i<b+100→¬U i) {ops:Array Oper} {o:Oper} {v:VOp} (hc:cOp1 cx.P ops o=some v)
  (hd:∀d,o.dst=some d→d<cx.n) {s1:St} (hr:(exec Φ b v).run st=some ((),s1)):Now cx U b o s1 a w:=by
 unfold cOp1 at hc;split at hc
 ·rename_i hop hdst;obtain ⟨y,hy,rfl⟩:=Aa.1 hc;exact qfj h hdst (hd _ hdst) (.inl hop) hy hr
 ·rename_i hop hdst;obtain ⟨y,hy,rfl⟩:=Aa.1 hc;exact qfj h hdst (hd _ hdst) (.inr hop) hy hr
 ·rename_i hop hdst;split at hc
  ·rename_i h1 h2 h3;cases hc;exact qhj h hdst (hd _ hdst) hop h1 h2 h3 hr
  ·cases hc
 ·rename_i hop hdst;obtain ⟨y,hy,rfl⟩:=Aa.1 hc;exact qd5 h hb hdst (hd _ hdst) hop hy hr
 ·rename_i hop hdst;split at hc
  ·obtain ⟨y,hy,rfl⟩:=Aa.1 hc;exact qll h hb hdst (hd _ hdst) hop hy hr
  ·cases hc
 ·rename_i hop hdst;split at hc
  ·rename_i h1 h2 h3;split at hc
   ·rename_i h4;cases hc;exact qeo h hdst (hd _ hdst) hop h1 h2 h3 h4 hr
   ·cases hc
  ·cases hc
 ·rename_i hop hdst;split at hc
  ·rename_i h0;split at hc
   ·rename_i h1 h2 h3;split at hc
    ·rename_i h4;cases hc;exact qro h hb hdst (hd _ hdst) hop h0 h1 h2 h3 h4 hr
    ·cases hc
   ·cases hc
  ·cases hc
 ·rename_i hop hdst;split at hc
  ·rename_i h1 h2;cases hc;exact qhq h hdst (hd _ hdst) hop h1 h2 hr
  ·cases hc
 ·rename_i hop hdst;split at hc
  ·rename_i h1 h2 h3 h4;cases hc;exact qdq h hb hdst hop h2 h3 h4 hr
  ·cases hc
 ·rename_i hop hdst;obtain ⟨y,hy,rfl⟩:=Aa.1 hc;exact qef h hdst (hd _ hdst) hop hy hr
 ·rename_i hop hdst;split at hc
  ·split at hc
   ·rename_i h1 h2;cases hc;exact ql7 h hdst (hd _ hdst) hop h1 h2 hr
   ·cases hc
  ·split at hc
   ·rename_i hbt;split at hc
    ·rename_i h1 h2 h3;cases hc;exact qky h hdst (hd _ hdst) hop h1 h2 hbt h3 hr
    ·cases hc
   ·split at hc
    ·rename_i h0 h1 h2 h3;cases hc;exact qsr h hdst (hd _ hdst) hop h1 h2 h0 h3 hr
    ·cases hc
 ·rename_i hop hdst;obtain ⟨y,hy,rfl⟩:=Aa.1 hc;exact qqv h (t':=0) hdst (hd _ hdst) hop hy hr
 ·rename_i hop hdst;split at hc
  ·rename_i h1 h2 h3;cases hc;exact qkj h hdst (hd _ hdst) hop h1 h2 h3 hr
  ·rename_i h1 h2 h3;cases hc;exact ql3 h hdst (hd _ hdst) hop h1 h2 h3 hr
  ·rename_i h1 h2 h3;split at hc
   ·rename_i h4;split at hc
    ·rename_i h5;cases hc;exact qj5 h hb hdst (hd _ hdst) hop h1 h2 h4 h5 h3 hr
    ·cases hc
   ·cases hc
  ·rename_i h1 h2 h3;split at hc
   ·rename_i h4;cases hc;exact qmg h hdst (hd _ hdst) hop h1 h4 h2 h3 hr
   ·cases hc
  ·cases hc
 ·rename_i hop hdst;split at hc
  ·rename_i h1 h2;cases hc;exact qle h hdst (hd _ hdst) hop h1 h2 hr
  ·cases hc
 ·rename_i hop hdst;split at hc
  ·rename_i hcon;obtain ⟨y,hy,rfl⟩:=Aa.1 hc;exact qm6 h hdst (hd _ hdst) hop (fun v=>run_makeInterface w _ v hcon) hy hr
  ·cases hc
 ·rename_i hop hdst;split at hc
  ·rename_i h0;split at hc
   ·rename_i h2 h3 h4;split at hc
    ·rename_i hcond;cases hc;rw [←qi2 hcond] at hop;exact qk5 h hb hdst (hd _ hdst) hop h0 h2 h3 h4 hr
    ·cases hc
   ·cases hc
  ·cases hc
 ·rename_i hop hdst;split at hc
  ·rename_i h1 h2 h3 h4;cases hc;exact qg0 h hdst (hd _ hdst) hop h1 h2 h3 h4 hr
  ·rename_i h1 h2 h3 h4;split at hc
   ·rename_i hs;cases hc;obtain ⟨m,hm⟩:=Al.1 hs;exact qmx h hdst (hd _ hdst) hop h1 hm h2 h3 h4 hr
   ·cases hc
  ·cases hc
 ·rename_i hop hdst;split at hc
  ·rename_i h1 h2;split at hc
   ·rename_i hcond;cases hc;obtain ⟨m,hm⟩:=Al.1 hcond.2.2;exact qhw h hb hdst (hd _ hdst) hop h1 hm h2 hcond.1 hcond.2.1 hr
   ·cases hc
  ·cases hc
 ·rename_i hop hdst;split at hc
  ·rename_i h1 h2;split at hc
   ·rename_i h3;cases hc;exact qkw h hdst (hd _ hdst) hop h1 h3 h2 hr
   ·cases hc
  ·cases hc
 ·rename_i hop hdst;split at hc
  ·rename_i h1;split at hc
   ·rename_i h2 h3;cases hc;exact qkg h hdst (hd _ hdst) hop h1 h2 h3 hr
   ·cases hc
  ·cases hc
 ·rename_i hop hdst;split at hc
  ·rename_i h0;split at hc
   ·rename_i h1 h2 h3;split at hc
    ·cases hc;exact qmq h hdst (hd _ hdst) hop h0 h1 h2 h3 hr
    ·cases hc
   ·cases hc
  ·cases hc
 ·rename_i hop hdst;split at hc
  ·rename_i h0;split at hc
   ·rename_i h1 h2;cases hc;exact qqk h hdst (hd _ hdst) hop h0 h1 h2 hr
   ·cases hc
  ·cases hc
 ·rename_i hop hdst;obtain ⟨y,hy,rfl⟩:=Aa.1 hc;exact qk0 h hdst (hd _ hdst) hop hy hr
 ·rename_i hop hdst;split at hc
  ·rename_i ha ht;have ha':=Ag.1 (ha.trans (Af).symm);have ht':=Ag.1 (ht.trans (Af).symm);split at hc
   ·rename_i h0;obtain ⟨y,hy,rfl⟩:=Aa.1 hc;exact qgt h hdst (hd _ hdst) hop rfl ha' ht' h0 hy hr
   ·rename_i h0;obtain ⟨y,hy,rfl⟩:=Aa.1 hc;exact qmt h hdst (hd _ hdst) hop rfl ha' ht' h0 hy hr
   ·cases hc
  ·cases hc
 ·rename_i hop hdst;split at hc
  ·rename_i ha ht;have ha':=Ag.1 (ha.trans (Af).symm);have ht':=Ag.1 (ht.trans (Af).symm);split at hc
   ·rename_i h0 _;split at hc
    ·rename_i hcond;obtain ⟨rfl,rfl⟩:=hcond;split at hc
     ·rename_i h1 h2 h3 h4 h5;split at hc
      ·rename_i hpos;cases hc;exact qng h hb hdst (hd _ hdst) hop rfl ha' ht' h0 h1 h2 h3 hpos.1 h4 h5 hr
      ·cases hc
     ·cases hc
    ·cases hc
   ·cases hc
  ·cases hc
 ·rename_i hop hdst;split at hc
  ·rename_i hcond;simp only [Ak,decide_eq_true_eq] at hcond;obtain ⟨y,hy,rfl⟩:=Aa.1 hc;exact qd0 h hdst (hd _ hdst) (isMax:=true) hop rfl hcond.1 hy hr
  ·cases hc
 ·rename_i hop hdst;split at hc
  ·rename_i hcond;simp only [Ak,decide_eq_true_eq] at hcond;obtain ⟨y,hy,rfl⟩:=Aa.1 hc;exact qd0 h hdst (hd _ hdst) (isMax:=false) hop rfl hcond.1 hy hr
  ·cases hc
 ·rename_i hop;split at hc
  ·cases hc
  ·rename_i hsz;obtain ⟨y,hy,rfl⟩:=Aa.1 hc;split at hr
   ·exact qhk h hb rfl hd hop rfl (Ai hsz) hy (hS _) (fun c xs=>qbn hq _ c xs) hr
   ·exact qgq h hb rfl hd hop rfl (Ai hsz) hy (hS _) (fun c xs=>qbn hq _ c xs) hr
 ·rename_i hop;split at hc
  ·cases hc
  ·rename_i hsz;obtain ⟨y,hy,rfl⟩:=Aa.1 hc;have hn:=Nat.lt_of_not_le fun h=>hsz (.inr h);have hsz':=Ai fun h=>hsz (.inl h);exact qhh h hb rfl hd hop hn rfl hsz' hy hS (fun f c xs=>qbn hq f c xs) hr
 ·cases hc
theorem qks {Φ:Nat→Option Callee} (hS:∀f c,Φ f=some c→Sound cx.P f c) (h:G cx U (fun _ _=>False) ρ F st a w) (hq:Qok st) {b:Nat} (hb:∀i,b≤i→i<b+100→¬U i) {ops:Array Oper} {o:Oper} {v:VOp} (hc:cOp cx.P ops o=some v)
  (hd:∀d,o.dst=some d→d<cx.n) {s1:St} (hr:(exec Φ b v).run st=some ((),s1)):Now cx U b o s1 a w:=by
 unfold cOp at hc;cases h1:cOp1 cx.P ops o with
 |none=>
  rw [h1] at hc;cases hc;exact (vac hr).elim
 |some x=>
  rw [h1] at hc;cases hc;exact qs4 hS h hq hb h1 hd hr
