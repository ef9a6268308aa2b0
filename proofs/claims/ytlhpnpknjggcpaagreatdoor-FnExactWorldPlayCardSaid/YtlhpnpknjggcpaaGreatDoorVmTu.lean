/- The interpreter 'VM': a slice that is not marked has no frozen parts: each operation keeps that. The interpreter 'VM': each operation, by the compiler's cases. -/
import Derived.Test.YtlhpnpknjggcpaaGreatDoorVmQs
open Option renaming map_eq_some_iff->Aa,isSome_iff_exists->Am
open Option.some renaming injEq->Ab
open List renaming mem_of_getElem?->Ac,toList_toArray->Ad,mem_or_eq_of_mem_set->Af,mem_of_mem_drop->Ai,mem_replicate->Aj,mem_map->Ak,mem_of_mem_take->An,mem_append->Ao
open Bool renaming or_eq_false_iff->Ae,and_eq_true->Al,not_false->Ap
open Array renaming toList_inj->Ag
open Decidable renaming of_not_not->Ah
namespace Go.Proofs.YtlhpnpknjggcpaaGreatDoor.VM
open Go
theorem vb4:∀{l:List PV},vcm l↔∀x∈l,nofz x
 | []=>by simp [vcm]
 |c::cs=>by simp [vcm,vb4 (l:=cs)]
theorem vq1 {x:PV} (h:nofz x):∀c∈x.cells,nofz c:=by
 cases x with
 |st cs=>exact fun c hc=>vb4.1 (show vcm cs by simpa [nofz] using h) c hc
 |_=>intro c hc;simp [PV.cells] at hc;subst hc;exact h
theorem vt7 {l:List PV} (h:∀c∈l,nofz c):nofz (.st l):=by simp only [nofz];exact vb4.2 h
theorem vmi {x:PV} {o:Nat} {ys:List PV} (h:nofz x) (hy:∀c∈ys,nofz c):nofz (vbu x o ys):=by
 unfold vbu;split
 ·rename_i cs;apply vt7;intro c hc;simp only [Ao] at hc;have hcs:=vq1 h;rcases hc with (hc|hc)|hc
  ·exact hcs c (An hc)
  ·exact hy c hc
  ·exact hcs c (Ai hc)
 ·split
  ·exact hy _ (by simp)
  ·exact h
theorem qgn (x:PV):nofz x.cpy:=by
 cases x with
 |st cs=>
  apply vt7;intro c hc;obtain ⟨y,_,rfl⟩:=Ak.1 hc;split<;>simp [nofz]
 |_=>simp [PV.cpy,nofz]
theorem qkc (z:ZC):nofz z.pv:=by cases z<;>simp [ZC.pv,nofz,vcm]
theorem vyl (m:Nat) (zs:List ZC):nofz (zeroEl m zs):=by
 unfold zeroEl;split
 ·cases zs with
  |nil=>simp [nofz]
  |cons z zs=>exact qkc z
 ·apply vt7;intro c hc;obtain ⟨z,_,rfl⟩:=Ak.1 hc;exact qkc z
def Qm {α:Type} (m:M α) (R:α→Prop):Prop:=∀st r st',m.run st=some (r,st')→Qok st→Qok st'∧R r
theorem Qm.bind {α β:Type} {m:M α} {k:α→M β} {R:α→Prop} {S:β→Prop} (h:Qm m R) (hk:∀x,R x→Qm (k x) S):Qm (m.bind k) S:=by
 intro st r st' hr hq;obtain ⟨x,s1,h1,h2⟩:=vaa hr;obtain ⟨q1,r1⟩:=h st x s1 h1 hq;exact hk x r1 s1 r st' h2 q1
theorem Qm.pure {α:Type} {x:α} {R:α→Prop} (h:R x):Qm (M.pure x) R:=by
 intro st r st' hr hq;cases run_pure hr;exact ⟨hq,h⟩
theorem Qm.fail {α:Type} {R:α→Prop}:Qm (M.fail:M α) R:=fun _ _ _ hr=>(vac hr).elim
theorem Qm.getS (t:Nat):Qm (getS t) fun _=>True:=by
 intro st r st' hr hq;cases vkg hr;exact ⟨hq,trivial⟩
theorem Qm.setS (t:Nat) (v:TV):Qm (setS t v) fun _=>True:=by
 intro st r st' hr hq;cases vbe hr;exact ⟨fun id ver e es hn=>hq id ver e es hn,trivial⟩
theorem Qm.getN (id:Nat):Qm (getN id) fun n=>∀ver e es,n=some (.sl false ver e es)→vcm es:=by
 intro st r st' hr hq;cases vbn hr;exact ⟨hq,fun ver e es hn=>hq id ver e es hn⟩
theorem Qm.setN (id:Nat) (n:Option Node) (h:∀ver e es,n=some (.sl false ver e es)→vcm es):Qm (setN id n) fun _=>True:=by
 intro st r st' hr hq;cases vb1 hr;refine ⟨fun j ver e es hn=> ?_,trivial⟩;rw [vgy] at hn;split at hn
 ·exact h ver e es hn
 ·exact hq j ver e es hn
theorem Qm.liftO {α:Type} (x:Option α):Qm (liftO x) fun r=>x=some r:=by
 intro st r st' hr hq;obtain ⟨h1,h2⟩:=vdf hr;simp only at h1 h2;subst h2;exact ⟨hq,h1⟩
theorem Qm.weak {α:Type} {m:M α} {R S:α→Prop} (h:Qm m R) (hs:∀x,R x→S x):Qm m S:=fun st r st' hr hq=>let ⟨h1,h2⟩:=h st r st' hr hq;⟨h1,hs r h2⟩
abbrev Qt {α:Type} (m:M α):Prop:=Qm m fun _=>True
theorem Qt.of {α:Type} {m:M α} {R:α→Prop} (h:Qm m R):Qt m:=h.weak fun _ _=>trivial
theorem Qt.bind {α β:Type} {m:M α} {k:α→M β} {S:β→Prop} (h:Qt m) (hk:∀x,Qm (k x) S):Qm (m.bind k) S:=Qm.bind h fun x _=>hk x
theorem vc6 (x:Opd):Qt (opd x):=by
 cases x<;>first|exact Qm.getS _|exact Qm.pure trivial
theorem vkt:∀(xs:List Opd),Qt (opds xs)
 | []=>Qm.pure trivial
 |x::xs=>(vc6 x).bind fun _=>(vkt xs).bind fun _=>Qm.pure trivial
theorem vj0 (x:Option Opd):Qt (bound x):=by
 cases x with
 |none=>exact Qm.pure trivial
 |some y=>
  refine (vc6 y).bind fun u=> ?_;split
  ·exact Qm.pure trivial
  ·exact Qm.fail
theorem vy6 (w:Option Nat) (v:TV):Qt (loadAt w v):=by unfold loadAt;(repeat' (first|exact Qm.pure trivial|exact Qm.fail|exact Qm.setS _ _|exact Qm.getS _|exact Qt.of (Qm.getN _)|exact Qt.of (Qm.liftO _)|(refine Qt.bind (Qt.of (Qm.getN _)) fun _=> ?_)|(refine Qt.bind (Qt.of (Qm.liftO _)) fun _=> ?_)|(refine Qt.bind (Qm.getS _) fun _=> ?_)|(refine Qt.bind (vc6 _) fun _=> ?_)|(refine Qt.bind (vkt _) fun _=> ?_)|(refine Qt.bind (vj0 _) fun _=> ?_)|split))
theorem vtl (v:TV):Qt (elems v):=by unfold elems;(repeat' (first|exact Qm.pure trivial|exact Qm.fail|exact Qm.setS _ _|exact Qm.getS _|exact Qt.of (Qm.getN _)|exact Qt.of (Qm.liftO _)|(refine Qt.bind (Qt.of (Qm.getN _)) fun _=> ?_)|(refine Qt.bind (Qt.of (Qm.liftO _)) fun _=> ?_)|(refine Qt.bind (Qm.getS _) fun _=> ?_)|(refine Qt.bind (vc6 _) fun _=> ?_)|(refine Qt.bind (vkt _) fun _=> ?_)|(refine Qt.bind (vj0 _) fun _=> ?_)|split))
theorem qpg (e:Nat) (v:TV) (l h:Option Int):Qt (sliceAt e v l h):=by unfold sliceAt;(repeat' (first|exact Qm.pure trivial|exact Qm.fail|exact Qm.setS _ _|exact Qm.getS _|exact Qt.of (Qm.getN _)|exact Qt.of (Qm.liftO _)|(refine Qt.bind (Qt.of (Qm.getN _)) fun _=> ?_)|(refine Qt.bind (Qt.of (Qm.liftO _)) fun _=> ?_)|(refine Qt.bind (Qm.getS _) fun _=> ?_)|(refine Qt.bind (vc6 _) fun _=> ?_)|(refine Qt.bind (vkt _) fun _=> ?_)|(refine Qt.bind (vj0 _) fun _=> ?_)|split))
theorem qxl (v:TV) (l h:Option Int):Qt (strAt v l h):=by unfold strAt;(repeat' (first|exact Qm.pure trivial|exact Qm.fail|exact Qm.setS _ _|exact Qm.getS _|exact Qt.of (Qm.getN _)|exact Qt.of (Qm.liftO _)|(refine Qt.bind (Qt.of (Qm.getN _)) fun _=> ?_)|(refine Qt.bind (Qt.of (Qm.liftO _)) fun _=> ?_)|(refine Qt.bind (Qm.getS _) fun _=> ?_)|(refine Qt.bind (vc6 _) fun _=> ?_)|(refine Qt.bind (vkt _) fun _=> ?_)|(refine Qt.bind (vj0 _) fun _=> ?_)|split))
theorem qpe (o:Nat) (v:TV):Qt (fieldAt o v):=by unfold fieldAt;(repeat' (first|exact Qm.pure trivial|exact Qm.fail|exact Qm.setS _ _|exact Qm.getS _|exact Qt.of (Qm.getN _)|exact Qt.of (Qm.liftO _)|(refine Qt.bind (Qt.of (Qm.getN _)) fun _=> ?_)|(refine Qt.bind (Qt.of (Qm.liftO _)) fun _=> ?_)|(refine Qt.bind (Qm.getS _) fun _=> ?_)|(refine Qt.bind (vc6 _) fun _=> ?_)|(refine Qt.bind (vkt _) fun _=> ?_)|(refine Qt.bind (vj0 _) fun _=> ?_)|split))
theorem qny (e m:Nat) (v:TV) (i:Int):Qt (indexAt e m v i):=by
 unfold indexAt;refine Qt.bind (vtl _) fun _=> ?_
 (repeat' (first|exact Qm.pure trivial|exact Qm.fail|exact Qm.setS _ _|exact Qm.getS _|exact Qt.of (Qm.getN _)|exact Qt.of (Qm.liftO _)|(refine Qt.bind (Qt.of (Qm.getN _)) fun _=> ?_)|(refine Qt.bind (Qt.of (Qm.liftO _)) fun _=> ?_)|(refine Qt.bind (Qm.getS _) fun _=> ?_)|(refine Qt.bind (vc6 _) fun _=> ?_)|(refine Qt.bind (vkt _) fun _=> ?_)|(refine Qt.bind (vj0 _) fun _=> ?_)|split))
theorem qoa (x:TV):Qm (toPV x) fun r=>r.2=false→nofz r.1:=by
 unfold toPV;split
 ·split
  ·exact Qm.pure fun _=>by simp [nofz]
  ·exact Qm.fail
 ·exact Qm.pure fun _=>by simp [nofz,vcm]
 ·exact Qm.pure fun h=>by cases h
 ·refine (Qm.getN _).bind fun n hn=> ?_;split
  ·rename_i q ver e es;refine Qt.bind (Qm.setN _ _ fun _ _ _ h=>by cases h) fun _=>Qm.pure fun hq=> ?_;simp only at hq;subst hq;simp only [nofz];exact hn _ _ _ rfl
  ·exact Qm.fail
 ·exact Qm.fail
theorem qc0:∀(xs:List TV),Qm (toPVs xs) fun r=>r.2=false→∀c∈r.1,nofz c
 | []=>Qm.pure fun _=>by simp
 |x::xs=>by
  unfold toPVs;refine (qoa x).bind fun y hy=>(qc0 xs).bind fun ys hys=>Qm.pure fun hq=> ?_;simp only [Ae] at hq;intro c hc;cases hc with
  |head=>exact hy hq.1
  |tail _ hc=>exact hys hq.2 c hc
theorem vyk {x:TV} {y:PV} (h:atomPV x=some y):nofz y:=by
 unfold atomPV at h;split at h
 ·split at h
  ·cases h;simp [nofz]
  ·cases h
 ·cases h
theorem vr2:∀{xs:List TV} {ys:List PV},vej xs=some ys→∀y∈ys,nofz y
 | [],ys,h=>by cases h;simp
 |x::xs,ys,h=>by
  simp only [vej] at h;split at h
  ·rename_i y ys' h1 h2;cases h;intro c hc;cases hc with
   |head=>exact vyk h1
   |tail _ hc=>exact vr2 h2 c hc
  ·cases h
theorem qpy (flat:Bool) (x:TV):Qm (toEl flat x) fun r=>r.2=false→nofz r.1:=by
 unfold toEl;split
 ·split
  ·refine (Qm.liftO _).bind fun ys hys=>Qm.pure fun _=>vt7 (vr2 hys)
  ·exact (qc0 _).bind fun ys hys=>Qm.pure fun hq=>vt7 (hys hq)
 ·split
  ·exact (Qm.liftO _).bind fun y hy=>Qm.pure fun _=>vyk hy
  ·exact qoa _
theorem qra (flat:Bool) (m:Nat):∀(ps:List (Nat×Opd)) (q:Bool) (es:List PV),(q=false→vcm es)→Qm (bslM flat m ps q es) fun r=>r.2=false→vcm r.1
 | [],q,es,h=>Qm.pure h
 |(i,x)::ps,q,es,h=>by
  unfold bslM;refine (vc6 x).bind fun v=>(qpy flat v).bind fun y hy=> ?_;split
  ·refine qra flat m ps _ _ fun hq=> ?_;simp only [Ae] at hq;refine vb4.2 fun c hc=> ?_;rcases Af hc with hc|rfl
   ·exact vb4.1 (h hq.1) c hc
   ·exact hy hq.2
  ·exact Qm.fail
theorem qhq:∀(ps:List (Nat×Nat×Opd)) (cs:List TV),Qt (buildM ps cs)
 | [],cs=>Qm.pure trivial
 |(o,w,x)::ps,cs=>by
  unfold buildM;refine (vc6 x).bind fun v=> ?_;split
  ·exact qhq ps _
  ·exact Qm.fail
theorem vw9 {es:List PV} {i:Nat} {x:PV} (h:vcm es) (hx:nofz x):vcm (es.set i x):=
 vb4.2 fun y hy=>(Af hy).elim (vb4.1 h y) fun e=>e▸hx
theorem vp5:∀(p:List (Nat×Nat×Nat)) {es:List PV} {r:Nat×List PV},vcm es→dget es p=some r→vcm r.2
 | [],es,r,h,hr=>by simp [dget] at hr
 |(i,m,o)::p,es,r,h,hr=>by
  simp only [dget] at hr;split at hr
  ·cases hr
  ·rename_i x hx;split at hr
   ·split at hr
    ·rename_i e es' hc;have h1:vcm es':=by
      have:=vq1 (vb4.1 h x (Ac hx)) _ (Ac hc);simpa only [nofz] using this
     split at hr
     ·cases hr;exact h1
     ·exact vp5 _ h1 hr
    ·cases hr
   ·cases hr
theorem vnh {c:PV} (hc:nofz c):∀(p:List (Nat×Nat×Nat)) {es es1:List PV},vcm es→dput es p c=some es1→vcm es1
 | [],es,es1,h,hr=>by simp [dput] at hr
 |(i,m,o)::p,es,es1,h,hr=>by
  simp only [dput] at hr;split at hr
  ·cases hr
  ·rename_i x hx;have hxn:=vb4.1 h x (Ac hx);split at hr
   ·split at hr
    ·cases hr
    ·rename_i c0 hc0;split at hr
     ·cases hr;exact vw9 h (vmi hxn (by simpa using hc))
     ·split at hr
      ·rename_i e es';split at hr
       ·rename_i in' hin;cases hr;have h1:vcm es':=by
         have:=vq1 hxn _ (Ac hc0);simpa only [nofz] using this
        exact vw9 h (vmi hxn (by simpa only [List.mem_singleton,forall_eq,nofz] using vnh hc _ h1 hin))
       ·cases hr
      ·cases hr
   ·cases hr
theorem qpq (b w:Nat) (x y:TV):Qt (storeAt b w x y):=by
 have box:∀id o,Qt (storeBox w id o y):=by
  intro id o;unfold storeBox;refine (Qm.getN _).bind fun n hn=> ?_;split
  ·split
   ·exact Qm.setN _ _ fun _ _ _ h=>by cases h
   ·exact Qm.fail
  ·exact Qm.fail
 unfold storeAt;split
 ·exact box _ _
 ·exact box _ _
 ·refine (qc0 _).bind fun ys hys=>(Qm.getN _).bind fun n hn=> ?_;split
  ·rename_i q ver e es;split
   ·rename_i x0 hx0;split
    ·refine Qm.setN _ _ fun ver' e' es' h=> ?_;simp only [Ab,Node.sl.injEq] at h;obtain ⟨hq,_,_,rfl⟩:=h;simp only [Ae] at hq;have hes:vcm es:=hn ver e es (by rw [hq.1]);refine vb4.2 fun c hc=> ?_;rcases Af hc with hc|rfl
     ·exact vb4.1 hes c hc
     ·exact vmi (vb4.1 hes x0 (Ac hx0)) (hys hq.2)
    ·exact Qm.fail
   ·exact Qm.fail
  ·exact Qm.fail
 ·refine (Qm.getN _).bind fun n hn=> ?_;split
  ·rename_i q ver e es;split
   ·unfold vo7;split
    ·rename_i e' es' ys hget hys;split
     ·rename_i x0 hx0;split
      ·split
       ·rename_i es1 hput;refine Qm.setN _ _ fun ver' e2 es2 h=> ?_;simp only [Ab,Node.sl.injEq] at h;obtain ⟨hq,_,_,rfl⟩:=h;have hes:vcm es:=hn ver e es (by rw [hq]);have he:=vp5 _ hes hget;refine vnh (c:= .sl e' (es'.set _ _)) ?_ _ hes hput;simp only [nofz];exact vw9 he (vmi (vb4.1 he x0 (Ac hx0)) (vr2 hys))
       ·exact Qm.fail
      ·exact Qm.fail
     ·exact Qm.fail
    ·exact Qm.fail
   ·exact Qm.fail
  ·exact Qm.fail
 ·exact Qm.fail
theorem qyu (b e:Nat) (x:TV):Qm (appTo b e x) fun r=>r.2=false→vcm r.1:=by
 unfold appTo;split
 ·split
  ·exact Qm.pure fun _=>by simp [vcm]
  ·exact Qm.fail
 ·refine (Qm.getN _).bind fun n hn=> ?_;split
  ·rename_i q ver e' es;split
   ·refine Qt.bind (Qm.setN _ _ fun _ _ _ h=>by cases h) fun _=>Qm.pure fun hq=> ?_;simp only at hq;subst hq;exact hn _ _ _ rfl
   ·exact Qm.fail
  ·exact Qm.fail
 ·rename_i id lo k;refine (Qm.getN _).bind fun n hn=> ?_;split
  ·rename_i q ver e' es;split
   ·split
    ·refine Qt.bind (Qm.setN _ _ fun _ _ _ h=>by cases h) fun _=>Qm.pure fun hq=> ?_;simp only at hq;subst hq;exact vb4.2 fun c hc=>vb4.1 (hn _ _ _ rfl) c (Ai hc)
    ·exact Qm.fail
   ·exact Qm.fail
  ·exact Qm.fail
 ·refine (Qm.getN _).bind fun n hn=> ?_;split
  ·rename_i q ver e' es;split
   ·unfold takeIn;split
    ·rename_i r es1 hg hp;split
     ·refine Qt.bind (Qm.setN _ _ fun _ _ _ h=> ?_) fun _=>Qm.pure fun hq=> ?_
      ·simp only [Ab,Node.sl.injEq] at h;obtain ⟨hq,_,_,rfl⟩:=h;exact vnh (by simp only [nofz]) _ (hn ver e' es (by rw [hq])) hp
      ·simp only at hq;subst hq;exact vp5 _ (hn _ _ _ rfl) hg
     ·exact Qm.fail
    ·exact Qm.fail
   ·exact Qm.fail
  ·exact Qm.fail
 ·exact Qm.fail
theorem qel (es:List PV):vcm (es.map PV.cpy):=vb4.2 fun c hc=>by
 obtain ⟨x,_,rfl⟩:=Ak.1 hc;exact qgn x
theorem qwi (b:Nat) (x:TV):Qt (pull1 b x):=by
 unfold pull1;split
 ·refine (Qm.getN _).bind fun n hn=> ?_;split
  ·rename_i q ver' e' es;split
   ·unfold pullK;split
    ·rename_i r hg;refine Qm.bind (R:=fun z=>z.2=false→vcm z.1) ?_ fun z hz=>Qt.bind (Qm.setN _ _ fun ver e es h=> ?_) fun _=>Qm.pure trivial
     ·unfold takeIn;split
      ·rename_i r1 es1 hg2 hp;cases hg2;split
       ·refine Qt.bind (Qm.setN _ _ fun _ _ _ h=> ?_) fun _=>Qm.pure fun hq=> ?_
        ·simp only [Ab,Node.sl.injEq] at h;obtain ⟨hq,_,_,rfl⟩:=h;exact vnh (by simp only [nofz]) _ (hn ver' e' es (by rw [hq])) hp
        ·simp only at hq;subst hq;exact vp5 _ (hn _ _ _ rfl) hg
       ·exact Qm.fail
      ·exact Qm.fail
     ·simp only [Ab,Node.sl.injEq] at h;obtain ⟨hq,_,_,rfl⟩:=h;exact hz hq
    ·exact Qm.fail
   ·exact Qm.fail
  ·exact Qm.fail
 ·exact Qm.pure trivial
theorem qk2 (b:Nat):∀(xs:List TV),Qt (pullL b xs)
 | []=>Qm.pure trivial
 |x::xs=>by
  unfold pullL;split
  ·exact Qt.bind (qwi _ _) fun _=>Qm.pure trivial
  ·exact Qt.bind (qk2 b xs) fun _=>Qm.pure trivial
theorem qih (b:Nat) (u v:TV):Qt (pullTo b u v):=by
 unfold pullTo;split
 ·exact Qt.bind (qk2 _ _) fun _=>Qm.pure trivial
 ·exact Qm.pure trivial
theorem qzc (b:Nat) (flat:Bool) (m:Nat) (ps:List (Nat×Opd)) (es:List PV) (h:vcm es):Qm (bslQ b flat m ps es) fun r=>r.2=false→vcm r.1:=by
 unfold bslQ;split
 ·refine Qt.bind (vc6 _) fun v=>Qt.bind (qih _ _ _) fun v=>(qpy _ v).bind fun y hy=> ?_;split
  ·refine Qm.pure fun hq=>vb4.2 fun c hc=> ?_;rcases Af hc with hc|rfl
   ·exact vb4.1 h c hc
   ·exact hy hq
  ·exact Qm.fail
 ·exact qra _ _ _ _ _ fun _=>h
theorem qv1 (e:Nat) (mv:Bool) (y:TV):Qm (appOf e mv y) fun r=>r.2=false→vcm r.1:=by
 unfold appOf;split
 ·refine (Qm.getN _).bind fun n hn=> ?_;split
  ·rename_i q ver e' es;split
   ·split
    ·refine Qt.bind (Qm.setN _ _ fun _ _ _ h=>by cases h) fun _=>Qm.pure fun hq=> ?_;simp only at hq;subst hq;exact hn _ _ _ rfl
    ·exact Qm.pure fun _=>qel _
   ·exact Qm.fail
  ·exact Qm.fail
 ·refine Qt.bind (vtl _) fun r=> ?_;split
  ·unfold cpyOf;split
   ·exact Qm.pure fun h=>by cases h
   ·exact Qm.pure fun _=>qel _
  ·exact Qm.fail
theorem qpw (b e bytes:Nat) (mv:Bool) (x y:TV):Qt (appendM b e bytes mv x y):=by
 unfold appendM;refine (qyu b e x).bind fun xs hxs=>(qv1 e mv y).bind fun ys hys=> ?_;split
 ·refine Qt.bind (Qm.setN _ _ fun ver' e' es' h=> ?_) fun _=>Qm.pure trivial;simp only [Ab,Node.sl.injEq] at h;obtain ⟨hq,_,_,rfl⟩:=h;simp only [Ae] at hq;refine vb4.2 fun c hc=> ?_;rcases Ao.1 hc with hc|hc
  ·exact vb4.1 (hxs hq.1) c hc
  ·exact vb4.1 (hys hq.2) c hc
 ·exact Qm.fail
theorem vwz:∀{es:List PV},vcm es↔∀x∈es,nofz x
 | []=>by simp [vcm]
 |e::es=>by simp [vcm,vwz (es:=es)]
theorem qeb {es fs:List PV} (h:∀x∈fs,x∈es) (hn:vcm es):vcm fs:=vwz.2 fun x hx=>vwz.1 hn x (h x hx)
mutual
theorem qwk:∀{x:PV},nfz x=true→nofz x
 | .a _,_=>by simp [nofz]
 | .sl _ es,h=>by simp only [nfz] at h;simp only [nofz];exact vrg h
 | .fz _ _,h=>by simp [nfz] at h
 | .st cs,h=>by simp only [nfz] at h;simp only [nofz];exact vrg h
 | .un,_=>by simp [nofz]
theorem vrg:∀{l:List PV},nfzL l=true→vcm l
 | [],_=>by simp [vcm]
 |c::cs,h=>by simp only [nfzL,Al] at h;simp only [vcm];exact ⟨qwk h.1,vrg h.2⟩
end
mutual
theorem qhw:∀(k:Nat) (x:TV),Qm (pack false k x) vbp
 |0,x=>by unfold pack;exact Qm.fail
 |k+1,x=>by
  unfold pack;split
  ·exact Qm.pure (by simp [vbp])
  ·exact Qm.pure (by simp [vbp,vcm])
  ·exact Qm.fail
  ·exact (vty k _).bind fun ys h=>Qm.pure (by simp only [vbp];exact h)
  ·exact (vty k _).bind fun xs h=>(vty k _).bind fun ys h'=>Qm.pure (by simp only [vbp];exact ⟨h,h'⟩)
  ·exact (qhw k _).bind fun y h=>Qm.pure (by simp only [vbp];exact h)
  ·refine (Qm.getN _).bind fun n hn=> ?_;split
   ·rename_i q ver e es;cases q with
    |true=>
     cases hf:nfzL es with
     |false=>simp only [badFz,hf,Ap,Bool.and_self,if_true];exact Qm.fail
     |true=>
      simp only [badFz,hf,Bool.not_true,Bool.and_false,Bool.false_eq_true,if_false];exact Qt.bind (Qm.setN _ _ fun _ _ _ h=>by cases h) fun _=>Qm.pure (by simp only [vbp];exact fun _=>vrg hf)
    |false=>exact Qt.bind (Qm.setN _ _ fun _ _ _ h=>by cases h) fun _=>Qm.pure (by simp only [vbp];exact fun _=>hn _ _ _ rfl)
   ·split
    ·exact Qm.fail
    ·exact Qt.bind (Qm.setN _ _ fun _ _ _ h=>by cases h) fun _=>(vty k _).bind fun ys h=>Qm.pure (by simp only [vbp];exact h)
   ·exact Qm.pure (by simp [vbp])
  ·exact Qm.pure (by simp [vbp])
  ·refine (Qm.getN _).bind fun n hn=> ?_;split
   ·rename_i q ver e es;cases q with
    |true=>simp only [Bool.true_and,Ap,true_or,if_true];exact Qm.fail
    |false=>
     split
     ·exact Qm.fail
     ·exact Qt.bind (Qm.setN _ _ fun _ _ _ h=>by cases h) fun _=>Qm.pure (by simp only [vbp];exact fun _=>qeb (fun x hx=>Ai (An hx)) (hn _ _ _ rfl))
   ·exact Qm.fail
  ·exact Qm.fail
theorem vty:∀(k:Nat) (xs:List TV),Qm (vck false k xs) va0
 |0,xs=>by unfold vck;exact Qm.fail
 |k+1,[]=>by unfold vck;exact Qm.pure (by simp [va0])
 |k+1,x::xs=>by
  unfold vck;exact (qhw k x).bind fun y h=>(vty k xs).bind fun ys h'=>Qm.pure (by simp only [va0];exact ⟨h,h'⟩)
end
mutual
theorem qdb (fz:Bool):∀(k:Nat) (x:TV),Qt (pack fz k x)
 |0,x=>by unfold pack;exact Qm.fail
 |k+1,x=>by
  unfold pack;split
  ·exact Qm.pure trivial
  ·exact Qm.pure trivial
  ·split
   ·exact Qm.pure trivial
   ·exact Qm.fail
  ·exact (vr1 fz k _).bind fun ys=>Qm.pure trivial
  ·exact (vr1 fz k _).bind fun xs=>(vr1 fz k _).bind fun ys=>Qm.pure trivial
  ·exact (qdb fz k _).bind fun y=>Qm.pure trivial
  ·refine (Qm.getN _).bind fun n hn=> ?_;split
   ·split
    ·exact Qm.fail
    ·exact Qt.bind (Qm.setN _ _ fun _ _ _ h=>by cases h) fun _=>Qm.pure trivial
   ·split
    ·exact Qm.fail
    ·exact Qt.bind (Qm.setN _ _ fun _ _ _ h=>by cases h) fun _=>(vr1 fz k _).bind fun ys=>Qm.pure trivial
   ·exact Qm.pure trivial
  ·exact Qm.pure trivial
  ·refine (Qm.getN _).bind fun n hn=> ?_;split
   ·split
    ·exact Qm.fail
    ·exact Qt.bind (Qm.setN _ _ fun _ _ _ h=>by cases h) fun _=>Qm.pure trivial
   ·exact Qm.fail
  ·exact Qm.fail
theorem vr1 (fz:Bool):∀(k:Nat) (xs:List TV),Qt (vck fz k xs)
 |0,xs=>by unfold vck;exact Qm.fail
 |k+1,[]=>by unfold vck;exact Qm.pure trivial
 |k+1,x::xs=>by
  unfold vck;exact (qdb fz k x).bind fun y=>(vr1 fz k xs).bind fun ys=>Qm.pure trivial
end
mutual
theorem vy5 (z:Bool):∀(k n:Nat) (x:TV),Qm (vbd z k n x) vbp
 |0,n,x=>by unfold vbd;exact Qm.fail
 |k+1,n,x=>by
  unfold vbd;split
  ·exact Qm.pure (by simp [vbp])
  ·exact Qm.pure (by simp [vbp])
  ·exact Qm.pure (by simp [vbp])
  ·exact (vnj z k _).bind fun ys h=>Qm.pure (by simp only [vbp];exact h)
  ·exact (vnj z k _).bind fun xs h=>(vnj z k _).bind fun ys h'=>Qm.pure (by simp only [vbp];exact ⟨h,h'⟩)
  ·exact (vy5 z k _ _).bind fun y h=>Qm.pure (by simp only [vbp];exact h)
  ·exact Qm.pure (by simp [vbp])
  ·refine (Qm.getN _).bind fun n hn=> ?_;split
   ·split
    ·exact Qm.fail
    ·exact Qm.pure (by simp [vbp])
   ·split
    ·exact Qm.fail
    ·exact (vnj z k _).bind fun ys h=>Qm.pure (by simp only [vbp];exact h)
   ·exact Qm.fail
  ·split
   ·exact Qm.fail
   ·refine (Qm.getN _).bind fun n hn=> ?_;split
    ·exact Qm.pure (by simp [vbp])
    ·exact Qm.fail
  ·split
   ·exact Qm.fail
   ·refine (Qm.getN _).bind fun n hn=> ?_;split
    ·split
     ·split
      ·exact Qm.pure (by simp [vbp])
      ·exact Qm.fail
     ·exact Qm.fail
    ·exact Qm.fail
  ·split
   ·exact Qm.fail
   ·refine (Qm.getN _).bind fun n hn=> ?_;split
    ·split
     ·exact (vnj z k _).bind fun ys h=>Qm.pure (by simp only [vbp];exact h)
     ·exact Qm.fail
    ·exact Qm.fail
  ·exact Qm.fail
theorem vnj (z:Bool):∀(k:Nat) (xs:List TV),Qm (vbo z k xs) va0
 |0,xs=>by unfold vbo;exact Qm.fail
 |k+1,[]=>by unfold vbo;exact Qm.pure (by simp [va0])
 |k+1,x::xs=>by
  unfold vbo;exact (vy5 z k 0 x).bind fun y h=>(vnj z k xs).bind fun ys h'=>Qm.pure (by simp only [va0];exact ⟨h,h'⟩)
end
theorem qgq (keeps:Bool):∀(ms:List Md) (xs:List TV),Qm (lend keeps ms xs) fun ys=>keeps=false→va0 ys
 | [],[]=>by unfold lend;exact Qm.pure fun _=>by simp [va0]
 | .ro _::ms,_::xs=>by
  unfold lend;exact (qgq keeps ms xs).bind fun ys h=>Qm.pure fun hk=>by simp only [va0,vbp,true_and];exact h hk
 | .mut _::ms,x::xs=>by
  unfold lend;have hp:Qm (lend0 keeps x) fun y=>keeps=false→vbp y:=by
   unfold lend0;split
   ·exact Qm.pure fun _=>by simp only [vbp]
   cases keeps with
   |false=>exact (qhw depth x).weak fun y h _=>h
   |true=>exact (qdb true depth x).weak fun y _ h=>by cases h
  exact hp.bind fun y h1=>(qgq keeps ms xs).bind fun ys h=>Qm.pure fun hk=>by simp only [va0];exact ⟨h1 hk,h hk⟩
 | [],_::_=>by unfold lend;exact Qm.fail
 | .ro _::_,[]=>by unfold lend;exact Qm.fail
 | .mut _::_,[]=>by unfold lend;exact Qm.fail
theorem qxg (keeps:Bool) (v:Nat) (x:TV) (y:CV) (hy:keeps=false→vbp y):Qm (lend1 keeps v x y) fun y=>keeps=false→vbp y:=by
 unfold lend1;split
 ·refine (Qm.getN _).bind fun n hn=> ?_;split
  ·rename_i q ver' e es;split
   ·exact Qm.fail
   ·rename_i hcond;split
    ·rename_i r es1 hg hp;refine Qm.bind (Qm.setN _ _ fun ver e0 es0 hh=> ?_) fun _ _=>Qm.pure fun hk=> ?_
     ·simp only [Ab,Node.sl.injEq] at hh;obtain ⟨hq,_,_,rfl⟩:=hh;subst hq;exact vnh (by simp only [nofz]) _ (hn _ _ _ rfl) hp
     ·have hq:q=false:=by
       cases q with
       |false=>rfl
       |true=>exact absurd (.inl (by rw [hk];rfl)) hcond
      subst hq;simp only [vbp];exact fun _=>vp5 _ (hn _ _ _ rfl) hg
    ·exact Qm.fail
  ·exact Qm.fail
 ·exact Qm.pure hy
theorem qcp (keeps:Bool) (v:Nat):∀(ms:List Md) (xs:List TV) (ys:List CV),(keeps=false→va0 ys)→Qm (vbs keeps v ms xs ys) fun ys=>keeps=false→va0 ys
 | [],[],[],h=>by unfold vbs;exact Qm.pure fun _=>by simp [va0]
 | .ro _::ms,_::xs,y::ys,h=>by
  unfold vbs;exact (qcp keeps v ms xs ys fun hk=>by have:=h hk;simp only [va0] at this;exact this.2).bind fun ys' h'=>Qm.pure fun hk=>by
   have:=h hk;simp only [va0] at this⊢;exact ⟨this.1,h' hk⟩
 | .mut _::ms,x::xs,y::ys,h=>by
  unfold vbs;exact (qxg keeps v x y fun hk=>by have:=h hk;simp only [va0] at this;exact this.1).bind fun y' hy'=>(qcp keeps v ms xs ys fun hk=>by have:=h hk;simp only [va0] at this;exact this.2).bind fun ys' h'=>Qm.pure fun hk=>by
   simp only [va0];exact ⟨hy' hk,h' hk⟩
 | [],[],_::_,_=>by unfold vbs;exact Qm.fail
 | [],_::_,_,_=>by unfold vbs;exact Qm.fail
 | .ro _::_,[],_,_=>by unfold vbs;exact Qm.fail
 | .ro _::_,_::_,[],_=>by unfold vbs;exact Qm.fail
 | .mut _::_,[],_,_=>by unfold vbs;exact Qm.fail
 | .mut _::_,_::_,[],_=>by unfold vbs;exact Qm.fail
theorem qkv (keeps:Bool) (v:Nat) (ms:List Md) (xs:List TV):Qm (lendA keeps v ms xs) fun ys=>keeps=false→va0 ys:=
 (qgq keeps ms xs).bind fun ys h=>qcp keeps v ms xs ys h
theorem qa8 (keeps:Bool):∀(ms:List Md) (xs:List TV) (ys:List CV),(keeps=false→va0 ys)→Qm (show_ keeps ms xs ys) fun cs=>keeps=false→va0 cs
 | [],[],[],_=>by unfold show_;exact Qm.pure fun _=>by simp [va0]
 | .ro n::ms,x::xs,y::ys,h=>by
  unfold show_;exact (vy5 keeps depth n x).bind fun y' h1=>(qa8 keeps ms xs ys fun hk=>by have:=h hk;simp only [va0] at this;exact this.2).bind fun ys' h2=>Qm.pure fun hk=>by simp only [va0];exact ⟨h1,h2 hk⟩
 | .mut _::ms,_::xs,y::ys,h=>by
  unfold show_;exact (qa8 keeps ms xs ys fun hk=>by have:=h hk;simp only [va0] at this;exact this.2).bind fun ys' h2=>Qm.pure fun hk=>by
   have:=h hk;simp only [va0] at this⊢;exact ⟨this.1,h2 hk⟩
 | [],[],_::_,_=>by unfold show_;exact Qm.fail
 | [],_::_,_,_=>by unfold show_;exact Qm.fail
 | .ro _::_,[],_,_=>by unfold show_;exact Qm.fail
 | .ro _::_,_::_,[],_=>by unfold show_;exact Qm.fail
 | .mut _::_,[],_,_=>by unfold show_;exact Qm.fail
 | .mut _::_,_::_,[],_=>by unfold show_;exact Qm.fail
mutual
theorem qgx (q:Bool):∀(c:CV) (b:Nat),(q=false→vbp c)→Qt (vaz q b c)
 | .a _,b,_=>by unfold vaz;exact Qm.pure trivial
 | .sl z e es,b,h=>by
  unfold vaz;split
  ·exact Qm.pure trivial
  ·rename_i hz;refine Qt.bind (Qm.setN _ _ fun ver' e' es' hh=> ?_) fun _=>Qm.pure trivial;simp only [Ab,Node.sl.injEq] at hh;obtain ⟨hq,_,_,rfl⟩:=hh;have:=h hq;simp only [vbp] at this;exact this (by simpa using hz)
 | .bx z cs,b,h=>by
  unfold vaz;exact (vg3 q cs _ fun hq=>by have:=h hq;simp only [vbp] at this;exact this).bind fun r=>Qt.bind (Qm.setN _ _ fun _ _ _ h=>by cases h) fun _=>Qm.pure trivial
 | .st cs,b,h=>by
  unfold vaz;exact (vg3 q cs _ fun hq=>by have:=h hq;simp only [vbp] at this;exact this).bind fun r=>Qm.pure trivial
 | .tp cs,b,h=>by
  unfold vaz;exact (vg3 q cs _ fun hq=>by have:=h hq;simp only [vbp] at this;exact this).bind fun r=>Qm.pure trivial
 | .fn f fs cs,b,h=>by
  unfold vaz;exact (vg3 q fs _ fun hq=>by have:=h hq;simp only [vbp] at this;exact this.1).bind fun r=>(vg3 q cs _ fun hq=>by have:=h hq;simp only [vbp] at this;exact this.2).bind fun r=>Qm.pure trivial
 | .ic t c,b,h=>by
  unfold vaz;exact (qgx q c _ fun hq=>by have:=h hq;simp only [vbp] at this;exact this).bind fun r=>Qm.pure trivial
 | .un,b,_=>by unfold vaz;exact Qm.pure trivial
theorem vg3 (q:Bool):∀(cs:List CV) (b:Nat),(q=false→va0 cs)→Qt (vbh q b cs)
 | [],b,_=>by unfold vbh;exact Qm.pure trivial
 |c::cs,b,h=>by
  unfold vbh;exact (qgx q c _ fun hq=>by have:=h hq;simp only [va0] at this;exact this.1).bind fun r=>(vg3 q cs _ fun hq=>by have:=h hq;simp only [va0] at this;exact this.2).bind fun r=>Qm.pure trivial
end
mutual
theorem vv7 (q:Bool) (V:Nat):∀(x:TV) (c0 y:CV) (b:Nat),(q=false→vbp y)→Qt (vah q V b x c0 y)
 | .rf id,c0,y,b,h=>by
  cases c0 with
  |sl z0 e0 es0=>
   cases y with
   |sl z e es=>
    cases z0<;>cases z<;>simp only [vah]
    ·refine (Qm.getN _).bind fun n _=> ?_;split
     ·refine Qt.bind (Qm.setN _ _ fun ver' e' es' hh=> ?_) fun _=>Qm.pure trivial;simp only [Ab,Node.sl.injEq] at hh;obtain ⟨hq,_,_,rfl⟩:=hh;have:=h hq;simp only [vbp] at this;exact this trivial
     ·exact Qm.fail
    all_goals exact Qm.pure trivial
   |_=>simp only [vah];exact Qm.pure trivial
  |bx z0 cs0=>
   cases y with
   |bx z cs=>
    cases z0<;>cases z<;>simp only [vah]
    ·refine (Qm.getN _).bind fun n _=> ?_;split
     ·exact (vg3 q cs _ fun hq=>by have:=h hq;simp only [vbp] at this;exact this).bind fun r=>Qt.bind (Qm.setN _ _ fun _ _ _ h=>by cases h) fun _=>Qm.pure trivial
     ·exact Qm.fail
    all_goals exact Qm.pure trivial
   |_=>simp only [vah];exact Qm.pure trivial
  |_=>simp only [vah];exact Qm.pure trivial
 | .fn f fs cs,c0,y,b,h=>by
  cases c0 with
  |fn f0 fs0 cs0=>
   cases y with
   |fn f1 fs1 cs1=>
    simp only [vah];exact (vq2 q V fs fs0 fs1 b fun hq=>by have:=h hq;simp only [vbp] at this;exact this.1).bind fun b1=>vq2 q V cs cs0 cs1 b1 fun hq=>by have:=h hq;simp only [vbp] at this;exact this.2
   |_=>simp only [vah];exact Qm.pure trivial
  |_=>simp only [vah];exact Qm.pure trivial
 | .st cs,c0,y,b,h=>by
  cases c0 with
  |st cs0=>
   cases y with
   |st cs1=>
    simp only [vah];exact vq2 q V cs cs0 cs1 b fun hq=>by have:=h hq;simp only [vbp] at this;exact this
   |_=>simp only [vah];exact Qm.pure trivial
  |_=>simp only [vah];exact Qm.pure trivial
 | .ic t x,c0,y,b,h=>by
  cases c0 with
  |ic t0 x0=>
   cases y with
   |ic t1 x1=>
    simp only [vah];exact vv7 q V x x0 x1 b fun hq=>by have:=h hq;simp only [vbp] at this;exact this
   |_=>simp only [vah];exact Qm.pure trivial
  |_=>simp only [vah];exact Qm.pure trivial
 | .a _,c0,y,b,h=>by simp only [vah];exact Qm.pure trivial
 | .nl _,c0,y,b,h=>by simp only [vah];exact Qm.pure trivial
 | .ri _ _ _,c0,y,b,h=>by simp only [vah];exact Qm.pure trivial
 | .sb _ _ _,c0,y,b,h=>by simp only [vah];exact Qm.pure trivial
 | .ad _ _,c0,y,b,h=>by simp only [vah];exact Qm.pure trivial
 | .ea _ _ _ _,c0,y,b,h=>by simp only [vah];exact Qm.pure trivial
 | .ei _ _ _ _ _ _,c0,y,b,h=>by simp only [vah];exact Qm.pure trivial
 | .sz _ _,c0,y,b,h=>by simp only [vah];exact Qm.pure trivial
 | .ez _ _,c0,y,b,h=>by simp only [vah];exact Qm.pure trivial
 | .tp _,c0,y,b,h=>by simp only [vah];exact Qm.pure trivial
 | .un,c0,y,b,h=>by simp only [vah];exact Qm.pure trivial
theorem vq2 (q:Bool) (V:Nat):∀(xs:List TV) (cs0 ys:List CV) (b:Nat),(q=false→va0 ys)→Qt (vbi q V b xs cs0 ys)
 | [],cs0,ys,b,h=>by simp only [vbi];exact Qm.pure trivial
 |x::xs,[],ys,b,h=>by simp only [vbi];exact Qm.pure trivial
 |x::xs,c0::cs0,[],b,h=>by simp only [vbi];exact Qm.pure trivial
 |x::xs,c0::cs0,y::ys,b,h=>by
  simp only [vbi];exact (vv7 q V x c0 y b fun hq=>by have:=h hq;simp only [va0] at this;exact this.1).bind fun b1=>vq2 q V xs cs0 ys b1 fun hq=>by have:=h hq;simp only [va0] at this;exact this.2
end
theorem qwh (q:Bool) (V:Nat) (x:TV) (c0 y:CV) (b:Nat) (h:q=false→vbp y):Qt (back1 q V b x c0 y):=by
 unfold back1;split
 ·split
  ·refine (Qm.getN _).bind fun n hn=> ?_;split
   ·split
    ·rename_i q0 ver e es _ _ es1 hat hput;refine Qt.bind (Qm.setN _ _ fun ver' e0 es0 hh=> ?_) fun _=>Qm.pure trivial;simp only [Ab,Node.sl.injEq,Ae] at hh;obtain ⟨⟨hq0,hq⟩,_,_,rfl⟩:=hh;subst hq0;have:=h hq;simp only [vbp] at this;exact vnh (by simp only [nofz];exact this trivial) _ (hn _ _ _ rfl) hput
    ·exact Qm.fail
   ·exact Qm.fail
  ·exact Qm.fail
 ·exact vv7 q V x c0 y b h
theorem vvb (q:Bool) (V:Nat):∀(ms:List Md) (xs:List TV) (cs fs:List CV) (b:Nat),(q=false→va0 fs)→Qt (van q V b ms xs cs fs)
 | [],[],[],[],b,h=>by simp only [van];exact Qm.pure trivial
 | .ro _::ms,x::xs,c::cs,fs,b,h=>by simp only [van];exact vvb q V ms xs cs fs b h
 | .mut _::ms,x::xs,c::cs,f::fs,b,h=>by
  simp only [van];exact (qwh q V x c f b fun hq=>by have:=h hq;simp only [va0] at this;exact this.1).bind fun b1=>vvb q V ms xs cs fs b1 fun hq=>by have:=h hq;simp only [va0] at this;exact this.2
 | [],_::_,_,_,b,h=>by simp only [van];exact Qm.fail
 | [],[],_::_,_,b,h=>by simp only [van];exact Qm.fail
 | [],[],[],_::_,b,h=>by simp only [van];exact Qm.fail
 | .ro _::_,[],_,_,b,h=>by simp only [van];exact Qm.fail
 | .ro _::_,_::_,[],_,b,h=>by simp only [van];exact Qm.fail
 | .mut _::_,[],_,_,b,h=>by simp only [van];exact Qm.fail
 | .mut _::_,_::_,[],_,b,h=>by simp only [van];exact Qm.fail
 | .mut _::_,_::_,_::_,[],b,h=>by simp only [van];exact Qm.fail
theorem vvf:∀{cs ds:List CV},va0 (cs++ds)↔va0 cs∧va0 ds
 | [],ds=>by simp [va0]
 |c::cs,ds=>by simp [va0,vvf (cs:=cs),and_assoc]
def Nofz (g:Option Callee):Prop:=∀c,g=some c→c.keeps=false→∀cs rs fs,va0 cs→c.go cs=some (rs,fs)→va0 (rs++fs)
theorem vxj {g:Option Callee} (hg:Nofz g) (b:Nat) (xs:List TV):Qt (callM g b xs):=by
 cases g with
 |none=>exact Qm.fail
 |some c=>
  simp only [callM];refine (qkv c.keeps (b+100) c.modes xs).bind fun ps hps=>(qa8 c.keeps c.modes xs ps hps).bind fun cs hcs=> ?_;cases hgo:c.go cs with
  |none=>exact Qm.fail
  |some rf=>
   obtain ⟨rs,fs⟩:=rf;have hall:c.keeps=false→va0 rs∧va0 fs:=fun hk=>vvf.1 (hg c rfl hk cs rs fs (hcs hk) hgo);refine (vvb c.keeps (b+100) c.modes xs cs fs b fun hk=>(hall hk).2).bind fun b'=> ?_;split
   ·split
    ·exact Qt.bind (Qt.of (Qm.liftO _)) fun ts=>Qm.pure trivial
    ·exact Qm.fail
   unfold vd3;refine (vg3 c.keeps rs b' fun hk=>(hall hk).1).bind fun r=> ?_;split
   ·exact Qm.pure trivial
   ·exact Qm.fail
theorem vto (d:Option Nat) (v:TV):Qt (putO d v):=by
 cases d with
 |none=>exact Qm.pure trivial
 |some d=>exact Qm.setS _ _
theorem qyh (c:Option Callee) (vs:List TV) (tv:TV):Qt (alsIn c vs tv):=by
 unfold alsIn;split
 ·split
  ·refine (Qm.getN _).bind fun n hn=> ?_;split
   ·exact Qm.setN _ _ fun _ _ _ h=>by cases h
   ·exact Qm.fail
  ·exact Qm.fail
 ·exact Qm.fail
theorem qh6 (q:Bool) (ts:List TV):Qt (alsOut q ts):=by
 unfold alsOut;split
 ·split
  ·refine (Qm.getN _).bind fun n hn=> ?_;split
   ·refine (Qm.getS _).bind fun x _=> ?_;split
    ·split
     ·exact Qm.setN _ _ fun _ _ _ h=>by cases h
     ·exact Qm.fail
    ·exact Qm.fail
   ·exact Qm.fail
  ·exact Qm.fail
 ·exact Qm.pure trivial
theorem qrw (c:Option Callee) (vs:List TV) (tv:TV):Qt (alsIn2 c vs tv):=by
 unfold alsIn2;split
 ·exact qyh _ _ _
 ·exact Qm.pure trivial
theorem qo5 {Φ:Nat→Option Callee} (hΦ:∀f,Nofz (Φ f)) (b:Nat) (op:VOp):Qt (exec Φ b op):=by
 cases op with
 |alloc d zs=>
  simp only [exec];split
  ·exact Qm.fail
  ·exact Qt.bind (Qm.setN _ _ fun _ _ _ h=>by cases h) fun _=>Qm.setS _ _
 |box d x=>
  simp only [exec];refine Qt.bind (vc6 _) fun v=>Qt.bind (Qt.of (Qm.liftO _)) fun cs=> ?_;split
  ·exact Qm.fail
  ·exact Qt.bind (Qm.setN _ _ fun _ _ _ h=>by cases h) fun _=>Qm.setS _ _
 |build d zs ps=>simp only [exec];exact (qhq _ _).bind fun cs=>Qm.setS _ _
 |bsl d e m zs n ps=>
  simp only [exec];refine (qzc _ _ _ _ _ (vb4.2 fun c hc=>by rw [(Aj.1 hc).2];exact vyl _ _)).bind fun es hes=> ?_;refine Qt.bind (Qm.setN _ _ fun ver' e' es' hh=> ?_) fun _=>Qm.setS _ _;simp only [Ab,Node.sl.injEq] at hh;obtain ⟨hq,_,_,rfl⟩:=hh;exact hes hq
 |load d w x=>simp only [exec];exact Qt.bind (vc6 _) fun v=>(vy6 _ _).bind fun _=>Qm.setS _ _
 |lda d x=>
  simp only [exec];refine Qt.bind (vc6 _) fun v=>Qt.bind (vy6 _ _) fun u=> ?_;unfold atomS;split
  ·exact Qm.setS _ _
  ·exact Qm.fail
 |store w x y=>simp only [exec];exact Qt.bind (vc6 _) fun u=>Qt.bind (vc6 _) fun v=>Qt.bind (qih _ _ _) fun v=>qpq _ _ _ _
 |slc0 d e x=>
  simp only [exec];refine Qt.bind (vc6 _) fun u=>Qt.bind (vtl _) fun r=> ?_;split
  ·exact Qt.bind (Qm.setN _ _ fun ver' e' es' hh=>by simp only [Ab,Node.sl.injEq] at hh;obtain ⟨_,_,_,rfl⟩:=hh;exact vb4.2 (by simp)) fun _=>Qm.setS _ _
  ·exact Qm.fail
 |s2b d e x=>
  simp only [exec];refine Qt.bind (vc6 _) fun u=> ?_;split
  ·split
   ·refine Qt.bind (Qm.setN _ _ fun ver' e' es' hh=> ?_) fun _=>Qm.setS _ _;simp only [Ab,Node.sl.injEq] at hh;obtain ⟨_,_,_,rfl⟩:=hh;exact vb4.2 fun c hc=>by obtain ⟨y,_,rfl⟩:=Ak.1 hc;simp only [nofz]
   ·exact Qm.fail
  ·exact Qm.fail
 |mks d e bytes zs x=>
  simp only [exec];refine Qt.bind (vc6 _) fun u=> ?_;split
  ·split
   ·refine Qt.bind (Qm.setN _ _ fun ver' e' es' hh=> ?_) fun _=>Qm.setS _ _;simp only [Ab,Node.sl.injEq] at hh;obtain ⟨_,_,_,rfl⟩:=hh;exact vb4.2 fun c hc=>by rw [(Aj.1 hc).2];exact vyl _ _
   ·exact Qm.fail
  ·exact Qm.fail
 |slc d e x lo hi=>
  simp only [exec];exact Qt.bind (vc6 _) fun v=>Qt.bind (vj0 _) fun l=>Qt.bind (vj0 _) fun h=>(qpg _ _ _ _).bind fun _=>Qm.setS _ _
 |sslc d x lo hi=>
  simp only [exec];exact Qt.bind (vc6 _) fun v=>Qt.bind (vj0 _) fun l=>Qt.bind (vj0 _) fun h=>(qxl _ _ _).bind fun _=>Qm.setS _ _
 |fad d x off=>simp only [exec];exact Qt.bind (vc6 _) fun v=>(qpe _ _).bind fun _=>Qm.setS _ _
 |iad d e m x i=>
  simp only [exec];refine Qt.bind (vc6 _) fun v=>Qt.bind (vc6 _) fun u=> ?_;split
  ·exact (qny _ _ _ _).bind fun _=>Qm.setS _ _
  ·exact Qm.fail
 |len d x=>simp only [exec];exact Qt.bind (vc6 _) fun v=>(vtl _).bind fun _=>Qm.setS _ _
 |app d e bytes mv x y=>simp only [exec];exact Qt.bind (vc6 _) fun u=>Qt.bind (vc6 _) fun v=>(qpw _ _ _ _ _ _).bind fun _=>Qm.setS _ _
 |call d f xs=>simp only [exec];exact Qt.bind (vkt _) fun vs=>(vxj (hΦ f) _ _).bind fun _=>vto _ _
 |cala d f xs=>
  simp only [exec];exact Qt.bind (vkt _) fun vs=>(vxj (hΦ f) _ _).bind fun tv=>Qt.bind (qrw _ _ _) fun _=>vto _ _
 |calv d f xs=>
  simp only [exec];refine Qt.bind (vc6 _) fun g=> ?_;split
  ·exact Qt.bind (vkt _) fun vs=>(vxj (hΦ _) _ _).bind fun _=>vto _ _
  ·exact Qm.fail
 |cali d t f x xs=>
  simp only [exec];refine Qt.bind (vc6 _) fun g=> ?_;split
  ·split
   ·exact Qt.bind (vkt _) fun vs=>(vxj (hΦ _) _ _).bind fun _=>vto _ _
   ·exact Qm.fail
  ·exact Qm.fail
 |clr e z x=>
  simp only [exec];refine Qt.bind (vc6 _) fun v=> ?_;unfold clrAt;split
  ·refine Qt.bind (Qt.of (Qm.getN _)) fun n=> ?_;split
   ·split
    ·refine Qm.setN _ _ fun ver' e' es' hh=> ?_;simp only [Ab,Node.sl.injEq] at hh;obtain ⟨_,_,_,rfl⟩:=hh;exact vb4.2 fun c hc=>by rw [(Aj.1 hc).2];simp only [nofz]
    ·exact Qm.fail
   ·exact Qm.fail
  ·exact Qm.fail
 |b2s d e x=>
  simp only [exec];refine Qt.bind (vc6 _) fun v=>Qt.bind (vtl _) fun r=> ?_;split
  ·exact Qt.bind (Qt.of (Qm.liftO _)) fun _=>Qm.setS _ _
  ·exact Qm.fail
 |pick d c x y=>
  simp only [exec];refine Qt.bind (vc6 _) fun u=> ?_;split
  ·split
   ·exact Qt.bind (vc6 _) fun _=>Qm.setS _ _
   ·exact Qt.bind (vc6 _) fun _=>Qm.setS _ _
  ·exact Qm.fail
 |_=>simp only [exec];(repeat' (first|exact Qm.pure trivial|exact Qm.fail|exact Qm.setS _ _|exact Qm.getS _|exact Qt.of (Qm.getN _)|exact Qt.of (Qm.liftO _)|(refine Qt.bind (Qt.of (Qm.getN _)) fun _=> ?_)|(refine Qt.bind (Qt.of (Qm.liftO _)) fun _=> ?_)|(refine Qt.bind (Qm.getS _) fun _=> ?_)|(refine Qt.bind (vc6 _) fun _=> ?_)|(refine Qt.bind (vkt _) fun _=> ?_)|(refine Qt.bind (vj0 _) fun _=> ?_)|split))
theorem vxn {Φ:Nat→Option Callee} (hΦ:∀f,Nofz (Φ f)) (b:Nat) (o:VOper):Qt (execG Φ b o):=by
 unfold execG;split
 ·exact qo5 hΦ b _
 ·refine Qt.bind (Qm.getS _) fun u=> ?_;split
  ·split
   ·exact qo5 hΦ b _
   ·exact vto _ _
  ·exact vto _ _
  ·exact Qm.fail
theorem qdn {Φ:Nat→Option Callee} (hΦ:∀f,Nofz (Φ f)):∀(os:List VOper) (b:Nat) (st st':St),execs Φ b os st=some st'→Qok st→Qok st'
 | [],b,st,st',h,hq=>by cases h;exact hq
 |o::os,b,st,st',h,hq=>by
  simp only [execs] at h;split at h
  ·rename_i u s1 h1;exact qdn hΦ os _ _ _ h (vxn hΦ b o st _ s1 h1 hq).1
  ·cases h
end Go.Proofs.YtlhpnpknjggcpaaGreatDoor.VM
namespace Go.Proofs.YtlhpnpknjggcpaaGreatDoor.VM
open Go
variable {cx:Cx} {U:Nat→Prop} {X:vad} {ρ:Nat→Value} {F:Nat→vad} {st:St} {sh:va4} {V:Nat} {a:Act} {w:World}
theorem vxr {b:Nat} {Φ:Nat→Option Callee} (hq:Qok st):∀f c (xs:List TV),Φ f=some c→c.keeps=false→∀ps cs s1 s2,(lendA c.keeps (b+100) c.modes xs).run st=some (ps,s1)→(show_ c.keeps c.modes xs ps).run s1=some (cs,s2)→va0 cs:=by
 intro f c xs _ hk ps cs s1 s2 h1 h2;obtain ⟨q1,r1⟩:=qkv c.keeps (b+100) c.modes xs st ps s1 h1 hq;exact (qa8 c.keeps c.modes xs ps r1 s1 cs s2 h2 q1).2 hk
theorem qlq {x y:Operand} (h:sameOpd x y=true):x=y:=by
 unfold sameOpd at h;split at h
 ·rw [beq_iff_eq] at h;subst h;rfl
 ·rw [beq_iff_eq] at h;subst h;rfl
 ·cases h
theorem qv5 {Φ:Nat→Option Callee} (hS:∀f c,Φ f=some c→Sound cx.P f c) (h:G cx U (fun _ _=>False) ρ F st a w) (hq:Qok st) {b:Nat} (hb:∀i,b≤i→i<b+100→¬U i) {ops:Array Oper} {o:Oper} {v:VOp} (hc:cOp1 cx.P ops o=some v)
  (hd:∀d,o.dst=some d→d<cx.n) {s1:St} (hr:(exec Φ b v).run st=some ((),s1)):Now cx U b o s1 a w:=by
 unfold cOp1 at hc;split at hc
 ·rename_i hop hdst;obtain ⟨y,hy,rfl⟩:=Aa.1 hc;exact qgf h hdst (hd _ hdst) (.inl hop) hy hr
 ·rename_i hop hdst;obtain ⟨y,hy,rfl⟩:=Aa.1 hc;exact qgf h hdst (hd _ hdst) (.inr hop) hy hr
 ·rename_i hop hdst;split at hc
  ·rename_i h1 h2 h3;cases hc;exact qkd h hdst (hd _ hdst) hop h1 h2 h3 hr
  ·cases hc
 ·rename_i hop hdst;obtain ⟨y,hy,rfl⟩:=Aa.1 hc;exact qhf h hb hdst (hd _ hdst) hop hy hr
 ·rename_i hop hdst;split at hc
  ·obtain ⟨y,hy,rfl⟩:=Aa.1 hc;exact qp4 h hb hdst (hd _ hdst) hop hy hr
  ·cases hc
 ·rename_i hop hdst;split at hc
  ·rename_i h1 h2 h3;split at hc
   ·rename_i h4;cases hc;exact qhr h hdst (hd _ hdst) hop h1 h2 h3 h4 hr
   ·cases hc
  ·cases hc
 ·rename_i hop hdst;split at hc
  ·rename_i h0;split at hc
   ·rename_i h1 h2 h3;split at hc
    ·rename_i h4;cases hc;exact qx3 h hb hdst (hd _ hdst) hop h0 h1 h2 h3 h4 hr
    ·cases hc
   ·cases hc
  ·cases hc
 ·rename_i hop hdst;split at hc
  ·rename_i h1 h2;split at hc
   ·rename_i hl;cases hc;obtain ⟨_,rfl⟩:=hl;exact qon h hdst (hd _ hdst) hop h1 h2 hr
   ·cases hc;exact qkt h hdst (hd _ hdst) hop h1 h2 hr
  ·cases hc
 ·rename_i hop hdst;split at hc
  ·rename_i h1 h2 h3 h4;cases hc;exact qg7 h hb hdst hop h2 h3 h4 hr
  ·cases hc
 ·rename_i hop hdst;obtain ⟨y,hy,rfl⟩:=Aa.1 hc;exact qgg h hdst (hd _ hdst) hop hy hr
 ·rename_i hop hdst;split at hc
  ·split at hc
   ·rename_i h1 h2;cases hc;exact qpm h hdst (hd _ hdst) hop h1 h2 hr
   ·cases hc
  ·split at hc
   ·rename_i hbt;split at hc
    ·rename_i h1 h2 h3;cases hc;exact qrg h hdst (hd _ hdst) hop h1 h2 hbt h3 hr
    ·cases hc
   ·split at hc
    ·rename_i h0 h1 h2 h3;cases hc;exact qx0 h hdst (hd _ hdst) hop h1 h2 h0 h3 hr
    ·cases hc
 ·rename_i hop hdst;obtain ⟨y,hy,rfl⟩:=Aa.1 hc;exact qvr h (t':=0) hdst (hd _ hdst) hop hy hr
 ·rename_i hop hdst;split at hc
  ·rename_i h1 h2 h3;cases hc;exact qos h hdst (hd _ hdst) hop h1 h2 h3 hr
  ·rename_i h1 h2 h3;cases hc;exact qox h hdst (hd _ hdst) hop h1 h2 h3 hr
  ·rename_i h1 h2 h3;split at hc
   ·rename_i h4;split at hc
    ·rename_i h5;cases hc;exact qpx h hb hdst (hd _ hdst) hop h1 h2 h4 h5 h3 hr
    ·cases hc
   ·cases hc
  ·rename_i h1 h2 h3;split at hc
   ·rename_i h4;cases hc;exact qpv h hdst (hd _ hdst) hop h1 h4 h2 h3 hr
   ·cases hc
  ·cases hc
 ·rename_i hop hdst;split at hc
  ·rename_i h1 h2;cases hc;exact qoj h hdst (hd _ hdst) hop h1 h2 hr
  ·cases hc
 ·rename_i hop hdst;split at hc
  ·rename_i hcon;obtain ⟨y,hy,rfl⟩:=Aa.1 hc;exact qqq h hdst (hd _ hdst) hop (fun v=>run_makeInterface w _ v hcon) hy hr
  ·cases hc
 ·rename_i hop hdst;split at hc
  ·rename_i h0;split at hc
   ·rename_i h2 h3 h4;split at hc
    ·rename_i hcond;cases hc;rw [←qlq hcond] at hop;exact qqy h hb hdst (hd _ hdst) hop h0 h2 h3 h4 hr
    ·cases hc
   ·cases hc
  ·cases hc
 ·rename_i hop hdst;split at hc
  ·rename_i h1 h2 h3 h4;cases hc;exact qlb h hdst (hd _ hdst) hop h1 h2 h3 h4 hr
  ·rename_i h1 h2 h3 h4;split at hc
   ·rename_i hs;cases hc;obtain ⟨m,hm⟩:=Am.1 hs;exact qqb h hdst (hd _ hdst) hop h1 hm h2 h3 h4 hr
   ·cases hc
  ·cases hc
 ·rename_i hop hdst;split at hc
  ·rename_i h1 h2;split at hc
   ·rename_i hcond;cases hc;obtain ⟨m,hm⟩:=Am.1 hcond.2.2;exact qlh h hb hdst (hd _ hdst) hop h1 hm h2 hcond.1 hcond.2.1 hr
   ·cases hc
  ·cases hc
 ·rename_i hop hdst;split at hc
  ·rename_i h1 h2;split at hc
   ·rename_i h3;cases hc;exact qn2 h hdst (hd _ hdst) hop h1 h3 h2 hr
   ·cases hc
  ·cases hc
 ·rename_i hop hdst;split at hc
  ·rename_i h1;split at hc
   ·rename_i h2 h3;cases hc;exact qps h hdst (hd _ hdst) hop h1 h2 h3 hr
   ·cases hc
  ·cases hc
 ·rename_i hop hdst;split at hc
  ·rename_i h0;split at hc
   ·rename_i h1 h2 h3;split at hc
    ·cases hc;exact qri h hdst (hd _ hdst) hop h0 h1 h2 h3 hr
    ·cases hc
   ·cases hc
  ·cases hc
 ·rename_i hop hdst;split at hc
  ·rename_i h0;split at hc
   ·rename_i h1 h2;cases hc;exact qvt h hdst (hd _ hdst) hop h0 h1 h2 hr
   ·cases hc
  ·cases hc
 ·rename_i hop hdst;obtain ⟨y,hy,rfl⟩:=Aa.1 hc;exact qo2 h hdst (hd _ hdst) hop hy hr
 ·rename_i hop hdst;split at hc
  ·rename_i ha ht;have ha':=Ag.1 (ha.trans (Ad).symm);have ht':=Ag.1 (ht.trans (Ad).symm);split at hc
   ·rename_i h0;obtain ⟨y,hy,rfl⟩:=Aa.1 hc;exact qkz h hdst (hd _ hdst) hop rfl ha' ht' h0 hy hr
   ·rename_i h0;obtain ⟨y,hy,rfl⟩:=Aa.1 hc;exact qqe h hdst (hd _ hdst) hop rfl ha' ht' h0 hy hr
   ·cases hc
  ·cases hc
 ·rename_i hop hdst;split at hc
  ·rename_i ha ht;have ha':=Ag.1 (ha.trans (Ad).symm);have ht':=Ag.1 (ht.trans (Ad).symm);split at hc
   ·rename_i h0 _;split at hc
    ·rename_i hcond;obtain ⟨rfl,rfl⟩:=hcond;split at hc
     ·rename_i h1 h2 h3 h4 h5;split at hc
      ·rename_i hpos;cases hc;exact qp5 h hb hdst (hd _ hdst) hop rfl ha' ht' h0 h1 h2 h3 hpos.1 h4 h5 hr
      ·cases hc
     ·cases hc
    ·cases hc
   ·cases hc
  ·cases hc
 ·rename_i hop hdst;split at hc
  ·rename_i hcond;simp only [Al,decide_eq_true_eq] at hcond;obtain ⟨y,hy,rfl⟩:=Aa.1 hc;exact qik h hdst (hd _ hdst) (isMax:=true) hop rfl hcond.1 hy hr
  ·cases hc
 ·rename_i hop hdst;split at hc
  ·rename_i hcond;simp only [Al,decide_eq_true_eq] at hcond;obtain ⟨y,hy,rfl⟩:=Aa.1 hc;exact qik h hdst (hd _ hdst) (isMax:=false) hop rfl hcond.1 hy hr
  ·cases hc
 ·rename_i hop;split at hc
  ·cases hc
  ·rename_i hsz;obtain ⟨y,hy,rfl⟩:=Aa.1 hc;split at hr
   ·exact qj2 h hb rfl hd hop rfl (Ah hsz) hy (hS _) (fun c xs=>vxr hq _ c xs) hr
   ·exact qdj h hb rfl hd hop rfl (Ah hsz) hy (hS _) (fun c xs=>vxr hq _ c xs) hr
 ·rename_i hop;split at hc
  ·cases hc
  ·rename_i hsz;obtain ⟨y,hy,rfl⟩:=Aa.1 hc;have hn:=Nat.lt_of_not_le fun h=>hsz (.inr h);have hsz':=Ah fun h=>hsz (.inl h);exact qky h hb rfl hd hop hn rfl hsz' hy hS (fun f c xs=>vxr hq f c xs) hr
 ·rename_i hop;split at hc
  ·cases hc
  ·rename_i hsz;have hn:=Nat.lt_of_not_le fun h=>hsz (.inr h);have hsz':=Ah fun h=>hsz (.inl h);split at hc
   ·rename_i hm hx;cases hc;exact qkn h hb rfl hd hop hn rfl hsz' hm hx hS (fun f c xs=>vxr hq f c xs) hr
   ·cases hc
 ·rename_i hop hdst;split at hc
  ·rename_i ha ht;have ha':=Ag.1 (ha.trans (Ad).symm);have ht':=Ag.1 (ht.trans (Ad).symm);split at hc
   ·rename_i h0;split at hc
    ·rename_i h1 h2 h3;cases hc;exact qrk h hdst hop rfl ha' ht' h0 h1 h2 h3 hr
    ·cases hc
   ·cases hc
  ·cases hc
 ·cases hc
theorem qrm {Φ:Nat→Option Callee} (hS:∀f c,Φ f=some c→Sound cx.P f c) (h:G cx U (fun _ _=>False) ρ F st a w) (hq:Qok st) {b:Nat} (hb:∀i,b≤i→i<b+100→¬U i) {ops:Array Oper} {o:Oper} {v:VOp} (hc:cOp cx.P ops o=some v)
  (hd:∀d,o.dst=some d→d<cx.n) {s1:St} (hr:(exec Φ b v).run st=some ((),s1)):Now cx U b o s1 a w:=by
 unfold cOp at hc;cases h1:cOp1 cx.P ops o with
 |none=>
  rw [h1] at hc;cases hc;exact (vac hr).elim
 |some x=>
  rw [h1] at hc;cases hc;exact qv5 hS h hq hb h1 hd hr
