/- The interpreter 'VM': a slice that is not marked has no frozen parts: each operation keeps that. The interpreter 'VM': each operation, by the compiler's cases. -/
import Derived.Test.YtpnnhokaehghfaaDoorVmQs
open Option renaming map_eq_some_iff->Aa,isSome_iff_exists->Am
open Option.some renaming injEq->Ab
open List renaming mem_of_getElem?->Ac,toList_toArray->Ad,mem_or_eq_of_mem_set->Af,mem_of_mem_drop->Ai,mem_replicate->Aj,mem_map->Ak,mem_of_mem_take->An,mem_append->Ao
open Bool renaming or_eq_false_iff->Ae,and_eq_true->Al,not_false->Ap
open Array renaming toList_inj->Ag
open Decidable renaming of_not_not->Ah
namespace Go.Proofs.YtpnnhokaehghfaaDoor.VM
open Go
theorem vbb:∀{l:List PV},vbi l↔∀x∈l,nofz x
 | []=>by simp [vbi]
 |c::cs=>by simp [vbi,vbb (l:=cs)]
theorem vi4 {x:PV} (h:nofz x):∀c∈x.cells,nofz c:=by
 cases x with
 |st cs=>exact fun c hc=>vbb.1 (show vbi cs by simpa [nofz] using h) c hc
 |_=>intro c hc;simp [PV.cells] at hc;subst hc;exact h
theorem vkk {l:List PV} (h:∀c∈l,nofz c):nofz (.st l):=by simp only [nofz];exact vbb.2 h
theorem vgp {x:PV} {o:Nat} {ys:List PV} (h:nofz x) (hy:∀c∈ys,nofz c):nofz (va6 x o ys):=by
 unfold va6;split
 ·rename_i cs;apply vkk;intro c hc;simp only [Ao] at hc;have hcs:=vi4 h;rcases hc with (hc|hc)|hc
  ·exact hcs c (An hc)
  ·exact hy c hc
  ·exact hcs c (Ai hc)
 ·split
  ·exact hy _ (by simp)
  ·exact h
theorem vt0 (x:PV):nofz x.cpy:=by
 cases x with
 |st cs=>
  apply vkk;intro c hc;obtain ⟨y,_,rfl⟩:=Ak.1 hc;split<;>simp [nofz]
 |_=>simp [PV.cpy,nofz]
theorem vvf (z:ZC):nofz z.pv:=by cases z<;>simp [ZC.pv,nofz,vbi]
theorem voh (m:Nat) (zs:List ZC):nofz (zeroEl m zs):=by
 unfold zeroEl;split
 ·cases zs with
  |nil=>simp [nofz]
  |cons z zs=>exact vvf z
 ·apply vkk;intro c hc;obtain ⟨z,_,rfl⟩:=Ak.1 hc;exact vvf z
def Qm {α:Type} (m:M α) (R:α→Prop):Prop:=∀st r st',m.run st=some (r,st')→Qok st→Qok st'∧R r
theorem Qm.bind {α β:Type} {m:M α} {k:α→M β} {R:α→Prop} {S:β→Prop} (h:Qm m R) (hk:∀x,R x→Qm (k x) S):Qm (m.bind k) S:=by
 intro st r st' hr hq;obtain ⟨x,s1,h1,h2⟩:=vaa hr;obtain ⟨q1,r1⟩:=h st x s1 h1 hq;exact hk x r1 s1 r st' h2 q1
theorem Qm.pure {α:Type} {x:α} {R:α→Prop} (h:R x):Qm (M.pure x) R:=by
 intro st r st' hr hq;cases run_pure hr;exact ⟨hq,h⟩
theorem Qm.fail {α:Type} {R:α→Prop}:Qm (M.fail:M α) R:=fun _ _ _ hr=>(vab hr).elim
theorem Qm.getS (t:Nat):Qm (getS t) fun _=>True:=by
 intro st r st' hr hq;cases ve8 hr;exact ⟨hq,trivial⟩
theorem Qm.setS (t:Nat) (v:TV):Qm (setS t v) fun _=>True:=by
 intro st r st' hr hq;cases vaq hr;exact ⟨fun id ver e es hn=>hq id ver e es hn,trivial⟩
theorem Qm.getN (id:Nat):Qm (getN id) fun n=>∀ver e es,n=some (.sl false ver e es)→vbi es:=by
 intro st r st' hr hq;cases vay hr;exact ⟨hq,fun ver e es hn=>hq id ver e es hn⟩
theorem Qm.setN (id:Nat) (n:Option Node) (h:∀ver e es,n=some (.sl false ver e es)→vbi es):Qm (setN id n) fun _=>True:=by
 intro st r st' hr hq;cases va8 hr;refine ⟨fun j ver e es hn=> ?_,trivial⟩;rw [vc8] at hn;split at hn
 ·exact h ver e es hn
 ·exact hq j ver e es hn
theorem Qm.liftO {α:Type} (x:Option α):Qm (liftO x) fun r=>x=some r:=by
 intro st r st' hr hq;obtain ⟨h1,h2⟩:=vby hr;simp only at h1 h2;subst h2;exact ⟨hq,h1⟩
theorem Qm.weak {α:Type} {m:M α} {R S:α→Prop} (h:Qm m R) (hs:∀x,R x→S x):Qm m S:=fun st r st' hr hq=>let ⟨h1,h2⟩:=h st r st' hr hq;⟨h1,hs r h2⟩
abbrev Qt {α:Type} (m:M α):Prop:=Qm m fun _=>True
theorem Qt.of {α:Type} {m:M α} {R:α→Prop} (h:Qm m R):Qt m:=h.weak fun _ _=>trivial
theorem Qt.bind {α β:Type} {m:M α} {k:α→M β} {S:β→Prop} (h:Qt m) (hk:∀x,Qm (k x) S):Qm (m.bind k) S:=Qm.bind h fun x _=>hk x
theorem vbt (x:Opd):Qt (opd x):=by
 cases x<;>first|exact Qm.getS _|exact Qm.pure trivial
theorem vfj:∀(xs:List Opd),Qt (opds xs)
 | []=>Qm.pure trivial
 |x::xs=>(vbt x).bind fun _=>(vfj xs).bind fun _=>Qm.pure trivial
theorem vet (x:Option Opd):Qt (bound x):=by
 cases x with
 |none=>exact Qm.pure trivial
 |some y=>
  refine (vbt y).bind fun u=> ?_;split
  ·exact Qm.pure trivial
  ·exact Qm.fail
theorem vos (w:Option Nat) (v:TV):Qt (loadAt w v):=by unfold loadAt;(repeat' (first|exact Qm.pure trivial|exact Qm.fail|exact Qm.setS _ _|exact Qm.getS _|exact Qt.of (Qm.getN _)|exact Qt.of (Qm.liftO _)|(refine Qt.bind (Qt.of (Qm.getN _)) fun _=> ?_)|(refine Qt.bind (Qt.of (Qm.liftO _)) fun _=> ?_)|(refine Qt.bind (Qm.getS _) fun _=> ?_)|(refine Qt.bind (vbt _) fun _=> ?_)|(refine Qt.bind (vfj _) fun _=> ?_)|(refine Qt.bind (vet _) fun _=> ?_)|split))
theorem vkj (v:TV):Qt (elems v):=by unfold elems;(repeat' (first|exact Qm.pure trivial|exact Qm.fail|exact Qm.setS _ _|exact Qm.getS _|exact Qt.of (Qm.getN _)|exact Qt.of (Qm.liftO _)|(refine Qt.bind (Qt.of (Qm.getN _)) fun _=> ?_)|(refine Qt.bind (Qt.of (Qm.liftO _)) fun _=> ?_)|(refine Qt.bind (Qm.getS _) fun _=> ?_)|(refine Qt.bind (vbt _) fun _=> ?_)|(refine Qt.bind (vfj _) fun _=> ?_)|(refine Qt.bind (vet _) fun _=> ?_)|split))
theorem vy4 (e:Nat) (v:TV) (l h:Option Int):Qt (sliceAt e v l h):=by unfold sliceAt;(repeat' (first|exact Qm.pure trivial|exact Qm.fail|exact Qm.setS _ _|exact Qm.getS _|exact Qt.of (Qm.getN _)|exact Qt.of (Qm.liftO _)|(refine Qt.bind (Qt.of (Qm.getN _)) fun _=> ?_)|(refine Qt.bind (Qt.of (Qm.liftO _)) fun _=> ?_)|(refine Qt.bind (Qm.getS _) fun _=> ?_)|(refine Qt.bind (vbt _) fun _=> ?_)|(refine Qt.bind (vfj _) fun _=> ?_)|(refine Qt.bind (vet _) fun _=> ?_)|split))
theorem qcj (v:TV) (l h:Option Int):Qt (strAt v l h):=by unfold strAt;(repeat' (first|exact Qm.pure trivial|exact Qm.fail|exact Qm.setS _ _|exact Qm.getS _|exact Qt.of (Qm.getN _)|exact Qt.of (Qm.liftO _)|(refine Qt.bind (Qt.of (Qm.getN _)) fun _=> ?_)|(refine Qt.bind (Qt.of (Qm.liftO _)) fun _=> ?_)|(refine Qt.bind (Qm.getS _) fun _=> ?_)|(refine Qt.bind (vbt _) fun _=> ?_)|(refine Qt.bind (vfj _) fun _=> ?_)|(refine Qt.bind (vet _) fun _=> ?_)|split))
theorem vyp (o:Nat) (v:TV):Qt (fieldAt o v):=by unfold fieldAt;(repeat' (first|exact Qm.pure trivial|exact Qm.fail|exact Qm.setS _ _|exact Qm.getS _|exact Qt.of (Qm.getN _)|exact Qt.of (Qm.liftO _)|(refine Qt.bind (Qt.of (Qm.getN _)) fun _=> ?_)|(refine Qt.bind (Qt.of (Qm.liftO _)) fun _=> ?_)|(refine Qt.bind (Qm.getS _) fun _=> ?_)|(refine Qt.bind (vbt _) fun _=> ?_)|(refine Qt.bind (vfj _) fun _=> ?_)|(refine Qt.bind (vet _) fun _=> ?_)|split))
theorem vyc (e m:Nat) (v:TV) (i:Int):Qt (indexAt e m v i):=by
 unfold indexAt;refine Qt.bind (vkj _) fun _=> ?_
 (repeat' (first|exact Qm.pure trivial|exact Qm.fail|exact Qm.setS _ _|exact Qm.getS _|exact Qt.of (Qm.getN _)|exact Qt.of (Qm.liftO _)|(refine Qt.bind (Qt.of (Qm.getN _)) fun _=> ?_)|(refine Qt.bind (Qt.of (Qm.liftO _)) fun _=> ?_)|(refine Qt.bind (Qm.getS _) fun _=> ?_)|(refine Qt.bind (vbt _) fun _=> ?_)|(refine Qt.bind (vfj _) fun _=> ?_)|(refine Qt.bind (vet _) fun _=> ?_)|split))
theorem vxk (x:TV):Qm (toPV x) fun r=>r.2=false→nofz r.1:=by
 unfold toPV;split
 ·split
  ·exact Qm.pure fun _=>by simp [nofz]
  ·exact Qm.fail
 ·exact Qm.pure fun _=>by simp [nofz,vbi]
 ·exact Qm.pure fun h=>by cases h
 ·refine (Qm.getN _).bind fun n hn=> ?_;split
  ·rename_i q ver e es;refine Qt.bind (Qm.setN _ _ fun _ _ _ h=>by cases h) fun _=>Qm.pure fun hq=> ?_;simp only at hq;subst hq;simp only [nofz];exact hn _ _ _ rfl
  ·exact Qm.fail
 ·exact Qm.fail
theorem vq9:∀(xs:List TV),Qm (toPVs xs) fun r=>r.2=false→∀c∈r.1,nofz c
 | []=>Qm.pure fun _=>by simp
 |x::xs=>by
  unfold toPVs;refine (vxk x).bind fun y hy=>(vq9 xs).bind fun ys hys=>Qm.pure fun hq=> ?_;simp only [Ae] at hq;intro c hc;cases hc with
  |head=>exact hy hq.1
  |tail _ hc=>exact hys hq.2 c hc
theorem voi {x:TV} {y:PV} (h:atomPV x=some y):nofz y:=by
 unfold atomPV at h;split at h
 ·split at h
  ·cases h;simp [nofz]
  ·cases h
 ·cases h
theorem vji:∀{xs:List TV} {ys:List PV},vck xs=some ys→∀y∈ys,nofz y
 | [],ys,h=>by cases h;simp
 |x::xs,ys,h=>by
  simp only [vck] at h;split at h
  ·rename_i y ys' h1 h2;cases h;intro c hc;cases hc with
   |head=>exact voi h1
   |tail _ hc=>exact vji h2 c hc
  ·cases h
theorem vyu (flat:Bool) (x:TV):Qm (toEl flat x) fun r=>r.2=false→nofz r.1:=by
 unfold toEl;split
 ·split
  ·refine (Qm.liftO _).bind fun ys hys=>Qm.pure fun _=>vkk (vji hys)
  ·exact (vq9 _).bind fun ys hys=>Qm.pure fun hq=>vkk (hys hq)
 ·split
  ·exact (Qm.liftO _).bind fun y hy=>Qm.pure fun _=>voi hy
  ·exact vxk _
theorem vzd (flat:Bool) (m:Nat):∀(ps:List (Nat×Opd)) (q:Bool) (es:List PV),(q=false→vbi es)→Qm (bslM flat m ps q es) fun r=>r.2=false→vbi r.1
 | [],q,es,h=>Qm.pure h
 |(i,x)::ps,q,es,h=>by
  unfold bslM;refine (vbt x).bind fun v=>(vyu flat v).bind fun y hy=> ?_;split
  ·refine vzd flat m ps _ _ fun hq=> ?_;simp only [Ae] at hq;refine vbb.2 fun c hc=> ?_;rcases Af hc with hc|rfl
   ·exact vbb.1 (h hq.1) c hc
   ·exact hy hq.2
  ·exact Qm.fail
theorem vsz:∀(ps:List (Nat×Nat×Opd)) (cs:List TV),Qt (buildM ps cs)
 | [],cs=>Qm.pure trivial
 |(o,w,x)::ps,cs=>by
  unfold buildM;refine (vbt x).bind fun v=> ?_;split
  ·exact vsz ps _
  ·exact Qm.fail
theorem vmu {es:List PV} {i:Nat} {x:PV} (h:vbi es) (hx:nofz x):vbi (es.set i x):=
 vbb.2 fun y hy=>(Af hy).elim (vbb.1 h y) fun e=>e▸hx
theorem vim:∀(p:List (Nat×Nat×Nat)) {es:List PV} {r:Nat×List PV},vbi es→dget es p=some r→vbi r.2
 | [],es,r,h,hr=>by simp [dget] at hr
 |(i,m,o)::p,es,r,h,hr=>by
  simp only [dget] at hr;split at hr
  ·cases hr
  ·rename_i x hx;split at hr
   ·split at hr
    ·rename_i e es' hc;have h1:vbi es':=by
      have:=vi4 (vbb.1 h x (Ac hx)) _ (Ac hc);simpa only [nofz] using this
     split at hr
     ·cases hr;exact h1
     ·exact vim _ h1 hr
    ·cases hr
   ·cases hr
theorem vg6 {c:PV} (hc:nofz c):∀(p:List (Nat×Nat×Nat)) {es es1:List PV},vbi es→dput es p c=some es1→vbi es1
 | [],es,es1,h,hr=>by simp [dput] at hr
 |(i,m,o)::p,es,es1,h,hr=>by
  simp only [dput] at hr;split at hr
  ·cases hr
  ·rename_i x hx;have hxn:=vbb.1 h x (Ac hx);split at hr
   ·split at hr
    ·cases hr
    ·rename_i c0 hc0;split at hr
     ·cases hr;exact vmu h (vgp hxn (by simpa using hc))
     ·split at hr
      ·rename_i e es';split at hr
       ·rename_i in' hin;cases hr;have h1:vbi es':=by
         have:=vi4 hxn _ (Ac hc0);simpa only [nofz] using this
        exact vmu h (vgp hxn (by simpa only [List.mem_singleton,forall_eq,nofz] using vg6 hc _ h1 hin))
       ·cases hr
      ·cases hr
   ·cases hr
theorem vzn (b w:Nat) (x y:TV):Qt (storeAt b w x y):=by
 have box:∀id o,Qt (storeBox w id o y):=by
  intro id o;unfold storeBox;refine (Qm.getN _).bind fun n hn=> ?_;split
  ·split
   ·exact Qm.setN _ _ fun _ _ _ h=>by cases h
   ·exact Qm.fail
  ·exact Qm.fail
 unfold storeAt;split
 ·exact box _ _
 ·exact box _ _
 ·refine (vq9 _).bind fun ys hys=>(Qm.getN _).bind fun n hn=> ?_;split
  ·rename_i q ver e es;split
   ·rename_i x0 hx0;split
    ·refine Qm.setN _ _ fun ver' e' es' h=> ?_;simp only [Ab,Node.sl.injEq] at h;obtain ⟨hq,_,_,rfl⟩:=h;simp only [Ae] at hq;have hes:vbi es:=hn ver e es (by rw [hq.1]);refine vbb.2 fun c hc=> ?_;rcases Af hc with hc|rfl
     ·exact vbb.1 hes c hc
     ·exact vgp (vbb.1 hes x0 (Ac hx0)) (hys hq.2)
    ·exact Qm.fail
   ·exact Qm.fail
  ·exact Qm.fail
 ·refine (Qm.getN _).bind fun n hn=> ?_;split
  ·rename_i q ver e es;split
   ·unfold vh8;split
    ·rename_i e' es' ys hget hys;split
     ·rename_i x0 hx0;split
      ·split
       ·rename_i es1 hput;refine Qm.setN _ _ fun ver' e2 es2 h=> ?_;simp only [Ab,Node.sl.injEq] at h;obtain ⟨hq,_,_,rfl⟩:=h;have hes:vbi es:=hn ver e es (by rw [hq]);have he:=vim _ hes hget;refine vg6 (c:= .sl e' (es'.set _ _)) ?_ _ hes hput;simp only [nofz];exact vmu he (vgp (vbb.1 he x0 (Ac hx0)) (vji hys))
       ·exact Qm.fail
      ·exact Qm.fail
     ·exact Qm.fail
    ·exact Qm.fail
   ·exact Qm.fail
  ·exact Qm.fail
 ·exact Qm.fail
theorem qdh (b e:Nat) (x:TV):Qm (appTo b e x) fun r=>r.2=false→vbi r.1:=by
 unfold appTo;split
 ·split
  ·exact Qm.pure fun _=>by simp [vbi]
  ·exact Qm.fail
 ·refine (Qm.getN _).bind fun n hn=> ?_;split
  ·rename_i q ver e' es;split
   ·refine Qt.bind (Qm.setN _ _ fun _ _ _ h=>by cases h) fun _=>Qm.pure fun hq=> ?_;simp only at hq;subst hq;exact hn _ _ _ rfl
   ·exact Qm.fail
  ·exact Qm.fail
 ·rename_i id lo k;refine (Qm.getN _).bind fun n hn=> ?_;split
  ·rename_i q ver e' es;split
   ·split
    ·refine Qt.bind (Qm.setN _ _ fun _ _ _ h=>by cases h) fun _=>Qm.pure fun hq=> ?_;simp only at hq;subst hq;exact vbb.2 fun c hc=>vbb.1 (hn _ _ _ rfl) c (Ai hc)
    ·exact Qm.fail
   ·exact Qm.fail
  ·exact Qm.fail
 ·refine (Qm.getN _).bind fun n hn=> ?_;split
  ·rename_i q ver e' es;split
   ·unfold takeIn;split
    ·rename_i r es1 hg hp;split
     ·refine Qt.bind (Qm.setN _ _ fun _ _ _ h=> ?_) fun _=>Qm.pure fun hq=> ?_
      ·simp only [Ab,Node.sl.injEq] at h;obtain ⟨hq,_,_,rfl⟩:=h;exact vg6 (by simp only [nofz]) _ (hn ver e' es (by rw [hq])) hp
      ·simp only at hq;subst hq;exact vim _ (hn _ _ _ rfl) hg
     ·exact Qm.fail
    ·exact Qm.fail
   ·exact Qm.fail
  ·exact Qm.fail
 ·exact Qm.fail
theorem vrt (es:List PV):vbi (es.map PV.cpy):=vbb.2 fun c hc=>by
 obtain ⟨x,_,rfl⟩:=Ak.1 hc;exact vt0 x
theorem qb5 (b:Nat) (x:TV):Qt (pull1 b x):=by
 unfold pull1;split
 ·refine (Qm.getN _).bind fun n hn=> ?_;split
  ·rename_i q ver' e' es;split
   ·unfold pullK;split
    ·rename_i r hg;refine Qm.bind (R:=fun z=>z.2=false→vbi z.1) ?_ fun z hz=>Qt.bind (Qm.setN _ _ fun ver e es h=> ?_) fun _=>Qm.pure trivial
     ·unfold takeIn;split
      ·rename_i r1 es1 hg2 hp;cases hg2;split
       ·refine Qt.bind (Qm.setN _ _ fun _ _ _ h=> ?_) fun _=>Qm.pure fun hq=> ?_
        ·simp only [Ab,Node.sl.injEq] at h;obtain ⟨hq,_,_,rfl⟩:=h;exact vg6 (by simp only [nofz]) _ (hn ver' e' es (by rw [hq])) hp
        ·simp only at hq;subst hq;exact vim _ (hn _ _ _ rfl) hg
       ·exact Qm.fail
      ·exact Qm.fail
     ·simp only [Ab,Node.sl.injEq] at h;obtain ⟨hq,_,_,rfl⟩:=h;exact hz hq
    ·exact Qm.fail
   ·exact Qm.fail
  ·exact Qm.fail
 ·exact Qm.pure trivial
theorem vvs (b:Nat):∀(xs:List TV),Qt (pullL b xs)
 | []=>Qm.pure trivial
 |x::xs=>by
  unfold pullL;split
  ·exact Qt.bind (qb5 _ _) fun _=>Qm.pure trivial
  ·exact Qt.bind (vvs b xs) fun _=>Qm.pure trivial
theorem vtx (b:Nat) (u v:TV):Qt (pullTo b u v):=by
 unfold pullTo;split
 ·exact Qt.bind (vvs _ _) fun _=>Qm.pure trivial
 ·exact Qm.pure trivial
theorem qeg (b:Nat) (flat:Bool) (m:Nat) (ps:List (Nat×Opd)) (es:List PV) (h:vbi es):Qm (bslQ b flat m ps es) fun r=>r.2=false→vbi r.1:=by
 unfold bslQ;split
 ·refine Qt.bind (vbt _) fun v=>Qt.bind (vtx _ _ _) fun v=>(vyu _ v).bind fun y hy=> ?_;split
  ·refine Qm.pure fun hq=>vbb.2 fun c hc=> ?_;rcases Af hc with hc|rfl
   ·exact vbb.1 h c hc
   ·exact hy hq
  ·exact Qm.fail
 ·exact vzd _ _ _ _ _ fun _=>h
theorem qc1 (e:Nat) (mv:Bool) (y:TV):Qm (appOf e mv y) fun r=>r.2=false→vbi r.1:=by
 unfold appOf;split
 ·refine (Qm.getN _).bind fun n hn=> ?_;split
  ·rename_i q ver e' es;split
   ·split
    ·refine Qt.bind (Qm.setN _ _ fun _ _ _ h=>by cases h) fun _=>Qm.pure fun hq=> ?_;simp only at hq;subst hq;exact hn _ _ _ rfl
    ·exact Qm.pure fun _=>vrt _
   ·exact Qm.fail
  ·exact Qm.fail
 ·refine Qt.bind (vkj _) fun r=> ?_;split
  ·unfold cpyOf;split
   ·exact Qm.pure fun h=>by cases h
   ·exact Qm.pure fun _=>vrt _
  ·exact Qm.fail
theorem vzb (b e bytes:Nat) (mv:Bool) (x y:TV):Qt (appendM b e bytes mv x y):=by
 unfold appendM;refine (qdh b e x).bind fun xs hxs=>(qc1 e mv y).bind fun ys hys=> ?_;split
 ·refine Qt.bind (Qm.setN _ _ fun ver' e' es' h=> ?_) fun _=>Qm.pure trivial;simp only [Ab,Node.sl.injEq] at h;obtain ⟨hq,_,_,rfl⟩:=h;simp only [Ae] at hq;refine vbb.2 fun c hc=> ?_;rcases Ao.1 hc with hc|hc
  ·exact vbb.1 (hxs hq.1) c hc
  ·exact vbb.1 (hys hq.2) c hc
 ·exact Qm.fail
theorem vnj:∀{es:List PV},vbi es↔∀x∈es,nofz x
 | []=>by simp [vbi]
 |e::es=>by simp [vbi,vnj (es:=es)]
theorem vsa {es fs:List PV} (h:∀x∈fs,x∈es) (hn:vbi es):vbi fs:=vnj.2 fun x hx=>vnj.1 hn x (h x hx)
mutual
theorem qc2:∀{x:PV},nfz x=true→nofz x
 | .a _,_=>by simp [nofz]
 | .sl _ es,h=>by simp only [nfz] at h;simp only [nofz];exact vjs h
 | .fz _ _,h=>by simp [nfz] at h
 | .st cs,h=>by simp only [nfz] at h;simp only [nofz];exact vjs h
 | .un,_=>by simp [nofz]
theorem vjs:∀{l:List PV},nfzL l=true→vbi l
 | [],_=>by simp [vbi]
 |c::cs,h=>by simp only [nfzL,Al] at h;simp only [vbi];exact ⟨qc2 h.1,vjs h.2⟩
end
mutual
theorem vtt:∀(k:Nat) (x:TV),Qm (pack false k x) va0
 |0,x=>by unfold pack;exact Qm.fail
 |k+1,x=>by
  unfold pack;split
  ·exact Qm.pure (by simp [va0])
  ·exact Qm.pure (by simp [va0,vbi])
  ·exact Qm.fail
  ·exact (vkl k _).bind fun ys h=>Qm.pure (by simp only [va0];exact h)
  ·exact (vkl k _).bind fun xs h=>(vkl k _).bind fun ys h'=>Qm.pure (by simp only [va0];exact ⟨h,h'⟩)
  ·exact (vtt k _).bind fun y h=>Qm.pure (by simp only [va0];exact h)
  ·refine (Qm.getN _).bind fun n hn=> ?_;split
   ·rename_i q ver e es;cases q with
    |true=>
     cases hf:nfzL es with
     |false=>simp only [badFz,hf,Ap,Bool.and_self,if_true];exact Qm.fail
     |true=>
      simp only [badFz,hf,Bool.not_true,Bool.and_false,Bool.false_eq_true,if_false];exact Qt.bind (Qm.setN _ _ fun _ _ _ h=>by cases h) fun _=>Qm.pure (by simp only [va0];exact fun _=>vjs hf)
    |false=>exact Qt.bind (Qm.setN _ _ fun _ _ _ h=>by cases h) fun _=>Qm.pure (by simp only [va0];exact fun _=>hn _ _ _ rfl)
   ·split
    ·exact Qm.fail
    ·exact Qt.bind (Qm.setN _ _ fun _ _ _ h=>by cases h) fun _=>(vkl k _).bind fun ys h=>Qm.pure (by simp only [va0];exact h)
   ·exact Qm.pure (by simp [va0])
  ·exact Qm.pure (by simp [va0])
  ·refine (Qm.getN _).bind fun n hn=> ?_;split
   ·rename_i q ver e es;cases q with
    |true=>simp only [Bool.true_and,Ap,true_or,if_true];exact Qm.fail
    |false=>
     split
     ·exact Qm.fail
     ·exact Qt.bind (Qm.setN _ _ fun _ _ _ h=>by cases h) fun _=>Qm.pure (by simp only [va0];exact fun _=>vsa (fun x hx=>Ai (An hx)) (hn _ _ _ rfl))
   ·exact Qm.fail
  ·exact Qm.fail
theorem vkl:∀(k:Nat) (xs:List TV),Qm (vbm false k xs) vaj
 |0,xs=>by unfold vbm;exact Qm.fail
 |k+1,[]=>by unfold vbm;exact Qm.pure (by simp [vaj])
 |k+1,x::xs=>by
  unfold vbm;exact (vtt k x).bind fun y h=>(vkl k xs).bind fun ys h'=>Qm.pure (by simp only [vaj];exact ⟨h,h'⟩)
end
mutual
theorem vql (fz:Bool):∀(k:Nat) (x:TV),Qt (pack fz k x)
 |0,x=>by unfold pack;exact Qm.fail
 |k+1,x=>by
  unfold pack;split
  ·exact Qm.pure trivial
  ·exact Qm.pure trivial
  ·split
   ·exact Qm.pure trivial
   ·exact Qm.fail
  ·exact (vjl fz k _).bind fun ys=>Qm.pure trivial
  ·exact (vjl fz k _).bind fun xs=>(vjl fz k _).bind fun ys=>Qm.pure trivial
  ·exact (vql fz k _).bind fun y=>Qm.pure trivial
  ·refine (Qm.getN _).bind fun n hn=> ?_;split
   ·split
    ·exact Qm.fail
    ·exact Qt.bind (Qm.setN _ _ fun _ _ _ h=>by cases h) fun _=>Qm.pure trivial
   ·split
    ·exact Qm.fail
    ·exact Qt.bind (Qm.setN _ _ fun _ _ _ h=>by cases h) fun _=>(vjl fz k _).bind fun ys=>Qm.pure trivial
   ·exact Qm.pure trivial
  ·exact Qm.pure trivial
  ·refine (Qm.getN _).bind fun n hn=> ?_;split
   ·split
    ·exact Qm.fail
    ·exact Qt.bind (Qm.setN _ _ fun _ _ _ h=>by cases h) fun _=>Qm.pure trivial
   ·exact Qm.fail
  ·exact Qm.fail
theorem vjl (fz:Bool):∀(k:Nat) (xs:List TV),Qt (vbm fz k xs)
 |0,xs=>by unfold vbm;exact Qm.fail
 |k+1,[]=>by unfold vbm;exact Qm.pure trivial
 |k+1,x::xs=>by
  unfold vbm;exact (vql fz k x).bind fun y=>(vjl fz k xs).bind fun ys=>Qm.pure trivial
end
mutual
theorem vpf (z:Bool):∀(k n:Nat) (x:TV),Qm (vat z k n x) va0
 |0,n,x=>by unfold vat;exact Qm.fail
 |k+1,n,x=>by
  unfold vat;split
  ·exact Qm.pure (by simp [va0])
  ·exact Qm.pure (by simp [va0])
  ·exact Qm.pure (by simp [va0])
  ·exact (vhc z k _).bind fun ys h=>Qm.pure (by simp only [va0];exact h)
  ·exact (vhc z k _).bind fun xs h=>(vhc z k _).bind fun ys h'=>Qm.pure (by simp only [va0];exact ⟨h,h'⟩)
  ·exact (vpf z k _ _).bind fun y h=>Qm.pure (by simp only [va0];exact h)
  ·exact Qm.pure (by simp [va0])
  ·refine (Qm.getN _).bind fun n hn=> ?_;split
   ·split
    ·exact Qm.fail
    ·exact Qm.pure (by simp [va0])
   ·split
    ·exact Qm.fail
    ·exact (vhc z k _).bind fun ys h=>Qm.pure (by simp only [va0];exact h)
   ·exact Qm.fail
  ·split
   ·exact Qm.fail
   ·refine (Qm.getN _).bind fun n hn=> ?_;split
    ·exact Qm.pure (by simp [va0])
    ·exact Qm.fail
  ·split
   ·exact Qm.fail
   ·refine (Qm.getN _).bind fun n hn=> ?_;split
    ·split
     ·split
      ·exact Qm.pure (by simp [va0])
      ·exact Qm.fail
     ·exact Qm.fail
    ·exact Qm.fail
  ·split
   ·exact Qm.fail
   ·refine (Qm.getN _).bind fun n hn=> ?_;split
    ·split
     ·exact (vhc z k _).bind fun ys h=>Qm.pure (by simp only [va0];exact h)
     ·exact Qm.fail
    ·exact Qm.fail
  ·exact Qm.fail
theorem vhc (z:Bool):∀(k:Nat) (xs:List TV),Qm (va3 z k xs) vaj
 |0,xs=>by unfold va3;exact Qm.fail
 |k+1,[]=>by unfold va3;exact Qm.pure (by simp [vaj])
 |k+1,x::xs=>by
  unfold va3;exact (vpf z k 0 x).bind fun y h=>(vhc z k xs).bind fun ys h'=>Qm.pure (by simp only [vaj];exact ⟨h,h'⟩)
end
theorem vs3 (keeps:Bool):∀(ms:List Md) (xs:List TV),Qm (lend keeps ms xs) fun ys=>keeps=false→vaj ys
 | [],[]=>by unfold lend;exact Qm.pure fun _=>by simp [vaj]
 | .ro _::ms,_::xs=>by
  unfold lend;exact (vs3 keeps ms xs).bind fun ys h=>Qm.pure fun hk=>by simp only [vaj,va0,true_and];exact h hk
 | .mut _::ms,x::xs=>by
  unfold lend;have hp:Qm (lend0 keeps x) fun y=>keeps=false→va0 y:=by
   unfold lend0;split
   ·exact Qm.pure fun _=>by simp only [va0]
   cases keeps with
   |false=>exact (vtt depth x).weak fun y h _=>h
   |true=>exact (vql true depth x).weak fun y _ h=>by cases h
  exact hp.bind fun y h1=>(vs3 keeps ms xs).bind fun ys h=>Qm.pure fun hk=>by simp only [vaj];exact ⟨h1 hk,h hk⟩
 | [],_::_=>by unfold lend;exact Qm.fail
 | .ro _::_,[]=>by unfold lend;exact Qm.fail
 | .mut _::_,[]=>by unfold lend;exact Qm.fail
theorem qcx (keeps:Bool) (v:Nat) (x:TV) (y:CV) (hy:keeps=false→va0 y):Qm (lend1 keeps v x y) fun y=>keeps=false→va0 y:=by
 unfold lend1;split
 ·refine (Qm.getN _).bind fun n hn=> ?_;split
  ·rename_i q ver' e es;split
   ·exact Qm.fail
   ·rename_i hcond;split
    ·rename_i r es1 hg hp;refine Qm.bind (Qm.setN _ _ fun ver e0 es0 hh=> ?_) fun _ _=>Qm.pure fun hk=> ?_
     ·simp only [Ab,Node.sl.injEq] at hh;obtain ⟨hq,_,_,rfl⟩:=hh;subst hq;exact vg6 (by simp only [nofz]) _ (hn _ _ _ rfl) hp
     ·have hq:q=false:=by
       cases q with
       |false=>rfl
       |true=>exact absurd (.inl (by rw [hk];rfl)) hcond
      subst hq;simp only [va0];exact fun _=>vim _ (hn _ _ _ rfl) hg
    ·exact Qm.fail
  ·exact Qm.fail
 ·exact Qm.pure hy
theorem vqo (keeps:Bool) (v:Nat):∀(ms:List Md) (xs:List TV) (ys:List CV),(keeps=false→vaj ys)→Qm (va4 keeps v ms xs ys) fun ys=>keeps=false→vaj ys
 | [],[],[],h=>by unfold va4;exact Qm.pure fun _=>by simp [vaj]
 | .ro _::ms,_::xs,y::ys,h=>by
  unfold va4;exact (vqo keeps v ms xs ys fun hk=>by have:=h hk;simp only [vaj] at this;exact this.2).bind fun ys' h'=>Qm.pure fun hk=>by
   have:=h hk;simp only [vaj] at this⊢;exact ⟨this.1,h' hk⟩
 | .mut _::ms,x::xs,y::ys,h=>by
  unfold va4;exact (qcx keeps v x y fun hk=>by have:=h hk;simp only [vaj] at this;exact this.1).bind fun y' hy'=>(vqo keeps v ms xs ys fun hk=>by have:=h hk;simp only [vaj] at this;exact this.2).bind fun ys' h'=>Qm.pure fun hk=>by
   simp only [vaj];exact ⟨hy' hk,h' hk⟩
 | [],[],_::_,_=>by unfold va4;exact Qm.fail
 | [],_::_,_,_=>by unfold va4;exact Qm.fail
 | .ro _::_,[],_,_=>by unfold va4;exact Qm.fail
 | .ro _::_,_::_,[],_=>by unfold va4;exact Qm.fail
 | .mut _::_,[],_,_=>by unfold va4;exact Qm.fail
 | .mut _::_,_::_,[],_=>by unfold va4;exact Qm.fail
theorem vv0 (keeps:Bool) (v:Nat) (ms:List Md) (xs:List TV):Qm (lendA keeps v ms xs) fun ys=>keeps=false→vaj ys:=
 (vs3 keeps ms xs).bind fun ys h=>vqo keeps v ms xs ys h
theorem vqg (keeps:Bool):∀(ms:List Md) (xs:List TV) (ys:List CV),(keeps=false→vaj ys)→Qm (show_ keeps ms xs ys) fun cs=>keeps=false→vaj cs
 | [],[],[],_=>by unfold show_;exact Qm.pure fun _=>by simp [vaj]
 | .ro n::ms,x::xs,y::ys,h=>by
  unfold show_;exact (vpf keeps depth n x).bind fun y' h1=>(vqg keeps ms xs ys fun hk=>by have:=h hk;simp only [vaj] at this;exact this.2).bind fun ys' h2=>Qm.pure fun hk=>by simp only [vaj];exact ⟨h1,h2 hk⟩
 | .mut _::ms,_::xs,y::ys,h=>by
  unfold show_;exact (vqg keeps ms xs ys fun hk=>by have:=h hk;simp only [vaj] at this;exact this.2).bind fun ys' h2=>Qm.pure fun hk=>by
   have:=h hk;simp only [vaj] at this⊢;exact ⟨this.1,h2 hk⟩
 | [],[],_::_,_=>by unfold show_;exact Qm.fail
 | [],_::_,_,_=>by unfold show_;exact Qm.fail
 | .ro _::_,[],_,_=>by unfold show_;exact Qm.fail
 | .ro _::_,_::_,[],_=>by unfold show_;exact Qm.fail
 | .mut _::_,[],_,_=>by unfold show_;exact Qm.fail
 | .mut _::_,_::_,[],_=>by unfold show_;exact Qm.fail
mutual
theorem vue (q:Bool):∀(c:CV) (b:Nat),(q=false→va0 c)→Qt (vai q b c)
 | .a _,b,_=>by unfold vai;exact Qm.pure trivial
 | .sl z e es,b,h=>by
  unfold vai;split
  ·exact Qm.pure trivial
  ·rename_i hz;refine Qt.bind (Qm.setN _ _ fun ver' e' es' hh=> ?_) fun _=>Qm.pure trivial;simp only [Ab,Node.sl.injEq] at hh;obtain ⟨hq,_,_,rfl⟩:=hh;have:=h hq;simp only [va0] at this;exact this (by simpa using hz)
 | .bx z cs,b,h=>by
  unfold vai;exact (vdg q cs _ fun hq=>by have:=h hq;simp only [va0] at this;exact this).bind fun r=>Qt.bind (Qm.setN _ _ fun _ _ _ h=>by cases h) fun _=>Qm.pure trivial
 | .st cs,b,h=>by
  unfold vai;exact (vdg q cs _ fun hq=>by have:=h hq;simp only [va0] at this;exact this).bind fun r=>Qm.pure trivial
 | .tp cs,b,h=>by
  unfold vai;exact (vdg q cs _ fun hq=>by have:=h hq;simp only [va0] at this;exact this).bind fun r=>Qm.pure trivial
 | .fn f fs cs,b,h=>by
  unfold vai;exact (vdg q fs _ fun hq=>by have:=h hq;simp only [va0] at this;exact this.1).bind fun r=>(vdg q cs _ fun hq=>by have:=h hq;simp only [va0] at this;exact this.2).bind fun r=>Qm.pure trivial
 | .ic t c,b,h=>by
  unfold vai;exact (vue q c _ fun hq=>by have:=h hq;simp only [va0] at this;exact this).bind fun r=>Qm.pure trivial
 | .un,b,_=>by unfold vai;exact Qm.pure trivial
theorem vdg (q:Bool):∀(cs:List CV) (b:Nat),(q=false→vaj cs)→Qt (vav q b cs)
 | [],b,_=>by unfold vav;exact Qm.pure trivial
 |c::cs,b,h=>by
  unfold vav;exact (vue q c _ fun hq=>by have:=h hq;simp only [vaj] at this;exact this.1).bind fun r=>(vdg q cs _ fun hq=>by have:=h hq;simp only [vaj] at this;exact this.2).bind fun r=>Qm.pure trivial
end
mutual
theorem vm8 (q:Bool) (V:Nat):∀(x:TV) (c0 y:CV) (b:Nat),(q=false→va0 y)→Qt (vad q V b x c0 y)
 | .rf id,c0,y,b,h=>by
  cases c0 with
  |sl z0 e0 es0=>
   cases y with
   |sl z e es=>
    cases z0<;>cases z<;>simp only [vad]
    ·refine (Qm.getN _).bind fun n _=> ?_;split
     ·refine Qt.bind (Qm.setN _ _ fun ver' e' es' hh=> ?_) fun _=>Qm.pure trivial;simp only [Ab,Node.sl.injEq] at hh;obtain ⟨hq,_,_,rfl⟩:=hh;have:=h hq;simp only [va0] at this;exact this trivial
     ·exact Qm.fail
    all_goals exact Qm.pure trivial
   |_=>simp only [vad];exact Qm.pure trivial
  |bx z0 cs0=>
   cases y with
   |bx z cs=>
    cases z0<;>cases z<;>simp only [vad]
    ·refine (Qm.getN _).bind fun n _=> ?_;split
     ·exact (vdg q cs _ fun hq=>by have:=h hq;simp only [va0] at this;exact this).bind fun r=>Qt.bind (Qm.setN _ _ fun _ _ _ h=>by cases h) fun _=>Qm.pure trivial
     ·exact Qm.fail
    all_goals exact Qm.pure trivial
   |_=>simp only [vad];exact Qm.pure trivial
  |_=>simp only [vad];exact Qm.pure trivial
 | .fn f fs cs,c0,y,b,h=>by
  cases c0 with
  |fn f0 fs0 cs0=>
   cases y with
   |fn f1 fs1 cs1=>
    simp only [vad];exact (vi5 q V fs fs0 fs1 b fun hq=>by have:=h hq;simp only [va0] at this;exact this.1).bind fun b1=>vi5 q V cs cs0 cs1 b1 fun hq=>by have:=h hq;simp only [va0] at this;exact this.2
   |_=>simp only [vad];exact Qm.pure trivial
  |_=>simp only [vad];exact Qm.pure trivial
 | .st cs,c0,y,b,h=>by
  cases c0 with
  |st cs0=>
   cases y with
   |st cs1=>
    simp only [vad];exact vi5 q V cs cs0 cs1 b fun hq=>by have:=h hq;simp only [va0] at this;exact this
   |_=>simp only [vad];exact Qm.pure trivial
  |_=>simp only [vad];exact Qm.pure trivial
 | .ic t x,c0,y,b,h=>by
  cases c0 with
  |ic t0 x0=>
   cases y with
   |ic t1 x1=>
    simp only [vad];exact vm8 q V x x0 x1 b fun hq=>by have:=h hq;simp only [va0] at this;exact this
   |_=>simp only [vad];exact Qm.pure trivial
  |_=>simp only [vad];exact Qm.pure trivial
 | .a _,c0,y,b,h=>by simp only [vad];exact Qm.pure trivial
 | .nl _,c0,y,b,h=>by simp only [vad];exact Qm.pure trivial
 | .ri _ _ _,c0,y,b,h=>by simp only [vad];exact Qm.pure trivial
 | .sb _ _ _,c0,y,b,h=>by simp only [vad];exact Qm.pure trivial
 | .ad _ _,c0,y,b,h=>by simp only [vad];exact Qm.pure trivial
 | .ea _ _ _ _,c0,y,b,h=>by simp only [vad];exact Qm.pure trivial
 | .ei _ _ _ _ _ _,c0,y,b,h=>by simp only [vad];exact Qm.pure trivial
 | .sz _ _,c0,y,b,h=>by simp only [vad];exact Qm.pure trivial
 | .ez _ _,c0,y,b,h=>by simp only [vad];exact Qm.pure trivial
 | .tp _,c0,y,b,h=>by simp only [vad];exact Qm.pure trivial
 | .un,c0,y,b,h=>by simp only [vad];exact Qm.pure trivial
theorem vi5 (q:Bool) (V:Nat):∀(xs:List TV) (cs0 ys:List CV) (b:Nat),(q=false→vaj ys)→Qt (vaz q V b xs cs0 ys)
 | [],cs0,ys,b,h=>by simp only [vaz];exact Qm.pure trivial
 |x::xs,[],ys,b,h=>by simp only [vaz];exact Qm.pure trivial
 |x::xs,c0::cs0,[],b,h=>by simp only [vaz];exact Qm.pure trivial
 |x::xs,c0::cs0,y::ys,b,h=>by
  simp only [vaz];exact (vm8 q V x c0 y b fun hq=>by have:=h hq;simp only [vaj] at this;exact this.1).bind fun b1=>vi5 q V xs cs0 ys b1 fun hq=>by have:=h hq;simp only [vaj] at this;exact this.2
end
theorem qby (q:Bool) (V:Nat) (x:TV) (c0 y:CV) (b:Nat) (h:q=false→va0 y):Qt (back1 q V b x c0 y):=by
 unfold back1;split
 ·split
  ·refine (Qm.getN _).bind fun n hn=> ?_;split
   ·split
    ·rename_i q0 ver e es _ _ es1 hat hput;refine Qt.bind (Qm.setN _ _ fun ver' e0 es0 hh=> ?_) fun _=>Qm.pure trivial;simp only [Ab,Node.sl.injEq,Ae] at hh;obtain ⟨⟨hq0,hq⟩,_,_,rfl⟩:=hh;subst hq0;have:=h hq;simp only [va0] at this;exact vg6 (by simp only [nofz];exact this trivial) _ (hn _ _ _ rfl) hput
    ·exact Qm.fail
   ·exact Qm.fail
  ·exact Qm.fail
 ·exact vm8 q V x c0 y b h
theorem vlg (q:Bool) (V:Nat):∀(ms:List Md) (xs:List TV) (cs fs:List CV) (b:Nat),(q=false→vaj fs)→Qt (vaf q V b ms xs cs fs)
 | [],[],[],[],b,h=>by simp only [vaf];exact Qm.pure trivial
 | .ro _::ms,x::xs,c::cs,fs,b,h=>by simp only [vaf];exact vlg q V ms xs cs fs b h
 | .mut _::ms,x::xs,c::cs,f::fs,b,h=>by
  simp only [vaf];exact (qby q V x c f b fun hq=>by have:=h hq;simp only [vaj] at this;exact this.1).bind fun b1=>vlg q V ms xs cs fs b1 fun hq=>by have:=h hq;simp only [vaj] at this;exact this.2
 | [],_::_,_,_,b,h=>by simp only [vaf];exact Qm.fail
 | [],[],_::_,_,b,h=>by simp only [vaf];exact Qm.fail
 | [],[],[],_::_,b,h=>by simp only [vaf];exact Qm.fail
 | .ro _::_,[],_,_,b,h=>by simp only [vaf];exact Qm.fail
 | .ro _::_,_::_,[],_,b,h=>by simp only [vaf];exact Qm.fail
 | .mut _::_,[],_,_,b,h=>by simp only [vaf];exact Qm.fail
 | .mut _::_,_::_,[],_,b,h=>by simp only [vaf];exact Qm.fail
 | .mut _::_,_::_,_::_,[],b,h=>by simp only [vaf];exact Qm.fail
theorem vma:∀{cs ds:List CV},vaj (cs++ds)↔vaj cs∧vaj ds
 | [],ds=>by simp [vaj]
 |c::cs,ds=>by simp [vaj,vma (cs:=cs),and_assoc]
def Nofz (g:Option Callee):Prop:=∀c,g=some c→c.keeps=false→∀cs rs fs,vaj cs→c.go cs=some (rs,fs)→vaj (rs++fs)
theorem vnp {g:Option Callee} (hg:Nofz g) (b:Nat) (xs:List TV):Qt (callM g b xs):=by
 cases g with
 |none=>exact Qm.fail
 |some c=>
  simp only [callM];refine (vv0 c.keeps (b+100) c.modes xs).bind fun ps hps=>(vqg c.keeps c.modes xs ps hps).bind fun cs hcs=> ?_;cases hgo:c.go cs with
  |none=>exact Qm.fail
  |some rf=>
   obtain ⟨rs,fs⟩:=rf;have hall:c.keeps=false→vaj rs∧vaj fs:=fun hk=>vma.1 (hg c rfl hk cs rs fs (hcs hk) hgo);refine (vlg c.keeps (b+100) c.modes xs cs fs b fun hk=>(hall hk).2).bind fun b'=> ?_;split
   ·split
    ·exact Qt.bind (Qt.of (Qm.liftO _)) fun ts=>Qm.pure trivial
    ·exact Qm.fail
   unfold vcc;refine (vdg c.keeps rs b' fun hk=>(hall hk).1).bind fun r=> ?_;split
   ·exact Qm.pure trivial
   ·exact Qm.fail
theorem vkz (d:Option Nat) (v:TV):Qt (putO d v):=by
 cases d with
 |none=>exact Qm.pure trivial
 |some d=>exact Qm.setS _ _
theorem qct (c:Option Callee) (vs:List TV) (tv:TV):Qt (alsIn c vs tv):=by
 unfold alsIn;split
 ·split
  ·refine (Qm.getN _).bind fun n hn=> ?_;split
   ·exact Qm.setN _ _ fun _ _ _ h=>by cases h
   ·exact Qm.fail
  ·exact Qm.fail
 ·exact Qm.fail
theorem vto (q:Bool) (ts:List TV):Qt (alsOut q ts):=by
 unfold alsOut;split
 ·split
  ·refine (Qm.getN _).bind fun n hn=> ?_;split
   ·refine (Qm.getS _).bind fun x _=> ?_;split
    ·split
     ·exact Qm.setN _ _ fun _ _ _ h=>by cases h
     ·exact Qm.fail
    ·exact Qm.fail
   ·exact Qm.fail
  ·exact Qm.fail
 ·exact Qm.pure trivial
theorem qa0 (c:Option Callee) (vs:List TV) (tv:TV):Qt (alsIn2 c vs tv):=by
 unfold alsIn2;split
 ·exact qct _ _ _
 ·exact Qm.pure trivial
theorem vze {Φ:Nat→Option Callee} (hΦ:∀f,Nofz (Φ f)) (b:Nat) (op:VOp):Qt (exec Φ b op):=by
 cases op with
 |alloc d zs=>
  simp only [exec];split
  ·exact Qm.fail
  ·exact Qt.bind (Qm.setN _ _ fun _ _ _ h=>by cases h) fun _=>Qm.setS _ _
 |box d x=>
  simp only [exec];refine Qt.bind (vbt _) fun v=>Qt.bind (Qt.of (Qm.liftO _)) fun cs=> ?_;split
  ·exact Qm.fail
  ·exact Qt.bind (Qm.setN _ _ fun _ _ _ h=>by cases h) fun _=>Qm.setS _ _
 |build d zs ps=>simp only [exec];exact (vsz _ _).bind fun cs=>Qm.setS _ _
 |bsl d e m zs n ps=>
  simp only [exec];refine (qeg _ _ _ _ _ (vbb.2 fun c hc=>by rw [(Aj.1 hc).2];exact voh _ _)).bind fun es hes=> ?_;refine Qt.bind (Qm.setN _ _ fun ver' e' es' hh=> ?_) fun _=>Qm.setS _ _;simp only [Ab,Node.sl.injEq] at hh;obtain ⟨hq,_,_,rfl⟩:=hh;exact hes hq
 |load d w x=>simp only [exec];exact Qt.bind (vbt _) fun v=>(vos _ _).bind fun _=>Qm.setS _ _
 |lda d x=>
  simp only [exec];refine Qt.bind (vbt _) fun v=>Qt.bind (vos _ _) fun u=> ?_;unfold atomS;split
  ·exact Qm.setS _ _
  ·exact Qm.fail
 |store w x y=>simp only [exec];exact Qt.bind (vbt _) fun u=>Qt.bind (vbt _) fun v=>Qt.bind (vtx _ _ _) fun v=>vzn _ _ _ _
 |slc0 d e x=>
  simp only [exec];refine Qt.bind (vbt _) fun u=>Qt.bind (vkj _) fun r=> ?_;split
  ·exact Qt.bind (Qm.setN _ _ fun ver' e' es' hh=>by simp only [Ab,Node.sl.injEq] at hh;obtain ⟨_,_,_,rfl⟩:=hh;exact vbb.2 (by simp)) fun _=>Qm.setS _ _
  ·exact Qm.fail
 |s2b d e x=>
  simp only [exec];refine Qt.bind (vbt _) fun u=> ?_;split
  ·split
   ·refine Qt.bind (Qm.setN _ _ fun ver' e' es' hh=> ?_) fun _=>Qm.setS _ _;simp only [Ab,Node.sl.injEq] at hh;obtain ⟨_,_,_,rfl⟩:=hh;exact vbb.2 fun c hc=>by obtain ⟨y,_,rfl⟩:=Ak.1 hc;simp only [nofz]
   ·exact Qm.fail
  ·exact Qm.fail
 |mks d e bytes zs x=>
  simp only [exec];refine Qt.bind (vbt _) fun u=> ?_;split
  ·split
   ·refine Qt.bind (Qm.setN _ _ fun ver' e' es' hh=> ?_) fun _=>Qm.setS _ _;simp only [Ab,Node.sl.injEq] at hh;obtain ⟨_,_,_,rfl⟩:=hh;exact vbb.2 fun c hc=>by rw [(Aj.1 hc).2];exact voh _ _
   ·exact Qm.fail
  ·exact Qm.fail
 |slc d e x lo hi=>
  simp only [exec];exact Qt.bind (vbt _) fun v=>Qt.bind (vet _) fun l=>Qt.bind (vet _) fun h=>(vy4 _ _ _ _).bind fun _=>Qm.setS _ _
 |sslc d x lo hi=>
  simp only [exec];exact Qt.bind (vbt _) fun v=>Qt.bind (vet _) fun l=>Qt.bind (vet _) fun h=>(qcj _ _ _).bind fun _=>Qm.setS _ _
 |fad d x off=>simp only [exec];exact Qt.bind (vbt _) fun v=>(vyp _ _).bind fun _=>Qm.setS _ _
 |iad d e m x i=>
  simp only [exec];refine Qt.bind (vbt _) fun v=>Qt.bind (vbt _) fun u=> ?_;split
  ·exact (vyc _ _ _ _).bind fun _=>Qm.setS _ _
  ·exact Qm.fail
 |len d x=>simp only [exec];exact Qt.bind (vbt _) fun v=>(vkj _).bind fun _=>Qm.setS _ _
 |app d e bytes mv x y=>simp only [exec];exact Qt.bind (vbt _) fun u=>Qt.bind (vbt _) fun v=>(vzb _ _ _ _ _ _).bind fun _=>Qm.setS _ _
 |call d f xs=>simp only [exec];exact Qt.bind (vfj _) fun vs=>(vnp (hΦ f) _ _).bind fun _=>vkz _ _
 |cala d f xs=>
  simp only [exec];exact Qt.bind (vfj _) fun vs=>(vnp (hΦ f) _ _).bind fun tv=>Qt.bind (qa0 _ _ _) fun _=>vkz _ _
 |calv d f xs=>
  simp only [exec];refine Qt.bind (vbt _) fun g=> ?_;split
  ·exact Qt.bind (vfj _) fun vs=>(vnp (hΦ _) _ _).bind fun _=>vkz _ _
  ·exact Qm.fail
 |cali d t f x xs=>
  simp only [exec];refine Qt.bind (vbt _) fun g=> ?_;split
  ·split
   ·exact Qt.bind (vfj _) fun vs=>(vnp (hΦ _) _ _).bind fun _=>vkz _ _
   ·exact Qm.fail
  ·exact Qm.fail
 |clr e z x=>
  simp only [exec];refine Qt.bind (vbt _) fun v=> ?_;unfold clrAt;split
  ·refine Qt.bind (Qt.of (Qm.getN _)) fun n=> ?_;split
   ·split
    ·refine Qm.setN _ _ fun ver' e' es' hh=> ?_;simp only [Ab,Node.sl.injEq] at hh;obtain ⟨_,_,_,rfl⟩:=hh;exact vbb.2 fun c hc=>by rw [(Aj.1 hc).2];simp only [nofz]
    ·exact Qm.fail
   ·exact Qm.fail
  ·exact Qm.fail
 |b2s d e x=>
  simp only [exec];refine Qt.bind (vbt _) fun v=>Qt.bind (vkj _) fun r=> ?_;split
  ·exact Qt.bind (Qt.of (Qm.liftO _)) fun _=>Qm.setS _ _
  ·exact Qm.fail
 |pick d c x y=>
  simp only [exec];refine Qt.bind (vbt _) fun u=> ?_;split
  ·split
   ·exact Qt.bind (vbt _) fun _=>Qm.setS _ _
   ·exact Qt.bind (vbt _) fun _=>Qm.setS _ _
  ·exact Qm.fail
 |_=>simp only [exec];(repeat' (first|exact Qm.pure trivial|exact Qm.fail|exact Qm.setS _ _|exact Qm.getS _|exact Qt.of (Qm.getN _)|exact Qt.of (Qm.liftO _)|(refine Qt.bind (Qt.of (Qm.getN _)) fun _=> ?_)|(refine Qt.bind (Qt.of (Qm.liftO _)) fun _=> ?_)|(refine Qt.bind (Qm.getS _) fun _=> ?_)|(refine Qt.bind (vbt _) fun _=> ?_)|(refine Qt.bind (vfj _) fun _=> ?_)|(refine Qt.bind (vet _) fun _=> ?_)|split))
theorem vns {Φ:Nat→Option Callee} (hΦ:∀f,Nofz (Φ f)) (b:Nat) (o:VOper):Qt (execG Φ b o):=by
 unfold execG;split
 ·exact vze hΦ b _
 ·refine Qt.bind (Qm.getS _) fun u=> ?_;split
  ·split
   ·exact vze hΦ b _
   ·exact vkz _ _
  ·exact vkz _ _
  ·exact Qm.fail
theorem vrf {Φ:Nat→Option Callee} (hΦ:∀f,Nofz (Φ f)):∀(os:List VOper) (b:Nat) (st st':St),execs Φ b os st=some st'→Qok st→Qok st'
 | [],b,st,st',h,hq=>by cases h;exact hq
 |o::os,b,st,st',h,hq=>by
  simp only [execs] at h;split at h
  ·rename_i u s1 h1;exact vrf hΦ os _ _ _ h (vns hΦ b o st _ s1 h1 hq).1
  ·cases h
end Go.Proofs.YtpnnhokaehghfaaDoor.VM
namespace Go.Proofs.YtpnnhokaehghfaaDoor.VM
open Go
variable {cx:Cx} {U:Nat→Prop} {X:vac} {ρ:Nat→Value} {F:Nat→vac} {st:St} {sh:vam} {V:Nat} {a:Act} {w:World}
theorem vnq {b:Nat} {Φ:Nat→Option Callee} (hq:Qok st):∀f c (xs:List TV),Φ f=some c→c.keeps=false→∀ps cs s1 s2,(lendA c.keeps (b+100) c.modes xs).run st=some (ps,s1)→(show_ c.keeps c.modes xs ps).run s1=some (cs,s2)→vaj cs:=by
 intro f c xs _ hk ps cs s1 s2 h1 h2;obtain ⟨q1,r1⟩:=vv0 c.keeps (b+100) c.modes xs st ps s1 h1 hq;exact (vqg c.keeps c.modes xs ps r1 s1 cs s2 h2 q1).2 hk
theorem vw2 {x y:Operand} (h:sameOpd x y=true):x=y:=by
 unfold sameOpd at h;split at h
 ·rw [beq_iff_eq] at h;subst h;rfl
 ·rw [beq_iff_eq] at h;subst h;rfl
 ·cases h
theorem qbx {Φ:Nat→Option Callee} (hS:∀f c,Φ f=some c→Sound cx.P f c) (h:G cx U (fun _ _=>False) ρ F st a w) (hq:Qok st) {b:Nat} (hb:∀i,b≤i→i<b+100→¬U i) {ops:Array Oper} {o:Oper} {v:VOp} (hc:cOp1 cx.P ops o=some v)
  (hd:∀d,o.dst=some d→d<cx.n) {s1:St} (hr:(exec Φ b v).run st=some ((),s1)):Now cx U b o s1 a w:=by
 unfold cOp1 at hc;split at hc
 ·rename_i hop hdst;obtain ⟨y,hy,rfl⟩:=Aa.1 hc;exact vt1 h hdst (hd _ hdst) (.inl hop) hy hr
 ·rename_i hop hdst;obtain ⟨y,hy,rfl⟩:=Aa.1 hc;exact vt1 h hdst (hd _ hdst) (.inr hop) hy hr
 ·rename_i hop hdst;split at hc
  ·rename_i h1 h2 h3;cases hc;exact vvx h hdst (hd _ hdst) hop h1 h2 h3 hr
  ·cases hc
 ·rename_i hop hdst;obtain ⟨y,hy,rfl⟩:=Aa.1 hc;exact vsw h hb hdst (hd _ hdst) hop hy hr
 ·rename_i hop hdst;split at hc
  ·obtain ⟨y,hy,rfl⟩:=Aa.1 hc;exact vyk h hb hdst (hd _ hdst) hop hy hr
  ·cases hc
 ·rename_i hop hdst;split at hc
  ·rename_i h1 h2 h3;split at hc
   ·rename_i h4;cases hc;exact vt9 h hdst (hd _ hdst) hop h1 h2 h3 h4 hr
   ·cases hc
  ·cases hc
 ·rename_i hop hdst;split at hc
  ·rename_i h0;split at hc
   ·rename_i h1 h2 h3;split at hc
    ·rename_i h4;cases hc;exact qb7 h hb hdst (hd _ hdst) hop h0 h1 h2 h3 h4 hr
    ·cases hc
   ·cases hc
  ·cases hc
 ·rename_i hop hdst;split at hc
  ·rename_i h1 h2;split at hc
   ·rename_i hl;cases hc;obtain ⟨_,rfl⟩:=hl;exact vxp h hdst (hd _ hdst) hop h1 h2 hr
   ·cases hc;exact vvw h hdst (hd _ hdst) hop h1 h2 hr
  ·cases hc
 ·rename_i hop hdst;split at hc
  ·rename_i h1 h2 h3 h4;cases hc;exact vtd h hb hdst hop h2 h3 h4 hr
  ·cases hc
 ·rename_i hop hdst;obtain ⟨y,hy,rfl⟩:=Aa.1 hc;exact vt5 h hdst (hd _ hdst) hop hy hr
 ·rename_i hop hdst;split at hc
  ·split at hc
   ·rename_i h1 h2;cases hc;exact vy6 h hdst (hd _ hdst) hop h1 h2 hr
   ·cases hc
  ·split at hc
   ·rename_i hbt;split at hc
    ·rename_i h1 h2 h3;cases hc;exact vxt h hdst (hd _ hdst) hop h1 h2 hbt h3 hr
    ·cases hc
   ·split at hc
    ·rename_i h0 h1 h2 h3;cases hc;exact qbw h hdst (hd _ hdst) hop h1 h2 h0 h3 hr
    ·cases hc
 ·rename_i hop hdst;obtain ⟨y,hy,rfl⟩:=Aa.1 hc;exact qbo h (t':=0) hdst (hd _ hdst) hop hy hr
 ·rename_i hop hdst;split at hc
  ·rename_i h1 h2 h3;cases hc;exact vy7 h hdst (hd _ hdst) hop h1 h2 h3 hr
  ·rename_i h1 h2 h3;cases hc;exact vxe h hdst (hd _ hdst) hop h1 h2 h3 hr
  ·rename_i h1 h2 h3;split at hc
   ·rename_i h4;split at hc
    ·rename_i h5;cases hc;exact vyo h hb hdst (hd _ hdst) hop h1 h2 h4 h5 h3 hr
    ·cases hc
   ·cases hc
  ·rename_i h1 h2 h3;split at hc
   ·rename_i h4;cases hc;exact vxs h hdst (hd _ hdst) hop h1 h4 h2 h3 hr
   ·cases hc
  ·cases hc
 ·rename_i hop hdst;split at hc
  ·rename_i h1 h2;cases hc;exact vz0 h hdst (hd _ hdst) hop h1 h2 hr
  ·cases hc
 ·rename_i hop hdst;split at hc
  ·rename_i hcon;obtain ⟨y,hy,rfl⟩:=Aa.1 hc;exact vyr h hdst (hd _ hdst) hop (fun v=>run_makeInterface w _ v hcon) hy hr
  ·cases hc
 ·rename_i hop hdst;split at hc
  ·rename_i h0;split at hc
   ·rename_i h2 h3 h4;split at hc
    ·rename_i hcond;cases hc;rw [←vw2 hcond] at hop;exact vzr h hb hdst (hd _ hdst) hop h0 h2 h3 h4 hr
    ·cases hc
   ·cases hc
  ·cases hc
 ·rename_i hop hdst;split at hc
  ·rename_i h1 h2 h3 h4;cases hc;exact vu7 h hdst (hd _ hdst) hop h1 h2 h3 h4 hr
  ·rename_i h1 h2 h3 h4;split at hc
   ·rename_i hs;cases hc;obtain ⟨m,hm⟩:=Am.1 hs;exact vzu h hdst (hd _ hdst) hop h1 hm h2 h3 h4 hr
   ·cases hc
  ·cases hc
 ·rename_i hop hdst;split at hc
  ·rename_i h1 h2;split at hc
   ·rename_i hcond;cases hc;obtain ⟨m,hm⟩:=Am.1 hcond.2.2;exact vvh h hb hdst (hd _ hdst) hop h1 hm h2 hcond.1 hcond.2.1 hr
   ·cases hc
  ·cases hc
 ·rename_i hop hdst;split at hc
  ·rename_i h1 h2;split at hc
   ·rename_i h3;cases hc;exact vx0 h hdst (hd _ hdst) hop h1 h3 h2 hr
   ·cases hc
  ·cases hc
 ·rename_i hop hdst;split at hc
  ·rename_i h1;split at hc
   ·rename_i h2 h3;cases hc;exact vzm h hdst (hd _ hdst) hop h1 h2 h3 hr
   ·cases hc
  ·cases hc
 ·rename_i hop hdst;split at hc
  ·rename_i h0;split at hc
   ·rename_i h1 h2 h3;split at hc
    ·cases hc;exact vxj h hdst (hd _ hdst) hop h0 h1 h2 h3 hr
    ·cases hc
   ·cases hc
  ·cases hc
 ·rename_i hop hdst;split at hc
  ·rename_i h0;split at hc
   ·rename_i h1 h2;cases hc;exact qbl h hdst (hd _ hdst) hop h0 h1 h2 hr
   ·cases hc
  ·cases hc
 ·rename_i hop hdst;obtain ⟨y,hy,rfl⟩:=Aa.1 hc;exact vzp h hdst (hd _ hdst) hop hy hr
 ·rename_i hop hdst;split at hc
  ·rename_i ha ht;have ha':=Ag.1 (ha.trans (Ad).symm);have ht':=Ag.1 (ht.trans (Ad).symm);split at hc
   ·rename_i h0;obtain ⟨y,hy,rfl⟩:=Aa.1 hc;exact vva h hdst (hd _ hdst) hop rfl ha' ht' h0 hy hr
   ·rename_i h0;obtain ⟨y,hy,rfl⟩:=Aa.1 hc;exact vyb h hdst (hd _ hdst) hop rfl ha' ht' h0 hy hr
   ·cases hc
  ·cases hc
 ·rename_i hop hdst;split at hc
  ·rename_i ha ht;have ha':=Ag.1 (ha.trans (Ad).symm);have ht':=Ag.1 (ht.trans (Ad).symm);split at hc
   ·rename_i h0 _;split at hc
    ·rename_i hcond;obtain ⟨rfl,rfl⟩:=hcond;split at hc
     ·rename_i h1 h2 h3 h4 h5;split at hc
      ·rename_i hpos;cases hc;exact vx5 h hb hdst (hd _ hdst) hop rfl ha' ht' h0 h1 h2 h3 hpos.1 h4 h5 hr
      ·cases hc
     ·cases hc
    ·cases hc
   ·cases hc
  ·cases hc
 ·rename_i hop hdst;split at hc
  ·rename_i hcond;simp only [Al,decide_eq_true_eq] at hcond;obtain ⟨y,hy,rfl⟩:=Aa.1 hc;exact vtw h hdst (hd _ hdst) (isMax:=true) hop rfl hcond.1 hy hr
  ·cases hc
 ·rename_i hop hdst;split at hc
  ·rename_i hcond;simp only [Al,decide_eq_true_eq] at hcond;obtain ⟨y,hy,rfl⟩:=Aa.1 hc;exact vtw h hdst (hd _ hdst) (isMax:=false) hop rfl hcond.1 hy hr
  ·cases hc
 ·rename_i hop;split at hc
  ·cases hc
  ·rename_i hsz;obtain ⟨y,hy,rfl⟩:=Aa.1 hc;split at hr
   ·exact vvu h hb rfl hd hop rfl (Ah hsz) hy (hS _) (fun c xs=>vnq hq _ c xs) hr
   ·exact vqy h hb rfl hd hop rfl (Ah hsz) hy (hS _) (fun c xs=>vnq hq _ c xs) hr
 ·rename_i hop;split at hc
  ·cases hc
  ·rename_i hsz;obtain ⟨y,hy,rfl⟩:=Aa.1 hc;have hn:=Nat.lt_of_not_le fun h=>hsz (.inr h);have hsz':=Ah fun h=>hsz (.inl h);exact vvn h hb rfl hd hop hn rfl hsz' hy hS (fun f c xs=>vnq hq f c xs) hr
 ·rename_i hop;split at hc
  ·cases hc
  ·rename_i hsz;have hn:=Nat.lt_of_not_le fun h=>hsz (.inr h);have hsz':=Ah fun h=>hsz (.inl h);split at hc
   ·rename_i hm hx;cases hc;exact vv2 h hb rfl hd hop hn rfl hsz' hm hx hS (fun f c xs=>vnq hq f c xs) hr
   ·cases hc
 ·rename_i hop hdst;split at hc
  ·rename_i ha ht;have ha':=Ag.1 (ha.trans (Ad).symm);have ht':=Ag.1 (ht.trans (Ad).symm);split at hc
   ·rename_i h0;split at hc
    ·rename_i h1 h2 h3;cases hc;exact vxq h hdst hop rfl ha' ht' h0 h1 h2 h3 hr
    ·cases hc
   ·cases hc
  ·cases hc
 ·cases hc
theorem vzf {Φ:Nat→Option Callee} (hS:∀f c,Φ f=some c→Sound cx.P f c) (h:G cx U (fun _ _=>False) ρ F st a w) (hq:Qok st) {b:Nat} (hb:∀i,b≤i→i<b+100→¬U i) {ops:Array Oper} {o:Oper} {v:VOp} (hc:cOp cx.P ops o=some v)
  (hd:∀d,o.dst=some d→d<cx.n) {s1:St} (hr:(exec Φ b v).run st=some ((),s1)):Now cx U b o s1 a w:=by
 unfold cOp at hc;cases h1:cOp1 cx.P ops o with
 |none=>
  rw [h1] at hc;cases hc;exact (vab hr).elim
 |some x=>
  rw [h1] at hc;cases hc;exact qbx hS h hq hb h1 hd hr
