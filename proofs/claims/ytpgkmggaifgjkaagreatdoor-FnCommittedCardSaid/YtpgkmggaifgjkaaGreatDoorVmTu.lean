/- The interpreter 'VM'. -/
import Derived.Test.YtpgkmggaifgjkaaGreatDoorVmQs
open Option renaming map_eq_some_iff->Aa,isSome_iff_exists->Am
open Option.some renaming injEq->Ab
open List renaming mem_of_getElem?->Ac,toList_toArray->Ad,mem_or_eq_of_mem_set->Af,mem_of_mem_drop->Ai,mem_replicate->Aj,mem_map->Ak,mem_of_mem_take->An,mem_append->Ao
open Bool renaming or_eq_false_iff->Ae,and_eq_true->Al,not_false->Ap
open Array renaming toList_inj->Ag
open Decidable renaming of_not_not->Ah
set_option linter.all false
namespace Go.Proofs.YtpgkmggaifgjkaaGreatDoor.VM
open Go
theorem vb2:∀{l:List PV},vcp l↔∀x∈l,nofz x
 | []=>by simp [vcp]
 |c::cs=>by simp [vcp,vb2 (l:=cs)]
theorem voc {x:PV} (h:nofz x):∀c∈x.cells,nofz c:=by
 cases x with
 |st cs=>exact λc hc=>vb2.1 (show vcp cs by simpa [nofz] using h) c hc
 |_=>intro c hc;simp [PV.cells] at hc;subst hc;exact h
theorem vqx {l:List PV} (h:∀c∈l,nofz c):nofz (.st l):=by simp only [nofz];exact vb2.2 h
theorem vli {x:PV} {o:Nat} {ys:List PV} (h:nofz x) (hy:∀c∈ys,nofz c):nofz (vbu x o ys):=by
 unfold vbu;split
 ·rename_i cs;apply vqx;intro c hc;simp only [Ao] at hc;have hcs:=voc h;rcases hc with (hc|hc)|hc
  ·exact hcs c (An hc)
  ·exact hy c hc
  ·exact hcs c (Ai hc)
 ·split
  ·exact hy _ (by simp)
  ·exact h
theorem qaq (x:PV):nofz x.cpy:=by
 cases x with
 |st cs=>
  apply vqx;intro c hc;obtain ⟨y,_,rfl⟩:=Ak.1 hc;split<;>simp [nofz]
 |_=>simp [PV.cpy,nofz]
theorem qds (z:ZC):nofz z.pv:=by cases z<;>simp [ZC.pv,nofz,vcp]
theorem vvi (m:Nat) (zs:List ZC):nofz (zeroEl m zs):=by
 unfold zeroEl;split
 ·cases zs with
  |nil=>simp [nofz]
  |cons z zs=>exact qds z
 ·apply vqx;intro c hc;obtain ⟨z,_,rfl⟩:=Ak.1 hc;exact qds z
def Qm {α:Type} (m:M α) (R:α->Prop):Prop:=∀st r st',m.run st=some (r,st')->Qok st->Qok st'/\R r
theorem Qm.bind {α β:Type} {m:M α} {k:α->M β} {R:α->Prop} {S:β->Prop} (h:Qm m R) (hk:∀x,R x->Qm (k x) S):Qm (m.bind k) S:=by
 intro st r st' hr hq;obtain ⟨x,s1,h1,h2⟩:=vaa hr;obtain ⟨q1,r1⟩:=h st x s1 h1 hq;exact hk x r1 s1 r st' h2 q1
theorem Qm.pure {α:Type} {x:α} {R:α->Prop} (h:R x):Qm (M.pure x) R:=by
 intro st r st' hr hq;cases run_pure hr;exact ⟨hq,h⟩
theorem Qm.fail {α:Type} {R:α->Prop}:Qm (M.fail:M α) R:=λ_ _ _ hr=>(vac hr).elim
theorem Qm.getS (t:Nat):Qm (getS t) λ_=>True:=by
 intro st r st' hr hq;cases vjy hr;exact ⟨hq,trivial⟩
theorem Qm.setS (t:Nat) (v:TV):Qm (setS t v) λ_=>True:=by
 intro st r st' hr hq;cases vbd hr;exact ⟨λid ver e es hn=>hq id ver e es hn,trivial⟩
theorem Qm.getN (id:Nat):Qm (getN id) λn=>∀ver e es,n=some (.sl false ver e es)->vcp es:=by
 intro st r st' hr hq;cases vbn hr;exact ⟨hq,λver e es hn=>hq id ver e es hn⟩
theorem Qm.setN (id:Nat) (n:Option Node) (h:∀ver e es,n=some (.sl false ver e es)->vcp es):Qm (setN id n) λ_=>True:=by
 intro st r st' hr hq;cases vby hr;refine ⟨λj ver e es hn=> ?_,trivial⟩;rw [vgd] at hn;split at hn
 ·exact h ver e es hn
 ·exact hq j ver e es hn
theorem Qm.liftO {α:Type} (x:Option α):Qm (liftO x) λr=>x=some r:=by
 intro st r st' hr hq;obtain ⟨h1,h2⟩:=vdl hr;simp only at h1 h2;subst h2;exact ⟨hq,h1⟩
theorem Qm.weak {α:Type} {m:M α} {R S:α->Prop} (h:Qm m R) (hs:∀x,R x->S x):Qm m S:=λst r st' hr hq=>let ⟨h1,h2⟩:=h st r st' hr hq;⟨h1,hs r h2⟩
abbrev Qt {α:Type} (m:M α):Prop:=Qm m λ_=>True
theorem Qt.of {α:Type} {m:M α} {R:α->Prop} (h:Qm m R):Qt m:=h.weak λ_ _=>trivial
theorem Qt.bind {α β:Type} {m:M α} {k:α->M β} {S:β->Prop} (h:Qt m) (hk:∀x,Qm (k x) S):Qm (m.bind k) S:=Qm.bind h λx _=>hk x
theorem vde (x:Opd):Qt (opd x):=by
 cases x<;>first|exact Qm.getS _|exact Qm.pure trivial
theorem vj8:∀(xs:List Opd),Qt (opds xs)
 | []=>Qm.pure trivial
 |x::xs=>(vde x).bind λ_=>(vj8 xs).bind λ_=>Qm.pure trivial
theorem vjm (x:Option Opd):Qt (bound x):=by
 cases x with
 |none=>exact Qm.pure trivial
 |some y=>
  refine (vde y).bind λu=> ?_;split
  ·exact Qm.pure trivial
  ·exact Qm.fail
theorem vvw (w:Option Nat) (v:TV):Qt (loadAt w v):=by unfold loadAt;(repeat' (first|exact Qm.pure trivial|exact Qm.fail|exact Qm.setS _ _|exact Qm.getS _|exact Qt.of (Qm.getN _)|exact Qt.of (Qm.liftO _)|(refine Qt.bind (Qt.of (Qm.getN _)) λ_=> ?_)|(refine Qt.bind (Qt.of (Qm.liftO _)) λ_=> ?_)|(refine Qt.bind (Qm.getS _) λ_=> ?_)|(refine Qt.bind (vde _) λ_=> ?_)|(refine Qt.bind (vj8 _) λ_=> ?_)|(refine Qt.bind (vjm _) λ_=> ?_)|split))
theorem vq7 (v:TV):Qt (elems v):=by unfold elems;(repeat' (first|exact Qm.pure trivial|exact Qm.fail|exact Qm.setS _ _|exact Qm.getS _|exact Qt.of (Qm.getN _)|exact Qt.of (Qm.liftO _)|(refine Qt.bind (Qt.of (Qm.getN _)) λ_=> ?_)|(refine Qt.bind (Qt.of (Qm.liftO _)) λ_=> ?_)|(refine Qt.bind (Qm.getS _) λ_=> ?_)|(refine Qt.bind (vde _) λ_=> ?_)|(refine Qt.bind (vj8 _) λ_=> ?_)|(refine Qt.bind (vjm _) λ_=> ?_)|split))
theorem qi8 (e:Nat) (v:TV) (l h:Option Int):Qt (sliceAt e v l h):=by unfold sliceAt;(repeat' (first|exact Qm.pure trivial|exact Qm.fail|exact Qm.setS _ _|exact Qm.getS _|exact Qt.of (Qm.getN _)|exact Qt.of (Qm.liftO _)|(refine Qt.bind (Qt.of (Qm.getN _)) λ_=> ?_)|(refine Qt.bind (Qt.of (Qm.liftO _)) λ_=> ?_)|(refine Qt.bind (Qm.getS _) λ_=> ?_)|(refine Qt.bind (vde _) λ_=> ?_)|(refine Qt.bind (vj8 _) λ_=> ?_)|(refine Qt.bind (vjm _) λ_=> ?_)|split))
theorem qpz (v:TV) (l h:Option Int):Qt (strAt v l h):=by unfold strAt;(repeat' (first|exact Qm.pure trivial|exact Qm.fail|exact Qm.setS _ _|exact Qm.getS _|exact Qt.of (Qm.getN _)|exact Qt.of (Qm.liftO _)|(refine Qt.bind (Qt.of (Qm.getN _)) λ_=> ?_)|(refine Qt.bind (Qt.of (Qm.liftO _)) λ_=> ?_)|(refine Qt.bind (Qm.getS _) λ_=> ?_)|(refine Qt.bind (vde _) λ_=> ?_)|(refine Qt.bind (vj8 _) λ_=> ?_)|(refine Qt.bind (vjm _) λ_=> ?_)|split))
theorem qic (o:Nat) (v:TV):Qt (fieldAt o v):=by unfold fieldAt;(repeat' (first|exact Qm.pure trivial|exact Qm.fail|exact Qm.setS _ _|exact Qm.getS _|exact Qt.of (Qm.getN _)|exact Qt.of (Qm.liftO _)|(refine Qt.bind (Qt.of (Qm.getN _)) λ_=> ?_)|(refine Qt.bind (Qt.of (Qm.liftO _)) λ_=> ?_)|(refine Qt.bind (Qm.getS _) λ_=> ?_)|(refine Qt.bind (vde _) λ_=> ?_)|(refine Qt.bind (vj8 _) λ_=> ?_)|(refine Qt.bind (vjm _) λ_=> ?_)|split))
theorem qjr (e m:Nat) (v:TV) (i:Int):Qt (indexAt e m v i):=by
 unfold indexAt;refine Qt.bind (vq7 _) λ_=> ?_
 (repeat' (first|exact Qm.pure trivial|exact Qm.fail|exact Qm.setS _ _|exact Qm.getS _|exact Qt.of (Qm.getN _)|exact Qt.of (Qm.liftO _)|(refine Qt.bind (Qt.of (Qm.getN _)) λ_=> ?_)|(refine Qt.bind (Qt.of (Qm.liftO _)) λ_=> ?_)|(refine Qt.bind (Qm.getS _) λ_=> ?_)|(refine Qt.bind (vde _) λ_=> ?_)|(refine Qt.bind (vj8 _) λ_=> ?_)|(refine Qt.bind (vjm _) λ_=> ?_)|split))
theorem qi4 (x:TV):Qm (toPV x) λr=>r.2=false->nofz r.1:=by
 unfold toPV;split
 ·split
  ·exact Qm.pure λ_=>by simp [nofz]
  ·exact Qm.fail
 ·exact Qm.pure λ_=>by simp [nofz,vcp]
 ·exact Qm.pure λh=>by cases h
 ·refine (Qm.getN _).bind λn hn=> ?_;split
  ·rename_i q ver e es;refine Qt.bind (Qm.setN _ _ λ_ _ _ h=>by cases h) λ_=>Qm.pure λhq=> ?_;simp only at hq;subst hq;simp only [nofz];exact hn _ _ _ rfl
  ·exact Qm.fail
 ·exact Qm.fail
theorem vxn:∀(xs:List TV),Qm (toPVs xs) λr=>r.2=false->∀c∈r.1,nofz c
 | []=>Qm.pure λ_=>by simp
 |x::xs=>by
  unfold toPVs;refine (qi4 x).bind λy hy=>(vxn xs).bind λys hys=>Qm.pure λhq=> ?_;simp only [Ae] at hq;intro c hc;cases hc with
  |head=>exact hy hq.1
  |tail _ hc=>exact hys hq.2 c hc
theorem vve {x:TV} {y:PV} (h:atomPV x=some y):nofz y:=by
 unfold atomPV at h;split at h
 ·split at h
  ·cases h;simp [nofz]
  ·cases h
 ·cases h
theorem vpl:∀{xs:List TV} {ys:List PV},vej xs=some ys->∀y∈ys,nofz y
 | [],ys,h=>by cases h;simp
 |x::xs,ys,h=>by
  simp only [vej] at h;split at h
  ·rename_i y ys' h1 h2;cases h;intro c hc;cases hc with
   |head=>exact vve h1
   |tail _ hc=>exact vpl h2 c hc
  ·cases h
theorem qip (flat:Bool) (x:TV):Qm (toEl flat x) λr=>r.2=false->nofz r.1:=by
 unfold toEl;split
 ·split
  ·refine (Qm.liftO _).bind λys hys=>Qm.pure λ_=>vqx (vpl hys)
  ·exact (vxn _).bind λys hys=>Qm.pure λhq=>vqx (hys hq)
 ·split
  ·exact (Qm.liftO _).bind λy hy=>Qm.pure λ_=>vve hy
  ·exact qi4 _
theorem qg5 (flat:Bool) (m:Nat):∀(ps:List (Nat×Opd)) (q:Bool) (es:List PV),(q=false->vcp es)->Qm (bslM flat m ps q es) λr=>r.2=false->vcp r.1
 | [],q,es,h=>Qm.pure h
 |(i,x)::ps,q,es,h=>by
  unfold bslM;refine (vde x).bind λv=>(qip flat v).bind λy hy=> ?_;split
  ·refine qg5 flat m ps _ _ λhq=> ?_;simp only [Ae] at hq;refine vb2.2 λc hc=> ?_;rcases Af hc with hc|rfl
   ·exact vb2.1 (h hq.1) c hc
   ·exact hy hq.2
  ·exact Qm.fail
theorem qb8:∀(ps:List (Nat×Nat×Opd)) (cs:List TV),Qt (buildM ps cs)
 | [],cs=>Qm.pure trivial
 |(o,w,x)::ps,cs=>by
  unfold buildM;refine (vde x).bind λv=> ?_;split
  ·exact qb8 ps _
  ·exact Qm.fail
theorem vtp {es:List PV} {i:Nat} {x:PV} (h:vcp es) (hx:nofz x):vcp (es.set i x):=
 vb2.2 λy hy=>(Af hy).elim (vb2.1 h y) λe=>e▸hx
theorem vng:∀(p:List (Nat×Nat×Nat)) {es:List PV} {r:Nat×List PV},vcp es->dget es p=some r->vcp r.2
 | [],es,r,h,hr=>by simp [dget] at hr
 |(i,m,o)::p,es,r,h,hr=>by
  simp only [dget] at hr;split at hr
  ·cases hr
  ·rename_i x hx;split at hr
   ·split at hr
    ·rename_i e es' hc;have h1:vcp es':=by
      have:=voc (vb2.1 h x (Ac hx)) _ (Ac hc);simpa only [nofz] using this
     split at hr
     ·cases hr;exact h1
     ·exact vng _ h1 hr
    ·cases hr
   ·cases hr
theorem vlx {c:PV} (hc:nofz c):∀(p:List (Nat×Nat×Nat)) {es es1:List PV},vcp es->dput es p c=some es1->vcp es1
 | [],es,es1,h,hr=>by simp [dput] at hr
 |(i,m,o)::p,es,es1,h,hr=>by
  simp only [dput] at hr;split at hr
  ·cases hr
  ·rename_i x hx;have hxn:=vb2.1 h x (Ac hx);split at hr
   ·split at hr
    ·cases hr
    ·rename_i c0 hc0;split at hr
     ·cases hr;exact vtp h (vli hxn (by simpa using hc))
     ·split at hr
      ·rename_i e es';split at hr
       ·rename_i in' hin;cases hr;have h1:vcp es':=by
         have:=voc hxn _ (Ac hc0);simpa only [nofz] using this
        exact vtp h (vli hxn (by simpa only [List.mem_singleton,forall_eq,nofz] using vlx hc _ h1 hin))
       ·cases hr
      ·cases hr
   ·cases hr
theorem qhu (b w:Nat) (x y:TV):Qt (storeAt b w x y):=by
 have box:∀id o,Qt (storeBox w id o y):=by
  intro id o;unfold storeBox;refine (Qm.getN _).bind λn hn=> ?_;split
  ·split
   ·exact Qm.setN _ _ λ_ _ _ h=>by cases h
   ·exact Qm.fail
  ·exact Qm.fail
 unfold storeAt;split
 ·exact box _ _
 ·exact box _ _
 ·refine (vxn _).bind λys hys=>(Qm.getN _).bind λn hn=> ?_;split
  ·rename_i q ver e es;split
   ·rename_i x0 hx0;split
    ·refine Qm.setN _ _ λver' e' es' h=> ?_;simp only [Ab,Node.sl.injEq] at h;obtain ⟨hq,_,_,rfl⟩:=h;simp only [Ae] at hq;have hes:vcp es:=hn ver e es (by rw [hq.1]);refine vb2.2 λc hc=> ?_;rcases Af hc with hc|rfl
     ·exact vb2.1 hes c hc
     ·exact vli (vb2.1 hes x0 (Ac hx0)) (hys hq.2)
    ·exact Qm.fail
   ·exact Qm.fail
  ·exact Qm.fail
 ·refine (Qm.getN _).bind λn hn=> ?_;split
  ·rename_i q ver e es;split
   ·unfold vm1;split
    ·rename_i e' es' ys hget hys;split
     ·rename_i x0 hx0;split
      ·split
       ·rename_i es1 hput;refine Qm.setN _ _ λver' e2 es2 h=> ?_;simp only [Ab,Node.sl.injEq] at h;obtain ⟨hq,_,_,rfl⟩:=h;have hes:vcp es:=hn ver e es (by rw [hq]);have he:=vng _ hes hget;refine vlx (c:= .sl e' (es'.set _ _)) ?_ _ hes hput;simp only [nofz];exact vtp he (vli (vb2.1 he x0 (Ac hx0)) (vpl hys))
       ·exact Qm.fail
      ·exact Qm.fail
     ·exact Qm.fail
    ·exact Qm.fail
   ·exact Qm.fail
  ·exact Qm.fail
 ·exact Qm.fail
theorem qr8 (b e:Nat) (x:TV):Qm (appTo b e x) λr=>r.2=false->vcp r.1:=by
 unfold appTo;split
 ·split
  ·exact Qm.pure λ_=>by simp [vcp]
  ·exact Qm.fail
 ·refine (Qm.getN _).bind λn hn=> ?_;split
  ·rename_i q ver e' es;split
   ·refine Qt.bind (Qm.setN _ _ λ_ _ _ h=>by cases h) λ_=>Qm.pure λhq=> ?_;simp only at hq;subst hq;exact hn _ _ _ rfl
   ·exact Qm.fail
  ·exact Qm.fail
 ·rename_i id lo k;refine (Qm.getN _).bind λn hn=> ?_;split
  ·rename_i q ver e' es;split
   ·split
    ·refine Qt.bind (Qm.setN _ _ λ_ _ _ h=>by cases h) λ_=>Qm.pure λhq=> ?_;simp only at hq;subst hq;exact vb2.2 λc hc=>vb2.1 (hn _ _ _ rfl) c (Ai hc)
    ·exact Qm.fail
   ·exact Qm.fail
  ·exact Qm.fail
 ·refine (Qm.getN _).bind λn hn=> ?_;split
  ·rename_i q ver e' es;split
   ·unfold takeIn;split
    ·rename_i r es1 hg hp;split
     ·refine Qt.bind (Qm.setN _ _ λ_ _ _ h=> ?_) λ_=>Qm.pure λhq=> ?_
      ·simp only [Ab,Node.sl.injEq] at h;obtain ⟨hq,_,_,rfl⟩:=h;exact vlx (by simp only [nofz]) _ (hn ver e' es (by rw [hq])) hp
      ·simp only at hq;subst hq;exact vng _ (hn _ _ _ rfl) hg
     ·exact Qm.fail
    ·exact Qm.fail
   ·exact Qm.fail
  ·exact Qm.fail
 ·exact Qm.fail
theorem vyo (es:List PV):vcp (es.map PV.cpy):=vb2.2 λc hc=>by
 obtain ⟨x,_,rfl⟩:=Ak.1 hc;exact qaq x
theorem qpr (b:Nat) (x:TV):Qt (pull1 b x):=by
 unfold pull1;split
 ·refine (Qm.getN _).bind λn hn=> ?_;split
  ·rename_i q ver' e' es;split
   ·unfold pullK;split
    ·rename_i r hg;refine Qm.bind (R:=λz=>z.2=false->vcp z.1) ?_ λz hz=>Qt.bind (Qm.setN _ _ λver e es h=> ?_) λ_=>Qm.pure trivial
     ·unfold takeIn;split
      ·rename_i r1 es1 hg2 hp;cases hg2;split
       ·refine Qt.bind (Qm.setN _ _ λ_ _ _ h=> ?_) λ_=>Qm.pure λhq=> ?_
        ·simp only [Ab,Node.sl.injEq] at h;obtain ⟨hq,_,_,rfl⟩:=h;exact vlx (by simp only [nofz]) _ (hn ver' e' es (by rw [hq])) hp
        ·simp only at hq;subst hq;exact vng _ (hn _ _ _ rfl) hg
       ·exact Qm.fail
      ·exact Qm.fail
     ·simp only [Ab,Node.sl.injEq] at h;obtain ⟨hq,_,_,rfl⟩:=h;exact hz hq
    ·exact Qm.fail
   ·exact Qm.fail
  ·exact Qm.fail
 ·exact Qm.pure trivial
theorem qdy (b:Nat):∀(xs:List TV),Qt (pullL b xs)
 | []=>Qm.pure trivial
 |x::xs=>by
  unfold pullL;split
  ·exact Qt.bind (qpr _ _) λ_=>Qm.pure trivial
  ·exact Qt.bind (qdy b xs) λ_=>Qm.pure trivial
theorem qbt (b:Nat) (u v:TV):Qt (pullTo b u v):=by
 unfold pullTo;split
 ·exact Qt.bind (qdy _ _) λ_=>Qm.pure trivial
 ·exact Qm.pure trivial
theorem qtm (b:Nat) (flat:Bool) (m:Nat) (ps:List (Nat×Opd)) (es:List PV) (h:vcp es):Qm (bslQ b flat m ps es) λr=>r.2=false->vcp r.1:=by
 unfold bslQ;split
 ·refine Qt.bind (vde _) λv=>Qt.bind (qbt _ _ _) λv=>(qip _ v).bind λy hy=> ?_;split
  ·refine Qm.pure λhq=>vb2.2 λc hc=> ?_;rcases Af hc with hc|rfl
   ·exact vb2.1 h c hc
   ·exact hy hq
  ·exact Qm.fail
 ·exact qg5 _ _ _ _ _ λ_=>h
theorem qp9 (e:Nat) (mv:Bool) (y:TV):Qm (appOf e mv y) λr=>r.2=false->vcp r.1:=by
 unfold appOf;split
 ·refine (Qm.getN _).bind λn hn=> ?_;split
  ·rename_i q ver e' es;split
   ·split
    ·refine Qt.bind (Qm.setN _ _ λ_ _ _ h=>by cases h) λ_=>Qm.pure λhq=> ?_;simp only at hq;subst hq;exact hn _ _ _ rfl
    ·exact Qm.pure λ_=>vyo _
   ·exact Qm.fail
  ·exact Qm.fail
 ·refine Qt.bind (vq7 _) λr=> ?_;split
  ·unfold cpyOf;split
   ·exact Qm.pure λh=>by cases h
   ·exact Qm.pure λ_=>vyo _
  ·exact Qm.fail
theorem qin (b e bytes:Nat) (mv:Bool) (x y:TV):Qt (appendM b e bytes mv x y):=by
 unfold appendM;refine (qr8 b e x).bind λxs hxs=>(qp9 e mv y).bind λys hys=> ?_;split
 ·refine Qt.bind (Qm.setN _ _ λver' e' es' h=> ?_) λ_=>Qm.pure trivial;simp only [Ab,Node.sl.injEq] at h;obtain ⟨hq,_,_,rfl⟩:=h;simp only [Ae] at hq;refine vb2.2 λc hc=> ?_;rcases Ao.1 hc with hc|hc
  ·exact vb2.1 (hxs hq.1) c hc
  ·exact vb2.1 (hys hq.2) c hc
 ·exact Qm.fail
theorem vt5:∀{es:List PV},vcp es↔∀x∈es,nofz x
 | []=>by simp [vcp]
 |e::es=>by simp [vcp,vt5 (es:=es)]
theorem vyt {es fs:List PV} (h:∀x∈fs,x∈es) (hn:vcp es):vcp fs:=vt5.2 λx hx=>vt5.1 hn x (h x hx)
mutual
theorem qq1:∀{x:PV},nfz x=true->nofz x
 | .a _,_=>by simp [nofz]
 | .sl _ es,h=>by simp only [nfz] at h;simp only [nofz];exact vo1 h
 | .fz _ _,h=>by simp [nfz] at h
 | .st cs,h=>by simp only [nfz] at h;simp only [nofz];exact vo1 h
 | .un,_=>by simp [nofz]
theorem vo1:∀{l:List PV},nfzL l=true->vcp l
 | [],_=>by simp [vcp]
 |c::cs,h=>by simp only [nfzL,Al] at h;simp only [vcp];exact ⟨qq1 h.1,vo1 h.2⟩
end
mutual
theorem qbi:∀(k:Nat) (x:TV),Qm (pack false k x) vbl
 |0,x=>by unfold pack;exact Qm.fail
 |k+1,x=>by
  unfold pack;split
  ·exact Qm.pure (by simp [vbl])
  ·exact Qm.pure (by simp [vbl,vcp])
  ·exact Qm.fail
  ·exact (vrd k _).bind λys h=>Qm.pure (by simp only [vbl];exact h)
  ·exact (vrd k _).bind λxs h=>(vrd k _).bind λys h'=>Qm.pure (by simp only [vbl];exact ⟨h,h'⟩)
  ·exact (qbi k _).bind λy h=>Qm.pure (by simp only [vbl];exact h)
  ·refine (Qm.getN _).bind λn hn=> ?_;split
   ·rename_i q ver e es;cases q with
    |true=>
     cases hf:nfzL es with
     |false=>simp only [badFz,hf,Ap,Bool.and_self,if_true];exact Qm.fail
     |true=>
      simp only [badFz,hf,Bool.not_true,Bool.and_false,Bool.false_eq_true,if_false];exact Qt.bind (Qm.setN _ _ λ_ _ _ h=>by cases h) λ_=>Qm.pure (by simp only [vbl];exact λ_=>vo1 hf)
    |false=>exact Qt.bind (Qm.setN _ _ λ_ _ _ h=>by cases h) λ_=>Qm.pure (by simp only [vbl];exact λ_=>hn _ _ _ rfl)
   ·split
    ·exact Qm.fail
    ·exact Qt.bind (Qm.setN _ _ λ_ _ _ h=>by cases h) λ_=>(vrd k _).bind λys h=>Qm.pure (by simp only [vbl];exact h)
   ·exact Qm.pure (by simp [vbl])
  ·exact Qm.pure (by simp [vbl])
  ·refine (Qm.getN _).bind λn hn=> ?_;split
   ·rename_i q ver e es;cases q with
    |true=>simp only [Bool.true_and,Ap,true_or,if_true];exact Qm.fail
    |false=>
     split
     ·exact Qm.fail
     ·exact Qt.bind (Qm.setN _ _ λ_ _ _ h=>by cases h) λ_=>Qm.pure (by simp only [vbl];exact λ_=>vyt (λx hx=>Ai (An hx)) (hn _ _ _ rfl))
   ·exact Qm.fail
  ·exact Qm.fail
theorem vrd:∀(k:Nat) (xs:List TV),Qm (vck false k xs) va1
 |0,xs=>by unfold vck;exact Qm.fail
 |k+1,[]=>by unfold vck;exact Qm.pure (by simp [va1])
 |k+1,x::xs=>by
  unfold vck;exact (qbi k x).bind λy h=>(vrd k xs).bind λys h'=>Qm.pure (by simp only [va1];exact ⟨h,h'⟩)
end
mutual
theorem vxw (fz:Bool):∀(k:Nat) (x:TV),Qt (pack fz k x)
 |0,x=>by unfold pack;exact Qm.fail
 |k+1,x=>by
  unfold pack;split
  ·exact Qm.pure trivial
  ·exact Qm.pure trivial
  ·split
   ·exact Qm.pure trivial
   ·exact Qm.fail
  ·exact (vpe fz k _).bind λys=>Qm.pure trivial
  ·exact (vpe fz k _).bind λxs=>(vpe fz k _).bind λys=>Qm.pure trivial
  ·exact (vxw fz k _).bind λy=>Qm.pure trivial
  ·refine (Qm.getN _).bind λn hn=> ?_;split
   ·split
    ·exact Qm.fail
    ·exact Qt.bind (Qm.setN _ _ λ_ _ _ h=>by cases h) λ_=>Qm.pure trivial
   ·split
    ·exact Qm.fail
    ·exact Qt.bind (Qm.setN _ _ λ_ _ _ h=>by cases h) λ_=>(vpe fz k _).bind λys=>Qm.pure trivial
   ·exact Qm.pure trivial
  ·exact Qm.pure trivial
  ·refine (Qm.getN _).bind λn hn=> ?_;split
   ·split
    ·exact Qm.fail
    ·exact Qt.bind (Qm.setN _ _ λ_ _ _ h=>by cases h) λ_=>Qm.pure trivial
   ·exact Qm.fail
  ·exact Qm.fail
theorem vpe (fz:Bool):∀(k:Nat) (xs:List TV),Qt (vck fz k xs)
 |0,xs=>by unfold vck;exact Qm.fail
 |k+1,[]=>by unfold vck;exact Qm.pure trivial
 |k+1,x::xs=>by
  unfold vck;exact (vxw fz k x).bind λy=>(vpe fz k xs).bind λys=>Qm.pure trivial
end
mutual
theorem vsq (z:Bool):∀(k n:Nat) (x:TV),Qm (vba z k n x) vbl
 |0,n,x=>by unfold vba;exact Qm.fail
 |k+1,n,x=>by
  unfold vba;split
  ·exact Qm.pure (by simp [vbl])
  ·exact Qm.pure (by simp [vbl])
  ·exact Qm.pure (by simp [vbl])
  ·exact (vlt z k _).bind λys h=>Qm.pure (by simp only [vbl];exact h)
  ·exact (vlt z k _).bind λxs h=>(vlt z k _).bind λys h'=>Qm.pure (by simp only [vbl];exact ⟨h,h'⟩)
  ·exact (vsq z k _ _).bind λy h=>Qm.pure (by simp only [vbl];exact h)
  ·exact Qm.pure (by simp [vbl])
  ·refine (Qm.getN _).bind λn hn=> ?_;split
   ·split
    ·exact Qm.fail
    ·exact Qm.pure (by simp [vbl])
   ·split
    ·exact Qm.fail
    ·exact (vlt z k _).bind λys h=>Qm.pure (by simp only [vbl];exact h)
   ·exact Qm.fail
  ·split
   ·exact Qm.fail
   ·refine (Qm.getN _).bind λn hn=> ?_;split
    ·exact Qm.pure (by simp [vbl])
    ·exact Qm.fail
  ·split
   ·exact Qm.fail
   ·refine (Qm.getN _).bind λn hn=> ?_;split
    ·split
     ·split
      ·exact Qm.pure (by simp [vbl])
      ·exact Qm.fail
     ·exact Qm.fail
    ·exact Qm.fail
  ·split
   ·exact Qm.fail
   ·refine (Qm.getN _).bind λn hn=> ?_;split
    ·split
     ·exact (vlt z k _).bind λys h=>Qm.pure (by simp only [vbl];exact h)
     ·exact Qm.fail
    ·exact Qm.fail
  ·exact Qm.fail
theorem vlt (z:Bool):∀(k:Nat) (xs:List TV),Qm (vbo z k xs) va1
 |0,xs=>by unfold vbo;exact Qm.fail
 |k+1,[]=>by unfold vbo;exact Qm.pure (by simp [va1])
 |k+1,x::xs=>by
  unfold vbo;exact (vsq z k 0 x).bind λy h=>(vlt z k xs).bind λys h'=>Qm.pure (by simp only [va1];exact ⟨h,h'⟩)
end
theorem qa4 (keeps:Bool):∀(ms:List Md) (xs:List TV),Qm (lend keeps ms xs) λys=>keeps=false->va1 ys
 | [],[]=>by unfold lend;exact Qm.pure λ_=>by simp [va1]
 | .ro _::ms,_::xs=>by
  unfold lend;exact (qa4 keeps ms xs).bind λys h=>Qm.pure λhk=>by simp only [va1,vbl,true_and];exact h hk
 | .mut _::ms,x::xs=>by
  unfold lend;have hp:Qm (lend0 keeps x) λy=>keeps=false->vbl y:=by
   unfold lend0;split
   ·exact Qm.pure λ_=>by simp only [vbl]
   cases keeps with
   |false=>exact (qbi depth x).weak λy h _=>h
   |true=>exact (vxw true depth x).weak λy _ h=>by cases h
  exact hp.bind λy h1=>(qa4 keeps ms xs).bind λys h=>Qm.pure λhk=>by simp only [va1];exact ⟨h1 hk,h hk⟩
 | [],_::_=>by unfold lend;exact Qm.fail
 | .ro _::_,[]=>by unfold lend;exact Qm.fail
 | .mut _::_,[]=>by unfold lend;exact Qm.fail
theorem qra (keeps:Bool) (v:Nat) (x:TV) (y:CV) (hy:keeps=false->vbl y):Qm (lend1 keeps v x y) λy=>keeps=false->vbl y:=by
 unfold lend1;split
 ·refine (Qm.getN _).bind λn hn=> ?_;split
  ·rename_i q ver' e es;split
   ·exact Qm.fail
   ·rename_i hcond;split
    ·rename_i r es1 hg hp;refine Qm.bind (Qm.setN _ _ λver e0 es0 hh=> ?_) λ_ _=>Qm.pure λhk=> ?_
     ·simp only [Ab,Node.sl.injEq] at hh;obtain ⟨hq,_,_,rfl⟩:=hh;subst hq;exact vlx (by simp only [nofz]) _ (hn _ _ _ rfl) hp
     ·have hq:q=false:=by
       cases q with
       |false=>rfl
       |true=>exact absurd (.inl (by rw [hk];rfl)) hcond
      subst hq;simp only [vbl];exact λ_=>vng _ (hn _ _ _ rfl) hg
    ·exact Qm.fail
  ·exact Qm.fail
 ·exact Qm.pure hy
theorem vxi (keeps:Bool) (v:Nat):∀(ms:List Md) (xs:List TV) (ys:List CV),(keeps=false->va1 ys)->Qm (vbs keeps v ms xs ys) λys=>keeps=false->va1 ys
 | [],[],[],h=>by unfold vbs;exact Qm.pure λ_=>by simp [va1]
 | .ro _::ms,_::xs,y::ys,h=>by
  unfold vbs;exact (vxi keeps v ms xs ys λhk=>by have:=h hk;simp only [va1] at this;exact this.2).bind λys' h'=>Qm.pure λhk=>by
   have:=h hk;simp only [va1] at this⊢;exact ⟨this.1,h' hk⟩
 | .mut _::ms,x::xs,y::ys,h=>by
  unfold vbs;exact (qra keeps v x y λhk=>by have:=h hk;simp only [va1] at this;exact this.1).bind λy' hy'=>(vxi keeps v ms xs ys λhk=>by have:=h hk;simp only [va1] at this;exact this.2).bind λys' h'=>Qm.pure λhk=>by
   simp only [va1];exact ⟨hy' hk,h' hk⟩
 | [],[],_::_,_=>by unfold vbs;exact Qm.fail
 | [],_::_,_,_=>by unfold vbs;exact Qm.fail
 | .ro _::_,[],_,_=>by unfold vbs;exact Qm.fail
 | .ro _::_,_::_,[],_=>by unfold vbs;exact Qm.fail
 | .mut _::_,[],_,_=>by unfold vbs;exact Qm.fail
 | .mut _::_,_::_,[],_=>by unfold vbs;exact Qm.fail
theorem qd9 (keeps:Bool) (v:Nat) (ms:List Md) (xs:List TV):Qm (lendA keeps v ms xs) λys=>keeps=false->va1 ys:=
 (qa4 keeps ms xs).bind λys h=>vxi keeps v ms xs ys h
theorem qsz (z:Bool) (n:Nat) (x:TV):Qm (frz1 z n x) vbl:=by
 unfold frz1;split
 ·exact (vsq false depth 0 x).bind λy h=>by
   split
   ·exact Qm.pure h
   ·exact Qm.fail
 ·exact vsq z depth n x
theorem vwn (keeps:Bool):∀(ms:List Md) (xs:List TV) (ys:List CV),(keeps=false->va1 ys)->Qm (show_ keeps ms xs ys) λcs=>keeps=false->va1 cs
 | [],[],[],_=>by unfold show_;exact Qm.pure λ_=>by simp [va1]
 | .ro n::ms,x::xs,y::ys,h=>by
  unfold show_;exact (qsz keeps n x).bind λy' h1=>(vwn keeps ms xs ys λhk=>by have:=h hk;simp only [va1] at this;exact this.2).bind λys' h2=>Qm.pure λhk=>by simp only [va1];exact ⟨h1,h2 hk⟩
 | .mut _::ms,_::xs,y::ys,h=>by
  unfold show_;exact (vwn keeps ms xs ys λhk=>by have:=h hk;simp only [va1] at this;exact this.2).bind λys' h2=>Qm.pure λhk=>by
   have:=h hk;simp only [va1] at this⊢;exact ⟨this.1,h2 hk⟩
 | [],[],_::_,_=>by unfold show_;exact Qm.fail
 | [],_::_,_,_=>by unfold show_;exact Qm.fail
 | .ro _::_,[],_,_=>by unfold show_;exact Qm.fail
 | .ro _::_,_::_,[],_=>by unfold show_;exact Qm.fail
 | .mut _::_,[],_,_=>by unfold show_;exact Qm.fail
 | .mut _::_,_::_,[],_=>by unfold show_;exact Qm.fail
mutual
theorem qce (q:Bool):∀(c:CV) (b:Nat),(q=false->vbl c)->Qt (vay q b c)
 | .a _,b,_=>by unfold vay;exact Qm.pure trivial
 | .sl z e es,b,h=>by
  unfold vay;split
  ·exact Qm.pure trivial
  ·rename_i hz;refine Qt.bind (Qm.setN _ _ λver' e' es' hh=> ?_) λ_=>Qm.pure trivial;simp only [Ab,Node.sl.injEq] at hh;obtain ⟨hq,_,_,rfl⟩:=hh;have:=h hq;simp only [vbl] at this;exact this (by simpa using hz)
 | .bx z cs,b,h=>by
  unfold vay;exact (vgo q cs _ λhq=>by have:=h hq;simp only [vbl] at this;exact this).bind λr=>Qt.bind (Qm.setN _ _ λ_ _ _ h=>by cases h) λ_=>Qm.pure trivial
 | .st cs,b,h=>by
  unfold vay;exact (vgo q cs _ λhq=>by have:=h hq;simp only [vbl] at this;exact this).bind λr=>Qm.pure trivial
 | .tp cs,b,h=>by
  unfold vay;exact (vgo q cs _ λhq=>by have:=h hq;simp only [vbl] at this;exact this).bind λr=>Qm.pure trivial
 | .fn f fs cs,b,h=>by
  unfold vay;exact (vgo q fs _ λhq=>by have:=h hq;simp only [vbl] at this;exact this.1).bind λr=>(vgo q cs _ λhq=>by have:=h hq;simp only [vbl] at this;exact this.2).bind λr=>Qm.pure trivial
 | .ic t c,b,h=>by
  unfold vay;exact (qce q c _ λhq=>by have:=h hq;simp only [vbl] at this;exact this).bind λr=>Qm.pure trivial
 | .un,b,_=>by unfold vay;exact Qm.pure trivial
theorem vgo (q:Bool):∀(cs:List CV) (b:Nat),(q=false->va1 cs)->Qt (vbg q b cs)
 | [],b,_=>by unfold vbg;exact Qm.pure trivial
 |c::cs,b,h=>by
  unfold vbg;exact (qce q c _ λhq=>by have:=h hq;simp only [va1] at this;exact this.1).bind λr=>(vgo q cs _ λhq=>by have:=h hq;simp only [va1] at this;exact this.2).bind λr=>Qm.pure trivial
end
mutual
theorem vub (q:Bool) (V:Nat):∀(x:TV) (c0 y:CV) (b:Nat),(q=false->vbl y)->Qt (vaf q V b x c0 y)
 | .rf id,c0,y,b,h=>by
  cases c0 with
  |sl z0 e0 es0=>
   cases y with
   |sl z e es=>
    cases z0<;>cases z<;>simp only [vaf]
    ·refine (Qm.getN _).bind λn _=> ?_;split
     ·refine Qt.bind (Qm.setN _ _ λver' e' es' hh=> ?_) λ_=>Qm.pure trivial;simp only [Ab,Node.sl.injEq] at hh;obtain ⟨hq,_,_,rfl⟩:=hh;have:=h hq;simp only [vbl] at this;exact this trivial
     ·exact Qm.fail
    all_goals exact Qm.pure trivial
   |_=>simp only [vaf];exact Qm.pure trivial
  |bx z0 cs0=>
   cases y with
   |bx z cs=>
    cases z0<;>cases z<;>simp only [vaf]
    ·refine (Qm.getN _).bind λn _=> ?_;split
     ·exact (vgo q cs _ λhq=>by have:=h hq;simp only [vbl] at this;exact this).bind λr=>Qt.bind (Qm.setN _ _ λ_ _ _ h=>by cases h) λ_=>Qm.pure trivial
     ·exact Qm.fail
    all_goals exact Qm.pure trivial
   |_=>simp only [vaf];exact Qm.pure trivial
  |_=>simp only [vaf];exact Qm.pure trivial
 | .fn f fs cs,c0,y,b,h=>by
  cases c0 with
  |fn f0 fs0 cs0=>
   cases y with
   |fn f1 fs1 cs1=>
    simp only [vaf];exact (vob q V fs fs0 fs1 b λhq=>by have:=h hq;simp only [vbl] at this;exact this.1).bind λb1=>vob q V cs cs0 cs1 b1 λhq=>by have:=h hq;simp only [vbl] at this;exact this.2
   |_=>simp only [vaf];exact Qm.pure trivial
  |_=>simp only [vaf];exact Qm.pure trivial
 | .st cs,c0,y,b,h=>by
  cases c0 with
  |st cs0=>
   cases y with
   |st cs1=>
    simp only [vaf];exact vob q V cs cs0 cs1 b λhq=>by have:=h hq;simp only [vbl] at this;exact this
   |_=>simp only [vaf];exact Qm.pure trivial
  |_=>simp only [vaf];exact Qm.pure trivial
 | .ic t x,c0,y,b,h=>by
  cases c0 with
  |ic t0 x0=>
   cases y with
   |ic t1 x1=>
    simp only [vaf];exact vub q V x x0 x1 b λhq=>by have:=h hq;simp only [vbl] at this;exact this
   |_=>simp only [vaf];exact Qm.pure trivial
  |_=>simp only [vaf];exact Qm.pure trivial
 | .a _,c0,y,b,h=>by simp only [vaf];exact Qm.pure trivial
 | .nl _,c0,y,b,h=>by simp only [vaf];exact Qm.pure trivial
 | .ri _ _ _,c0,y,b,h=>by simp only [vaf];exact Qm.pure trivial
 | .sb _ _ _,c0,y,b,h=>by simp only [vaf];exact Qm.pure trivial
 | .ad _ _,c0,y,b,h=>by simp only [vaf];exact Qm.pure trivial
 | .ea _ _ _ _,c0,y,b,h=>by simp only [vaf];exact Qm.pure trivial
 | .ei _ _ _ _ _ _,c0,y,b,h=>by simp only [vaf];exact Qm.pure trivial
 | .sz _ _,c0,y,b,h=>by simp only [vaf];exact Qm.pure trivial
 | .ez _ _,c0,y,b,h=>by simp only [vaf];exact Qm.pure trivial
 | .tp _,c0,y,b,h=>by simp only [vaf];exact Qm.pure trivial
 | .un,c0,y,b,h=>by simp only [vaf];exact Qm.pure trivial
theorem vob (q:Bool) (V:Nat):∀(xs:List TV) (cs0 ys:List CV) (b:Nat),(q=false->va1 ys)->Qt (vbh q V b xs cs0 ys)
 | [],cs0,ys,b,h=>by simp only [vbh];exact Qm.pure trivial
 |x::xs,[],ys,b,h=>by simp only [vbh];exact Qm.pure trivial
 |x::xs,c0::cs0,[],b,h=>by simp only [vbh];exact Qm.pure trivial
 |x::xs,c0::cs0,y::ys,b,h=>by
  simp only [vbh];exact (vub q V x c0 y b λhq=>by have:=h hq;simp only [va1] at this;exact this.1).bind λb1=>vob q V xs cs0 ys b1 λhq=>by have:=h hq;simp only [va1] at this;exact this.2
end
theorem qqj (q:Bool) (V:Nat) (x:TV) (c0 y:CV) (b:Nat) (h:q=false->vbl y):Qt (back1 q V b x c0 y):=by
 unfold back1;split
 ·split
  ·refine (Qm.getN _).bind λn hn=> ?_;split
   ·split
    ·rename_i q0 ver e es _ _ es1 hat hput;refine Qt.bind (Qm.setN _ _ λver' e0 es0 hh=> ?_) λ_=>Qm.pure trivial;simp only [Ab,Node.sl.injEq,Ae] at hh;obtain ⟨⟨hq0,hq⟩,_,_,rfl⟩:=hh;subst hq0;have:=h hq;simp only [vbl] at this;exact vlx (by simp only [nofz];exact this trivial) _ (hn _ _ _ rfl) hput
    ·exact Qm.fail
   ·exact Qm.fail
  ·exact Qm.fail
 ·exact vub q V x c0 y b h
theorem vsg (q:Bool) (V:Nat):∀(ms:List Md) (xs:List TV) (cs fs:List CV) (b:Nat),(q=false->va1 fs)->Qt (van q V b ms xs cs fs)
 | [],[],[],[],b,h=>by simp only [van];exact Qm.pure trivial
 | .ro _::ms,x::xs,c::cs,fs,b,h=>by simp only [van];exact vsg q V ms xs cs fs b h
 | .mut _::ms,x::xs,c::cs,f::fs,b,h=>by
  simp only [van];exact (qqj q V x c f b λhq=>by have:=h hq;simp only [va1] at this;exact this.1).bind λb1=>vsg q V ms xs cs fs b1 λhq=>by have:=h hq;simp only [va1] at this;exact this.2
 | [],_::_,_,_,b,h=>by simp only [van];exact Qm.fail
 | [],[],_::_,_,b,h=>by simp only [van];exact Qm.fail
 | [],[],[],_::_,b,h=>by simp only [van];exact Qm.fail
 | .ro _::_,[],_,_,b,h=>by simp only [van];exact Qm.fail
 | .ro _::_,_::_,[],_,b,h=>by simp only [van];exact Qm.fail
 | .mut _::_,[],_,_,b,h=>by simp only [van];exact Qm.fail
 | .mut _::_,_::_,[],_,b,h=>by simp only [van];exact Qm.fail
 | .mut _::_,_::_,_::_,[],b,h=>by simp only [van];exact Qm.fail
theorem vtk:∀{cs ds:List CV},va1 (cs++ds)↔va1 cs/\va1 ds
 | [],ds=>by simp [va1]
 |c::cs,ds=>by simp [va1,vtk (cs:=cs),and_assoc]
def Nofz (g:Option Callee):Prop:=∀c,g=some c->c.keeps=false->∀cs rs fs,va1 cs->c.go cs=some (rs,fs)->va1 (rs++fs)
theorem vuz {g:Option Callee} (hg:Nofz g) (b:Nat) (xs:List TV):Qt (callM g b xs):=by
 cases g with
 |none=>exact Qm.fail
 |some c=>
  simp only [callM];refine (qd9 c.keeps (b+100) c.modes xs).bind λps hps=>(vwn c.keeps c.modes xs ps hps).bind λcs hcs=> ?_;cases hgo:c.go cs with
  |none=>exact Qm.fail
  |some rf=>
   obtain ⟨rs,fs⟩:=rf;have hall:c.keeps=false->va1 rs/\va1 fs:=λhk=>vtk.1 (hg c rfl hk cs rs fs (hcs hk) hgo);refine (vsg c.keeps (b+100) c.modes xs cs fs b λhk=>(hall hk).2).bind λb'=> ?_;split
   ·split
    ·exact Qt.bind (Qt.of (Qm.liftO _)) λts=>Qm.pure trivial
    ·exact Qm.fail
   unfold vd5;refine (vgo c.keeps rs b' λhk=>(hall hk).1).bind λr=> ?_;split
   ·exact Qm.pure trivial
   ·exact Qm.fail
theorem vrq (d:Option Nat) (v:TV):Qt (putO d v):=by
 cases d with
 |none=>exact Qm.pure trivial
 |some d=>exact Qm.setS _ _
theorem qqu (c:Option Callee) (vs:List TV) (tv:TV):Qt (alsIn c vs tv):=by
 unfold alsIn;split
 ·split
  ·refine (Qm.getN _).bind λn hn=> ?_;split
   ·exact Qm.setN _ _ λ_ _ _ h=>by cases h
   ·exact Qm.fail
  ·exact Qm.fail
 ·exact Qm.fail
theorem qab (q:Bool) (ts:List TV):Qt (alsOut q ts):=by
 unfold alsOut;split
 ·split
  ·refine (Qm.getN _).bind λn hn=> ?_;split
   ·refine (Qm.getS _).bind λx _=> ?_;split
    ·split
     ·exact Qm.setN _ _ λ_ _ _ h=>by cases h
     ·exact Qm.fail
    ·exact Qm.fail
   ·exact Qm.fail
  ·exact Qm.fail
 ·exact Qm.pure trivial
theorem ql2 (c:Option Callee) (vs:List TV) (tv:TV):Qt (alsIn2 c vs tv):=by
 unfold alsIn2;split
 ·exact qqu _ _ _
 ·exact Qm.pure trivial
theorem qgv {Φ:Nat->Option Callee} (hΦ:∀f,Nofz (Φ f)) (b:Nat) (op:VOp):Qt (exec Φ b op):=by
 cases op with
 |alloc d zs=>
  simp only [exec];split
  ·exact Qm.fail
  ·exact Qt.bind (Qm.setN _ _ λ_ _ _ h=>by cases h) λ_=>Qm.setS _ _
 |box d x=>
  simp only [exec];refine Qt.bind (vde _) λv=>Qt.bind (Qt.of (Qm.liftO _)) λcs=> ?_;split
  ·exact Qm.fail
  ·exact Qt.bind (Qm.setN _ _ λ_ _ _ h=>by cases h) λ_=>Qm.setS _ _
 |build d zs ps=>simp only [exec];exact (qb8 _ _).bind λcs=>Qm.setS _ _
 |bsl d e m zs n ps=>
  simp only [exec];refine (qtm _ _ _ _ _ (vb2.2 λc hc=>by rw [(Aj.1 hc).2];exact vvi _ _)).bind λes hes=> ?_;refine Qt.bind (Qm.setN _ _ λver' e' es' hh=> ?_) λ_=>Qm.setS _ _;simp only [Ab,Node.sl.injEq] at hh;obtain ⟨hq,_,_,rfl⟩:=hh;exact hes hq
 |load d w x=>simp only [exec];exact Qt.bind (vde _) λv=>(vvw _ _).bind λ_=>Qm.setS _ _
 |lda d x=>
  simp only [exec];refine Qt.bind (vde _) λv=>Qt.bind (vvw _ _) λu=> ?_;unfold atomS;split
  ·exact Qm.setS _ _
  ·exact Qm.fail
 |store w x y=>simp only [exec];exact Qt.bind (vde _) λu=>Qt.bind (vde _) λv=>Qt.bind (qbt _ _ _) λv=>qhu _ _ _ _
 |slc0 d e x=>
  simp only [exec];refine Qt.bind (vde _) λu=>Qt.bind (vq7 _) λr=> ?_;split
  ·exact Qt.bind (Qm.setN _ _ λver' e' es' hh=>by simp only [Ab,Node.sl.injEq] at hh;obtain ⟨_,_,_,rfl⟩:=hh;exact vb2.2 (by simp)) λ_=>Qm.setS _ _
  ·exact Qm.fail
 |s2b d e x=>
  simp only [exec];refine Qt.bind (vde _) λu=> ?_;split
  ·split
   ·refine Qt.bind (Qm.setN _ _ λver' e' es' hh=> ?_) λ_=>Qm.setS _ _;simp only [Ab,Node.sl.injEq] at hh;obtain ⟨_,_,_,rfl⟩:=hh;exact vb2.2 λc hc=>by obtain ⟨y,_,rfl⟩:=Ak.1 hc;simp only [nofz]
   ·exact Qm.fail
  ·exact Qm.fail
 |mks d e bytes zs x=>
  simp only [exec];refine Qt.bind (vde _) λu=> ?_;split
  ·split
   ·refine Qt.bind (Qm.setN _ _ λver' e' es' hh=> ?_) λ_=>Qm.setS _ _;simp only [Ab,Node.sl.injEq] at hh;obtain ⟨_,_,_,rfl⟩:=hh;exact vb2.2 λc hc=>by rw [(Aj.1 hc).2];exact vvi _ _
   ·exact Qm.fail
  ·exact Qm.fail
 |slc d e x lo hi=>
  simp only [exec];exact Qt.bind (vde _) λv=>Qt.bind (vjm _) λl=>Qt.bind (vjm _) λh=>(qi8 _ _ _ _).bind λ_=>Qm.setS _ _
 |sslc d x lo hi=>
  simp only [exec];exact Qt.bind (vde _) λv=>Qt.bind (vjm _) λl=>Qt.bind (vjm _) λh=>(qpz _ _ _).bind λ_=>Qm.setS _ _
 |fad d x off=>simp only [exec];exact Qt.bind (vde _) λv=>(qic _ _).bind λ_=>Qm.setS _ _
 |iad d e m x i=>
  simp only [exec];refine Qt.bind (vde _) λv=>Qt.bind (vde _) λu=> ?_;split
  ·exact (qjr _ _ _ _).bind λ_=>Qm.setS _ _
  ·exact Qm.fail
 |len d x=>simp only [exec];exact Qt.bind (vde _) λv=>(vq7 _).bind λ_=>Qm.setS _ _
 |app d e bytes mv x y=>simp only [exec];exact Qt.bind (vde _) λu=>Qt.bind (vde _) λv=>(qin _ _ _ _ _ _).bind λ_=>Qm.setS _ _
 |call d f xs=>simp only [exec];exact Qt.bind (vj8 _) λvs=>(vuz (hΦ f) _ _).bind λ_=>vrq _ _
 |cala d f xs=>
  simp only [exec];exact Qt.bind (vj8 _) λvs=>(vuz (hΦ f) _ _).bind λtv=>Qt.bind (ql2 _ _ _) λ_=>vrq _ _
 |calv d f xs=>
  simp only [exec];refine Qt.bind (vde _) λg=> ?_;split
  ·exact Qt.bind (vj8 _) λvs=>(vuz (hΦ _) _ _).bind λ_=>vrq _ _
  ·exact Qm.fail
 |cali d t f x xs=>
  simp only [exec];refine Qt.bind (vde _) λg=> ?_;split
  ·split
   ·exact Qt.bind (vj8 _) λvs=>(vuz (hΦ _) _ _).bind λ_=>vrq _ _
   ·exact Qm.fail
  ·exact Qm.fail
 |clr e z x=>
  simp only [exec];refine Qt.bind (vde _) λv=> ?_;unfold clrAt;split
  ·refine Qt.bind (Qt.of (Qm.getN _)) λn=> ?_;split
   ·split
    ·refine Qm.setN _ _ λver' e' es' hh=> ?_;simp only [Ab,Node.sl.injEq] at hh;obtain ⟨_,_,_,rfl⟩:=hh;exact vb2.2 λc hc=>by rw [(Aj.1 hc).2];simp only [nofz]
    ·exact Qm.fail
   ·exact Qm.fail
  ·exact Qm.fail
 |b2s d e x=>
  simp only [exec];refine Qt.bind (vde _) λv=>Qt.bind (vq7 _) λr=> ?_;split
  ·exact Qt.bind (Qt.of (Qm.liftO _)) λ_=>Qm.setS _ _
  ·exact Qm.fail
 |pick d c x y=>
  simp only [exec];refine Qt.bind (vde _) λu=> ?_;split
  ·split
   ·exact Qt.bind (vde _) λ_=>Qm.setS _ _
   ·exact Qt.bind (vde _) λ_=>Qm.setS _ _
  ·exact Qm.fail
 |_=>simp only [exec];(repeat' (first|exact Qm.pure trivial|exact Qm.fail|exact Qm.setS _ _|exact Qm.getS _|exact Qt.of (Qm.getN _)|exact Qt.of (Qm.liftO _)|(refine Qt.bind (Qt.of (Qm.getN _)) λ_=> ?_)|(refine Qt.bind (Qt.of (Qm.liftO _)) λ_=> ?_)|(refine Qt.bind (Qm.getS _) λ_=> ?_)|(refine Qt.bind (vde _) λ_=> ?_)|(refine Qt.bind (vj8 _) λ_=> ?_)|(refine Qt.bind (vjm _) λ_=> ?_)|split))
theorem vux {Φ:Nat->Option Callee} (hΦ:∀f,Nofz (Φ f)) (b:Nat) (o:VOper):Qt (execG Φ b o):=by
 unfold execG;split
 ·exact qgv hΦ b _
 ·refine Qt.bind (Qm.getS _) λu=> ?_;split
  ·split
   ·exact qgv hΦ b _
   ·exact vrq _ _
  ·exact vrq _ _
  ·exact Qm.fail
theorem vx8 {Φ:Nat->Option Callee} (hΦ:∀f,Nofz (Φ f)):∀(os:List VOper) (b:Nat) (st st':St),execs Φ b os st=some st'->Qok st->Qok st'
 | [],b,st,st',h,hq=>by cases h;exact hq
 |o::os,b,st,st',h,hq=>by
  simp only [execs] at h;split at h
  ·rename_i u s1 h1;exact vx8 hΦ os _ _ _ h (vux hΦ b o st _ s1 h1 hq).1
  ·cases h
variable {cx:Cx} {U:Nat->Prop} {X:vaj} {ρ:Nat->Value} {F:Nat->vaj} {st:St} {sh:va2} {V:Nat} {a:Act} {w:World}
theorem vum {b:Nat} {Φ:Nat->Option Callee} (hq:Qok st):∀f c (xs:List TV),Φ f=some c->c.keeps=false->∀ps cs s1 s2,(lendA c.keeps (b+100) c.modes xs).run st=some (ps,s1)->(show_ c.keeps c.modes xs ps).run s1=some (cs,s2)->va1 cs:=by
 intro f c xs _ hk ps cs s1 s2 h1 h2;obtain ⟨q1,r1⟩:=qd9 c.keeps (b+100) c.modes xs st ps s1 h1 hq;exact (vwn c.keeps c.modes xs ps r1 s1 cs s2 h2 q1).2 hk
theorem qfr {x y:Operand} (h:sameOpd x y=true):x=y:=by
 unfold sameOpd at h;split at h
 ·rw [beq_iff_eq] at h;subst h;rfl
 ·rw [beq_iff_eq] at h;subst h;rfl
 ·cases h
theorem qp6 {Φ:Nat->Option Callee} (hS:∀f c,Φ f=some c->Sound cx.P f c) (h:G cx U (λ_ _=>False) ρ F st a w) (hq:Qok st) {b:Nat} (hb:∀i,b<=i->i<b+100->¬U i) {ops:Array Oper} {o:Oper} {v:VOp} (hc:cOp1 cx.P ops o=some v)
  (hd:∀d,o.dst=some d->d<cx.n) {s1:St} (hr:(exec Φ b v).run st=some ((),s1)):Now cx U b o s1 a w:=by
 unfold cOp1 at hc;split at hc
 ·rename_i hop hdst;obtain ⟨y,hy,rfl⟩:=Aa.1 hc;exact qay h hdst (hd _ hdst) (.inl hop) hy hr
 ·rename_i hop hdst;obtain ⟨y,hy,rfl⟩:=Aa.1 hc;exact qay h hdst (hd _ hdst) (.inr hop) hy hr
 ·rename_i hop hdst;split at hc
  ·rename_i h1 h2 h3;cases hc;exact qef h hdst (hd _ hdst) hop h1 h2 h3 hr
  ·cases hc
 ·rename_i hop hdst;obtain ⟨y,hy,rfl⟩:=Aa.1 hc;exact qb5 h hb hdst (hd _ hdst) hop hy hr
 ·rename_i hop hdst;split at hc
  ·obtain ⟨y,hy,rfl⟩:=Aa.1 hc;exact qhv h hb hdst (hd _ hdst) hop hy hr
  ·cases hc
 ·rename_i hop hdst;split at hc
  ·rename_i h1 h2 h3;split at hc
   ·rename_i h4;cases hc;exact qan h hdst (hd _ hdst) hop h1 h2 h3 h4 hr
   ·cases hc
  ·cases hc
 ·rename_i hop hdst;split at hc
  ·rename_i h0;split at hc
   ·rename_i h1 h2 h3;split at hc
    ·rename_i h4;cases hc;exact qre h hb hdst (hd _ hdst) hop h0 h1 h2 h3 h4 hr
    ·cases hc
   ·cases hc
  ·cases hc
 ·rename_i hop hdst;split at hc
  ·rename_i h1 h2;split at hc
   ·rename_i hl;cases hc;obtain ⟨_,rfl⟩:=hl;exact qir h hdst (hd _ hdst) hop h1 h2 hr
   ·cases hc;exact qd7 h hdst (hd _ hdst) hop h1 h2 hr
  ·cases hc
 ·rename_i hop hdst;split at hc
  ·rename_i h1 h2 h3 h4;cases hc;exact qct h hb hdst hop h2 h3 h4 hr
  ·cases hc
 ·rename_i hop hdst;obtain ⟨y,hy,rfl⟩:=Aa.1 hc;exact qbh h hdst (hd _ hdst) hop hy hr
 ·rename_i hop hdst;split at hc
  ·split at hc
   ·rename_i h1 h2;cases hc;exact qid h hdst (hd _ hdst) hop h1 h2 hr
   ·cases hc
  ·split at hc
   ·rename_i hbt;split at hc
    ·rename_i h1 h2 h3;cases hc;exact qgx h hdst (hd _ hdst) hop h1 h2 hbt h3 hr
    ·cases hc
   ·split at hc
    ·rename_i h0 h1 h2 h3;cases hc;exact qrf h hdst (hd _ hdst) hop h1 h2 h0 h3 hr
    ·cases hc
 ·rename_i hop hdst;obtain ⟨y,hy,rfl⟩:=Aa.1 hc;exact qo1 h (t':=0) hdst (hd _ hdst) hop hy hr
 ·rename_i hop hdst;split at hc
  ·rename_i h1 h2 h3;cases hc;exact qj1 h hdst (hd _ hdst) hop h1 h2 h3 hr
  ·rename_i h1 h2 h3;cases hc;exact qkf h hdst (hd _ hdst) hop h1 h2 h3 hr
  ·rename_i h1 h2 h3;split at hc
   ·rename_i h4;split at hc
    ·rename_i h5;cases hc;exact qg7 h hb hdst (hd _ hdst) hop h1 h2 h4 h5 h3 hr
    ·cases hc
   ·cases hc
  ·rename_i h1 h2 h3;split at hc
   ·rename_i h4;cases hc;exact qhp h hdst (hd _ hdst) hop h1 h4 h2 h3 hr
   ·cases hc
  ·cases hc
 ·rename_i hop hdst;split at hc
  ·rename_i h1 h2;cases hc;exact qh0 h hdst (hd _ hdst) hop h1 h2 hr
  ·cases hc
 ·rename_i hop hdst;split at hc
  ·rename_i hcon;obtain ⟨y,hy,rfl⟩:=Aa.1 hc;exact qik h hdst (hd _ hdst) hop (λv=>run_makeInterface w _ v hcon) hy hr
  ·cases hc
 ·rename_i hop hdst;split at hc
  ·rename_i h0;split at hc
   ·rename_i h2 h3 h4;split at hc
    ·rename_i hcond;cases hc;rw [<-qfr hcond] at hop;exact qkd h hb hdst (hd _ hdst) hop h0 h2 h3 h4 hr
    ·cases hc
   ·cases hc
  ·cases hc
 ·rename_i hop hdst;split at hc
  ·rename_i h1 h2 h3 h4;cases hc;exact qen h hdst (hd _ hdst) hop h1 h2 h3 h4 hr
  ·rename_i h1 h2 h3 h4;split at hc
   ·rename_i hs;cases hc;obtain ⟨m,hm⟩:=Am.1 hs;exact qi7 h hdst (hd _ hdst) hop h1 hm h2 h3 h4 hr
   ·cases hc
  ·cases hc
 ·rename_i hop hdst;split at hc
  ·rename_i h1 h2;split at hc
   ·rename_i hcond;cases hc;obtain ⟨m,hm⟩:=Am.1 hcond.2.2;exact qd6 h hb hdst (hd _ hdst) hop h1 hm h2 hcond.1 hcond.2.1 hr
   ·cases hc
  ·cases hc
 ·rename_i hop hdst;split at hc
  ·rename_i h1 h2;split at hc
   ·rename_i h3;cases hc;exact qjg h hdst (hd _ hdst) hop h1 h3 h2 hr
   ·cases hc
  ·cases hc
 ·rename_i hop hdst;split at hc
  ·rename_i h1;split at hc
   ·rename_i h2 h3;cases hc;exact qjt h hdst (hd _ hdst) hop h1 h2 h3 hr
   ·cases hc
  ·cases hc
 ·rename_i hop hdst;split at hc
  ·rename_i h0;split at hc
   ·rename_i h1 h2 h3;split at hc
    ·cases hc;exact qkl h hdst (hd _ hdst) hop h0 h1 h2 h3 hr
    ·cases hc
   ·cases hc
  ·cases hc
 ·rename_i hop hdst;split at hc
  ·rename_i h0;split at hc
   ·rename_i h1 h2;cases hc;exact qpa h hdst (hd _ hdst) hop h0 h1 h2 hr
   ·cases hc
  ·cases hc
 ·rename_i hop hdst;obtain ⟨y,hy,rfl⟩:=Aa.1 hc;exact qjv h hdst (hd _ hdst) hop hy hr
 ·rename_i hop hdst;split at hc
  ·rename_i ha ht;have ha':=Ag.1 (ha.trans (Ad).symm);have ht':=Ag.1 (ht.trans (Ad).symm);split at hc
   ·rename_i h0;obtain ⟨y,hy,rfl⟩:=Aa.1 hc;exact qer h hdst (hd _ hdst) hop rfl ha' ht' h0 hy hr
   ·rename_i h0;obtain ⟨y,hy,rfl⟩:=Aa.1 hc;exact qhq h hdst (hd _ hdst) hop rfl ha' ht' h0 hy hr
   ·cases hc
  ·cases hc
 ·rename_i hop hdst;split at hc
  ·rename_i ha ht;have ha':=Ag.1 (ha.trans (Ad).symm);have ht':=Ag.1 (ht.trans (Ad).symm);split at hc
   ·rename_i h0 _;split at hc
    ·rename_i hcond;obtain ⟨rfl,rfl⟩:=hcond;split at hc
     ·rename_i h1 h2 h3 h4 h5;split at hc
      ·rename_i hpos;cases hc;exact qg2 h hb hdst (hd _ hdst) hop rfl ha' ht' h0 h1 h2 h3 hpos.1 h4 h5 hr
      ·cases hc
     ·cases hc
    ·cases hc
   ·cases hc
  ·cases hc
 ·rename_i hop hdst;split at hc
  ·rename_i hcond;simp only [Al,decide_eq_true_eq] at hcond;obtain ⟨y,hy,rfl⟩:=Aa.1 hc;exact qaj h hdst (hd _ hdst) (isMax:=true) hop rfl hcond.1 hy hr
  ·cases hc
 ·rename_i hop hdst;split at hc
  ·rename_i hcond;simp only [Al,decide_eq_true_eq] at hcond;obtain ⟨y,hy,rfl⟩:=Aa.1 hc;exact qaj h hdst (hd _ hdst) (isMax:=false) hop rfl hcond.1 hy hr
  ·cases hc
 ·rename_i hop;split at hc
  ·cases hc
  ·rename_i hsz;obtain ⟨y,hy,rfl⟩:=Aa.1 hc;split at hr
   ·exact qeo h hb rfl hd hop rfl (Ah hsz) hy (hS _) (λc xs=>vum hq _ c xs) hr
   ·exact vxj h hb rfl hd hop rfl (Ah hsz) hy (hS _) (λc xs=>vum hq _ c xs) hr
 ·rename_i hop;split at hc
  ·cases hc
  ·rename_i hsz;obtain ⟨y,hy,rfl⟩:=Aa.1 hc;have hn:=Nat.lt_of_not_le λh=>hsz (.inr h);have hsz':=Ah λh=>hsz (.inl h);exact qel h hb rfl hd hop hn rfl hsz' hy hS (λf c xs=>vum hq f c xs) hr
 ·rename_i hop;split at hc
  ·cases hc
  ·rename_i hsz;have hn:=Nat.lt_of_not_le λh=>hsz (.inr h);have hsz':=Ah λh=>hsz (.inl h);split at hc
   ·rename_i hm hx;cases hc;exact qeu h hb rfl hd hop hn rfl hsz' hm hx hS (λf c xs=>vum hq f c xs) hr
   ·cases hc
 ·rename_i hop hdst;split at hc
  ·rename_i ha ht;have ha':=Ag.1 (ha.trans (Ad).symm);have ht':=Ag.1 (ht.trans (Ad).symm);split at hc
   ·rename_i h0;split at hc
    ·rename_i h1 h2 h3;cases hc;exact qi3 h hdst hop rfl ha' ht' h0 h1 h2 h3 hr
    ·cases hc
   ·cases hc
  ·cases hc
 ·cases hc
theorem qho {Φ:Nat->Option Callee} (hS:∀f c,Φ f=some c->Sound cx.P f c) (h:G cx U (λ_ _=>False) ρ F st a w) (hq:Qok st) {b:Nat} (hb:∀i,b<=i->i<b+100->¬U i) {ops:Array Oper} {o:Oper} {v:VOp} (hc:cOp cx.P ops o=some v)
  (hd:∀d,o.dst=some d->d<cx.n) {s1:St} (hr:(exec Φ b v).run st=some ((),s1)):Now cx U b o s1 a w:=by
 unfold cOp at hc;cases h1:cOp1 cx.P ops o with
 |none=>
  rw [h1] at hc;cases hc;exact (vac hr).elim
 |some x=>
  rw [h1] at hc;cases hc;exact qp6 hS h hq hb h1 hd hr
