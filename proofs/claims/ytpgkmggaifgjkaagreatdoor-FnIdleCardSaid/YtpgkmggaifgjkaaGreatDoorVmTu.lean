/- The interpreter 'VM'. -/
import Derived.Test.YtpgkmggaifgjkaaGreatDoorVmQs
open Option renaming map_eq_some_iff->Aa,isSome_iff_exists->Am
open Option.some renaming injEq->Ab
open List renaming mem_of_getElem?->Ac,toList_toArray->Ad,mem_or_eq_of_mem_set->Af,mem_of_mem_drop->Ai,mem_replicate->Aj,mem_map->Ak,mem_of_mem_take->An,mem_append->Ao
open Bool renaming or_eq_false_iff->Ae,and_eq_true->Al,not_false->Ap
open Array renaming toList_inj->Ag
open Decidable renaming of_not_not->Ah
set_option linter.all false
namespace Go.Proofs.YtpgkmggaifgjkaaGreatDoor.VM
open Go
theorem vb2:∀{l:List PV},vcq l↔∀x∈l,nofz x
 | []=>by simp [vcq]
 |c::cs=>by simp [vcq,vb2 (l:=cs)]
theorem voa {x:PV} (h:nofz x):∀c∈x.cells,nofz c:=by
 cases x with
 |st cs=>exact λc hc=>vb2.1 (show vcq cs by simpa [nofz] using h) c hc
 |_=>intro c hc;simp [PV.cells] at hc;subst hc;exact h
theorem vrc {l:List PV} (h:∀c∈l,nofz c):nofz (.st l):=by simp only [nofz];exact vb2.2 h
theorem vlf {x:PV} {o:Nat} {ys:List PV} (h:nofz x) (hy:∀c∈ys,nofz c):nofz (vbu x o ys):=by
 unfold vbu;split
 ·rename_i cs;apply vrc;intro c hc;simp only [Ao] at hc;have hcs:=voa h;rcases hc with (hc|hc)|hc
  ·exact hcs c (An hc)
  ·exact hy c hc
  ·exact hcs c (Ai hc)
 ·split
  ·exact hy _ (by simp)
  ·exact h
theorem qaa (x:PV):nofz x.cpy:=by
 cases x with
 |st cs=>
  apply vrc;intro c hc;obtain ⟨y,_,rfl⟩:=Ak.1 hc;split<;>simp [nofz]
 |_=>simp [PV.cpy,nofz]
theorem qea (z:ZC):nofz z.pv:=by cases z<;>simp [ZC.pv,nofz,vcq]
theorem vu5 (m:Nat) (zs:List ZC):nofz (zeroEl m zs):=by
 unfold zeroEl;split
 ·cases zs with
  |nil=>simp [nofz]
  |cons z zs=>exact qea z
 ·apply vrc;intro c hc;obtain ⟨z,_,rfl⟩:=Ak.1 hc;exact qea z
def Qm {α:Type} (m:M α) (R:α->Prop):Prop:=∀st r st',m.run st=some (r,st')->Qok st->Qok st'/\R r
theorem Qm.bind {α β:Type} {m:M α} {k:α->M β} {R:α->Prop} {S:β->Prop} (h:Qm m R) (hk:∀x,R x->Qm (k x) S):Qm (m.bind k) S:=by
 intro st r st' hr hq;obtain ⟨x,s1,h1,h2⟩:=vaa hr;obtain ⟨q1,r1⟩:=h st x s1 h1 hq;exact hk x r1 s1 r st' h2 q1
theorem Qm.pure {α:Type} {x:α} {R:α->Prop} (h:R x):Qm (M.pure x) R:=by
 intro st r st' hr hq;cases run_pure hr;exact ⟨hq,h⟩
theorem Qm.fail {α:Type} {R:α->Prop}:Qm (M.fail:M α) R:=λ_ _ _ hr=>(vac hr).elim
theorem Qm.getS (t:Nat):Qm (getS t) λ_=>True:=by
 intro st r st' hr hq;cases vjr hr;exact ⟨hq,trivial⟩
theorem Qm.setS (t:Nat) (v:TV):Qm (setS t v) λ_=>True:=by
 intro st r st' hr hq;cases vbd hr;exact ⟨λid ver e es hn=>hq id ver e es hn,trivial⟩
theorem Qm.getN (id:Nat):Qm (getN id) λn=>∀ver e es,n=some (.sl false ver e es)->vcq es:=by
 intro st r st' hr hq;cases vbp hr;exact ⟨hq,λver e es hn=>hq id ver e es hn⟩
theorem Qm.setN (id:Nat) (n:Option Node) (h:∀ver e es,n=some (.sl false ver e es)->vcq es):Qm (setN id n) λ_=>True:=by
 intro st r st' hr hq;cases vby hr;refine ⟨λj ver e es hn=> ?_,trivial⟩;rw [vgi] at hn;split at hn
 ·exact h ver e es hn
 ·exact hq j ver e es hn
theorem Qm.liftO {α:Type} (x:Option α):Qm (liftO x) λr=>x=some r:=by
 intro st r st' hr hq;obtain ⟨h1,h2⟩:=vdi hr;simp only at h1 h2;subst h2;exact ⟨hq,h1⟩
theorem Qm.weak {α:Type} {m:M α} {R S:α->Prop} (h:Qm m R) (hs:∀x,R x->S x):Qm m S:=λst r st' hr hq=>let ⟨h1,h2⟩:=h st r st' hr hq;⟨h1,hs r h2⟩
abbrev Qt {α:Type} (m:M α):Prop:=Qm m λ_=>True
theorem Qt.of {α:Type} {m:M α} {R:α->Prop} (h:Qm m R):Qt m:=h.weak λ_ _=>trivial
theorem Qt.bind {α β:Type} {m:M α} {k:α->M β} {S:β->Prop} (h:Qt m) (hk:∀x,Qm (k x) S):Qm (m.bind k) S:=Qm.bind h λx _=>hk x
theorem vda (x:Opd):Qt (opd x):=by
 cases x<;>first|exact Qm.getS _|exact Qm.pure trivial
theorem vj6:∀(xs:List Opd),Qt (opds xs)
 | []=>Qm.pure trivial
 |x::xs=>(vda x).bind λ_=>(vj6 xs).bind λ_=>Qm.pure trivial
theorem vjd (x:Option Opd):Qt (bound x):=by
 cases x with
 |none=>exact Qm.pure trivial
 |some y=>
  refine (vda y).bind λu=> ?_;split
  ·exact Qm.pure trivial
  ·exact Qm.fail
theorem vv1 (w:Option Nat) (v:TV):Qt (loadAt w v):=by unfold loadAt;(repeat' (first|exact Qm.pure trivial|exact Qm.fail|exact Qm.setS _ _|exact Qm.getS _|exact Qt.of (Qm.getN _)|exact Qt.of (Qm.liftO _)|(refine Qt.bind (Qt.of (Qm.getN _)) λ_=> ?_)|(refine Qt.bind (Qt.of (Qm.liftO _)) λ_=> ?_)|(refine Qt.bind (Qm.getS _) λ_=> ?_)|(refine Qt.bind (vda _) λ_=> ?_)|(refine Qt.bind (vj6 _) λ_=> ?_)|(refine Qt.bind (vjd _) λ_=> ?_)|split))
theorem vqu (v:TV):Qt (elems v):=by unfold elems;(repeat' (first|exact Qm.pure trivial|exact Qm.fail|exact Qm.setS _ _|exact Qm.getS _|exact Qt.of (Qm.getN _)|exact Qt.of (Qm.liftO _)|(refine Qt.bind (Qt.of (Qm.getN _)) λ_=> ?_)|(refine Qt.bind (Qt.of (Qm.liftO _)) λ_=> ?_)|(refine Qt.bind (Qm.getS _) λ_=> ?_)|(refine Qt.bind (vda _) λ_=> ?_)|(refine Qt.bind (vj6 _) λ_=> ?_)|(refine Qt.bind (vjd _) λ_=> ?_)|split))
theorem qkg (e:Nat) (v:TV) (l h:Option Int):Qt (sliceAt e v l h):=by unfold sliceAt;(repeat' (first|exact Qm.pure trivial|exact Qm.fail|exact Qm.setS _ _|exact Qm.getS _|exact Qt.of (Qm.getN _)|exact Qt.of (Qm.liftO _)|(refine Qt.bind (Qt.of (Qm.getN _)) λ_=> ?_)|(refine Qt.bind (Qt.of (Qm.liftO _)) λ_=> ?_)|(refine Qt.bind (Qm.getS _) λ_=> ?_)|(refine Qt.bind (vda _) λ_=> ?_)|(refine Qt.bind (vj6 _) λ_=> ?_)|(refine Qt.bind (vjd _) λ_=> ?_)|split))
theorem qqq (v:TV) (l h:Option Int):Qt (strAt v l h):=by unfold strAt;(repeat' (first|exact Qm.pure trivial|exact Qm.fail|exact Qm.setS _ _|exact Qm.getS _|exact Qt.of (Qm.getN _)|exact Qt.of (Qm.liftO _)|(refine Qt.bind (Qt.of (Qm.getN _)) λ_=> ?_)|(refine Qt.bind (Qt.of (Qm.liftO _)) λ_=> ?_)|(refine Qt.bind (Qm.getS _) λ_=> ?_)|(refine Qt.bind (vda _) λ_=> ?_)|(refine Qt.bind (vj6 _) λ_=> ?_)|(refine Qt.bind (vjd _) λ_=> ?_)|split))
theorem qhs (o:Nat) (v:TV):Qt (fieldAt o v):=by unfold fieldAt;(repeat' (first|exact Qm.pure trivial|exact Qm.fail|exact Qm.setS _ _|exact Qm.getS _|exact Qt.of (Qm.getN _)|exact Qt.of (Qm.liftO _)|(refine Qt.bind (Qt.of (Qm.getN _)) λ_=> ?_)|(refine Qt.bind (Qt.of (Qm.liftO _)) λ_=> ?_)|(refine Qt.bind (Qm.getS _) λ_=> ?_)|(refine Qt.bind (vda _) λ_=> ?_)|(refine Qt.bind (vj6 _) λ_=> ?_)|(refine Qt.bind (vjd _) λ_=> ?_)|split))
theorem qkj (e m:Nat) (v:TV) (i:Int):Qt (indexAt e m v i):=by
 unfold indexAt;refine Qt.bind (vqu _) λ_=> ?_
 (repeat' (first|exact Qm.pure trivial|exact Qm.fail|exact Qm.setS _ _|exact Qm.getS _|exact Qt.of (Qm.getN _)|exact Qt.of (Qm.liftO _)|(refine Qt.bind (Qt.of (Qm.getN _)) λ_=> ?_)|(refine Qt.bind (Qt.of (Qm.liftO _)) λ_=> ?_)|(refine Qt.bind (Qm.getS _) λ_=> ?_)|(refine Qt.bind (vda _) λ_=> ?_)|(refine Qt.bind (vj6 _) λ_=> ?_)|(refine Qt.bind (vjd _) λ_=> ?_)|split))
theorem qgr (x:TV):Qm (toPV x) λr=>r.2=false->nofz r.1:=by
 unfold toPV;split
 ·split
  ·exact Qm.pure λ_=>by simp [nofz]
  ·exact Qm.fail
 ·exact Qm.pure λ_=>by simp [nofz,vcq]
 ·exact Qm.pure λh=>by cases h
 ·refine (Qm.getN _).bind λn hn=> ?_;split
  ·rename_i q ver e es;refine Qt.bind (Qm.setN _ _ λ_ _ _ h=>by cases h) λ_=>Qm.pure λhq=> ?_;simp only at hq;subst hq;simp only [nofz];exact hn _ _ _ rfl
  ·exact Qm.fail
 ·exact Qm.fail
theorem vx1:∀(xs:List TV),Qm (toPVs xs) λr=>r.2=false->∀c∈r.1,nofz c
 | []=>Qm.pure λ_=>by simp
 |x::xs=>by
  unfold toPVs;refine (qgr x).bind λy hy=>(vx1 xs).bind λys hys=>Qm.pure λhq=> ?_;simp only [Ae] at hq;intro c hc;cases hc with
  |head=>exact hy hq.1
  |tail _ hc=>exact hys hq.2 c hc
theorem vu2 {x:TV} {y:PV} (h:atomPV x=some y):nofz y:=by
 unfold atomPV at h;split at h
 ·split at h
  ·cases h;simp [nofz]
  ·cases h
 ·cases h
theorem vo4:∀{xs:List TV} {ys:List PV},vej xs=some ys->∀y∈ys,nofz y
 | [],ys,h=>by cases h;simp
 |x::xs,ys,h=>by
  simp only [vej] at h;split at h
  ·rename_i y ys' h1 h2;cases h;intro c hc;cases hc with
   |head=>exact vu2 h1
   |tail _ hc=>exact vo4 h2 c hc
  ·cases h
theorem qhp (flat:Bool) (x:TV):Qm (toEl flat x) λr=>r.2=false->nofz r.1:=by
 unfold toEl;split
 ·split
  ·refine (Qm.liftO _).bind λys hys=>Qm.pure λ_=>vrc (vo4 hys)
  ·exact (vx1 _).bind λys hys=>Qm.pure λhq=>vrc (hys hq)
 ·split
  ·exact (Qm.liftO _).bind λy hy=>Qm.pure λ_=>vu2 hy
  ·exact qgr _
theorem qj0 (flat:Bool) (m:Nat):∀(ps:List (Nat×Opd)) (q:Bool) (es:List PV),(q=false->vcq es)->Qm (bslM flat m ps q es) λr=>r.2=false->vcq r.1
 | [],q,es,h=>Qm.pure h
 |(i,x)::ps,q,es,h=>by
  unfold bslM;refine (vda x).bind λv=>(qhp flat v).bind λy hy=> ?_;split
  ·refine qj0 flat m ps _ _ λhq=> ?_;simp only [Ae] at hq;refine vb2.2 λc hc=> ?_;rcases Af hc with hc|rfl
   ·exact vb2.1 (h hq.1) c hc
   ·exact hy hq.2
  ·exact Qm.fail
theorem qbc:∀(ps:List (Nat×Nat×Opd)) (cs:List TV),Qt (buildM ps cs)
 | [],cs=>Qm.pure trivial
 |(o,w,x)::ps,cs=>by
  unfold buildM;refine (vda x).bind λv=> ?_;split
  ·exact qbc ps _
  ·exact Qm.fail
theorem vty {es:List PV} {i:Nat} {x:PV} (h:vcq es) (hx:nofz x):vcq (es.set i x):=
 vb2.2 λy hy=>(Af hy).elim (vb2.1 h y) λe=>e▸hx
theorem vnk:∀(p:List (Nat×Nat×Nat)) {es:List PV} {r:Nat×List PV},vcq es->dget es p=some r->vcq r.2
 | [],es,r,h,hr=>by simp [dget] at hr
 |(i,m,o)::p,es,r,h,hr=>by
  simp only [dget] at hr;split at hr
  ·cases hr
  ·rename_i x hx;split at hr
   ·split at hr
    ·rename_i e es' hc;have h1:vcq es':=by
      have:=voa (vb2.1 h x (Ac hx)) _ (Ac hc);simpa only [nofz] using this
     split at hr
     ·cases hr;exact h1
     ·exact vnk _ h1 hr
    ·cases hr
   ·cases hr
theorem vlv {c:PV} (hc:nofz c):∀(p:List (Nat×Nat×Nat)) {es es1:List PV},vcq es->dput es p c=some es1->vcq es1
 | [],es,es1,h,hr=>by simp [dput] at hr
 |(i,m,o)::p,es,es1,h,hr=>by
  simp only [dput] at hr;split at hr
  ·cases hr
  ·rename_i x hx;have hxn:=vb2.1 h x (Ac hx);split at hr
   ·split at hr
    ·cases hr
    ·rename_i c0 hc0;split at hr
     ·cases hr;exact vty h (vlf hxn (by simpa using hc))
     ·split at hr
      ·rename_i e es';split at hr
       ·rename_i in' hin;cases hr;have h1:vcq es':=by
         have:=voa hxn _ (Ac hc0);simpa only [nofz] using this
        exact vty h (vlf hxn (by simpa only [List.mem_singleton,forall_eq,nofz] using vlv hc _ h1 hin))
       ·cases hr
      ·cases hr
   ·cases hr
theorem qii (b w:Nat) (x y:TV):Qt (storeAt b w x y):=by
 have box:∀id o,Qt (storeBox w id o y):=by
  intro id o;unfold storeBox;refine (Qm.getN _).bind λn hn=> ?_;split
  ·split
   ·exact Qm.setN _ _ λ_ _ _ h=>by cases h
   ·exact Qm.fail
  ·exact Qm.fail
 unfold storeAt;split
 ·exact box _ _
 ·exact box _ _
 ·refine (vx1 _).bind λys hys=>(Qm.getN _).bind λn hn=> ?_;split
  ·rename_i q ver e es;split
   ·rename_i x0 hx0;split
    ·refine Qm.setN _ _ λver' e' es' h=> ?_;simp only [Ab,Node.sl.injEq] at h;obtain ⟨hq,_,_,rfl⟩:=h;simp only [Ae] at hq;have hes:vcq es:=hn ver e es (by rw [hq.1]);refine vb2.2 λc hc=> ?_;rcases Af hc with hc|rfl
     ·exact vb2.1 hes c hc
     ·exact vlf (vb2.1 hes x0 (Ac hx0)) (hys hq.2)
    ·exact Qm.fail
   ·exact Qm.fail
  ·exact Qm.fail
 ·refine (Qm.getN _).bind λn hn=> ?_;split
  ·rename_i q ver e es;split
   ·unfold vm1;split
    ·rename_i e' es' ys hget hys;split
     ·rename_i x0 hx0;split
      ·split
       ·rename_i es1 hput;refine Qm.setN _ _ λver' e2 es2 h=> ?_;simp only [Ab,Node.sl.injEq] at h;obtain ⟨hq,_,_,rfl⟩:=h;have hes:vcq es:=hn ver e es (by rw [hq]);have he:=vnk _ hes hget;refine vlv (c:= .sl e' (es'.set _ _)) ?_ _ hes hput;simp only [nofz];exact vty he (vlf (vb2.1 he x0 (Ac hx0)) (vo4 hys))
       ·exact Qm.fail
      ·exact Qm.fail
     ·exact Qm.fail
    ·exact Qm.fail
   ·exact Qm.fail
  ·exact Qm.fail
 ·exact Qm.fail
theorem qql (b e:Nat) (x:TV):Qm (appTo b e x) λr=>r.2=false->vcq r.1:=by
 unfold appTo;split
 ·split
  ·exact Qm.pure λ_=>by simp [vcq]
  ·exact Qm.fail
 ·refine (Qm.getN _).bind λn hn=> ?_;split
  ·rename_i q ver e' es;split
   ·refine Qt.bind (Qm.setN _ _ λ_ _ _ h=>by cases h) λ_=>Qm.pure λhq=> ?_;simp only at hq;subst hq;exact hn _ _ _ rfl
   ·exact Qm.fail
  ·exact Qm.fail
 ·rename_i id lo k;refine (Qm.getN _).bind λn hn=> ?_;split
  ·rename_i q ver e' es;split
   ·split
    ·refine Qt.bind (Qm.setN _ _ λ_ _ _ h=>by cases h) λ_=>Qm.pure λhq=> ?_;simp only at hq;subst hq;exact vb2.2 λc hc=>vb2.1 (hn _ _ _ rfl) c (Ai hc)
    ·exact Qm.fail
   ·exact Qm.fail
  ·exact Qm.fail
 ·refine (Qm.getN _).bind λn hn=> ?_;split
  ·rename_i q ver e' es;split
   ·unfold takeIn;split
    ·rename_i r es1 hg hp;split
     ·refine Qt.bind (Qm.setN _ _ λ_ _ _ h=> ?_) λ_=>Qm.pure λhq=> ?_
      ·simp only [Ab,Node.sl.injEq] at h;obtain ⟨hq,_,_,rfl⟩:=h;exact vlv (by simp only [nofz]) _ (hn ver e' es (by rw [hq])) hp
      ·simp only at hq;subst hq;exact vnk _ (hn _ _ _ rfl) hg
     ·exact Qm.fail
    ·exact Qm.fail
   ·exact Qm.fail
  ·exact Qm.fail
 ·exact Qm.fail
theorem vyf (es:List PV):vcq (es.map PV.cpy):=vb2.2 λc hc=>by
 obtain ⟨x,_,rfl⟩:=Ak.1 hc;exact qaa x
theorem qrl (b:Nat) (x:TV):Qt (pull1 b x):=by
 unfold pull1;split
 ·refine (Qm.getN _).bind λn hn=> ?_;split
  ·rename_i q ver' e' es;split
   ·unfold pullK;split
    ·rename_i r hg;refine Qm.bind (R:=λz=>z.2=false->vcq z.1) ?_ λz hz=>Qt.bind (Qm.setN _ _ λver e es h=> ?_) λ_=>Qm.pure trivial
     ·unfold takeIn;split
      ·rename_i r1 es1 hg2 hp;cases hg2;split
       ·refine Qt.bind (Qm.setN _ _ λ_ _ _ h=> ?_) λ_=>Qm.pure λhq=> ?_
        ·simp only [Ab,Node.sl.injEq] at h;obtain ⟨hq,_,_,rfl⟩:=h;exact vlv (by simp only [nofz]) _ (hn ver' e' es (by rw [hq])) hp
        ·simp only at hq;subst hq;exact vnk _ (hn _ _ _ rfl) hg
       ·exact Qm.fail
      ·exact Qm.fail
     ·simp only [Ab,Node.sl.injEq] at h;obtain ⟨hq,_,_,rfl⟩:=h;exact hz hq
    ·exact Qm.fail
   ·exact Qm.fail
  ·exact Qm.fail
 ·exact Qm.pure trivial
theorem qeh (b:Nat):∀(xs:List TV),Qt (pullL b xs)
 | []=>Qm.pure trivial
 |x::xs=>by
  unfold pullL;split
  ·exact Qt.bind (qrl _ _) λ_=>Qm.pure trivial
  ·exact Qt.bind (qeh b xs) λ_=>Qm.pure trivial
theorem vz8 (b:Nat) (u v:TV):Qt (pullTo b u v):=by
 unfold pullTo;split
 ·exact Qt.bind (qeh _ _) λ_=>Qm.pure trivial
 ·exact Qm.pure trivial
theorem que (b:Nat) (flat:Bool) (m:Nat) (ps:List (Nat×Opd)) (es:List PV) (h:vcq es):Qm (bslQ b flat m ps es) λr=>r.2=false->vcq r.1:=by
 unfold bslQ;split
 ·refine Qt.bind (vda _) λv=>Qt.bind (vz8 _ _ _) λv=>(qhp _ v).bind λy hy=> ?_;split
  ·refine Qm.pure λhq=>vb2.2 λc hc=> ?_;rcases Af hc with hc|rfl
   ·exact vb2.1 h c hc
   ·exact hy hq
  ·exact Qm.fail
 ·exact qj0 _ _ _ _ _ λ_=>h
theorem qrk (e:Nat) (mv:Bool) (y:TV):Qm (appOf e mv y) λr=>r.2=false->vcq r.1:=by
 unfold appOf;split
 ·refine (Qm.getN _).bind λn hn=> ?_;split
  ·rename_i q ver e' es;split
   ·split
    ·refine Qt.bind (Qm.setN _ _ λ_ _ _ h=>by cases h) λ_=>Qm.pure λhq=> ?_;simp only at hq;subst hq;exact hn _ _ _ rfl
    ·exact Qm.pure λ_=>vyf _
   ·exact Qm.fail
  ·exact Qm.fail
 ·refine Qt.bind (vqu _) λr=> ?_;split
  ·unfold cpyOf;split
   ·exact Qm.pure λh=>by cases h
   ·exact Qm.pure λ_=>vyf _
  ·exact Qm.fail
theorem qjt (b e bytes:Nat) (mv:Bool) (x y:TV):Qt (appendM b e bytes mv x y):=by
 unfold appendM;refine (qql b e x).bind λxs hxs=>(qrk e mv y).bind λys hys=> ?_;split
 ·refine Qt.bind (Qm.setN _ _ λver' e' es' h=> ?_) λ_=>Qm.pure trivial;simp only [Ab,Node.sl.injEq] at h;obtain ⟨hq,_,_,rfl⟩:=h;simp only [Ae] at hq;refine vb2.2 λc hc=> ?_;rcases Ao.1 hc with hc|hc
  ·exact vb2.1 (hxs hq.1) c hc
  ·exact vb2.1 (hys hq.2) c hc
 ·exact Qm.fail
theorem vua:∀{es:List PV},vcq es↔∀x∈es,nofz x
 | []=>by simp [vcq]
 |e::es=>by simp [vcq,vua (es:=es)]
theorem vy8 {es fs:List PV} (h:∀x∈fs,x∈es) (hn:vcq es):vcq fs:=vua.2 λx hx=>vua.1 hn x (h x hx)
mutual
theorem qpp:∀{x:PV},nfz x=true->nofz x
 | .a _,_=>by simp [nofz]
 | .sl _ es,h=>by simp only [nfz] at h;simp only [nofz];exact vpb h
 | .fz _ _,h=>by simp [nfz] at h
 | .st cs,h=>by simp only [nfz] at h;simp only [nofz];exact vpb h
 | .un,_=>by simp [nofz]
theorem vpb:∀{l:List PV},nfzL l=true->vcq l
 | [],_=>by simp [vcq]
 |c::cs,h=>by simp only [nfzL,Al] at h;simp only [vcq];exact ⟨qpp h.1,vpb h.2⟩
end
mutual
theorem qb7:∀(k:Nat) (x:TV),Qm (pack false k x) vbm
 |0,x=>by unfold pack;exact Qm.fail
 |k+1,x=>by
  unfold pack;split
  ·exact Qm.pure (by simp [vbm])
  ·exact Qm.pure (by simp [vbm,vcq])
  ·exact Qm.fail
  ·exact (vq3 k _).bind λys h=>Qm.pure (by simp only [vbm];exact h)
  ·exact (vq3 k _).bind λxs h=>(vq3 k _).bind λys h'=>Qm.pure (by simp only [vbm];exact ⟨h,h'⟩)
  ·exact (qb7 k _).bind λy h=>Qm.pure (by simp only [vbm];exact h)
  ·refine (Qm.getN _).bind λn hn=> ?_;split
   ·rename_i q ver e es;cases q with
    |true=>
     cases hf:nfzL es with
     |false=>simp only [badFz,hf,Ap,Bool.and_self,if_true];exact Qm.fail
     |true=>
      simp only [badFz,hf,Bool.not_true,Bool.and_false,Bool.false_eq_true,if_false];exact Qt.bind (Qm.setN _ _ λ_ _ _ h=>by cases h) λ_=>Qm.pure (by simp only [vbm];exact λ_=>vpb hf)
    |false=>exact Qt.bind (Qm.setN _ _ λ_ _ _ h=>by cases h) λ_=>Qm.pure (by simp only [vbm];exact λ_=>hn _ _ _ rfl)
   ·split
    ·exact Qm.fail
    ·exact Qt.bind (Qm.setN _ _ λ_ _ _ h=>by cases h) λ_=>(vq3 k _).bind λys h=>Qm.pure (by simp only [vbm];exact h)
   ·exact Qm.pure (by simp [vbm])
  ·exact Qm.pure (by simp [vbm])
  ·refine (Qm.getN _).bind λn hn=> ?_;split
   ·rename_i q ver e es;cases q with
    |true=>simp only [Bool.true_and,Ap,true_or,if_true];exact Qm.fail
    |false=>
     split
     ·exact Qm.fail
     ·exact Qt.bind (Qm.setN _ _ λ_ _ _ h=>by cases h) λ_=>Qm.pure (by simp only [vbm];exact λ_=>vy8 (λx hx=>Ai (An hx)) (hn _ _ _ rfl))
   ·exact Qm.fail
  ·exact Qm.fail
theorem vq3:∀(k:Nat) (xs:List TV),Qm (vck false k xs) va1
 |0,xs=>by unfold vck;exact Qm.fail
 |k+1,[]=>by unfold vck;exact Qm.pure (by simp [va1])
 |k+1,x::xs=>by
  unfold vck;exact (qb7 k x).bind λy h=>(vq3 k xs).bind λys h'=>Qm.pure (by simp only [va1];exact ⟨h,h'⟩)
end
mutual
theorem vxb (fz:Bool):∀(k:Nat) (x:TV),Qt (pack fz k x)
 |0,x=>by unfold pack;exact Qm.fail
 |k+1,x=>by
  unfold pack;split
  ·exact Qm.pure trivial
  ·exact Qm.pure trivial
  ·split
   ·exact Qm.pure trivial
   ·exact Qm.fail
  ·exact (voy fz k _).bind λys=>Qm.pure trivial
  ·exact (voy fz k _).bind λxs=>(voy fz k _).bind λys=>Qm.pure trivial
  ·exact (vxb fz k _).bind λy=>Qm.pure trivial
  ·refine (Qm.getN _).bind λn hn=> ?_;split
   ·split
    ·exact Qm.fail
    ·exact Qt.bind (Qm.setN _ _ λ_ _ _ h=>by cases h) λ_=>Qm.pure trivial
   ·split
    ·exact Qm.fail
    ·exact Qt.bind (Qm.setN _ _ λ_ _ _ h=>by cases h) λ_=>(voy fz k _).bind λys=>Qm.pure trivial
   ·exact Qm.pure trivial
  ·exact Qm.pure trivial
  ·refine (Qm.getN _).bind λn hn=> ?_;split
   ·split
    ·exact Qm.fail
    ·exact Qt.bind (Qm.setN _ _ λ_ _ _ h=>by cases h) λ_=>Qm.pure trivial
   ·exact Qm.fail
  ·exact Qm.fail
theorem voy (fz:Bool):∀(k:Nat) (xs:List TV),Qt (vck fz k xs)
 |0,xs=>by unfold vck;exact Qm.fail
 |k+1,[]=>by unfold vck;exact Qm.pure trivial
 |k+1,x::xs=>by
  unfold vck;exact (vxb fz k x).bind λy=>(voy fz k xs).bind λys=>Qm.pure trivial
end
mutual
theorem vru (z:Bool):∀(k n:Nat) (x:TV),Qm (vba z k n x) vbm
 |0,n,x=>by unfold vba;exact Qm.fail
 |k+1,n,x=>by
  unfold vba;split
  ·exact Qm.pure (by simp [vbm])
  ·exact Qm.pure (by simp [vbm])
  ·exact Qm.pure (by simp [vbm])
  ·exact (vlu z k _).bind λys h=>Qm.pure (by simp only [vbm];exact h)
  ·exact (vlu z k _).bind λxs h=>(vlu z k _).bind λys h'=>Qm.pure (by simp only [vbm];exact ⟨h,h'⟩)
  ·exact (vru z k _ _).bind λy h=>Qm.pure (by simp only [vbm];exact h)
  ·exact Qm.pure (by simp [vbm])
  ·refine (Qm.getN _).bind λn hn=> ?_;split
   ·split
    ·exact Qm.fail
    ·exact Qm.pure (by simp [vbm])
   ·split
    ·exact Qm.fail
    ·exact (vlu z k _).bind λys h=>Qm.pure (by simp only [vbm];exact h)
   ·exact Qm.fail
  ·split
   ·exact Qm.fail
   ·refine (Qm.getN _).bind λn hn=> ?_;split
    ·exact Qm.pure (by simp [vbm])
    ·exact Qm.fail
  ·split
   ·exact Qm.fail
   ·refine (Qm.getN _).bind λn hn=> ?_;split
    ·split
     ·split
      ·exact Qm.pure (by simp [vbm])
      ·exact Qm.fail
     ·exact Qm.fail
    ·exact Qm.fail
  ·split
   ·exact Qm.fail
   ·refine (Qm.getN _).bind λn hn=> ?_;split
    ·split
     ·exact (vlu z k _).bind λys h=>Qm.pure (by simp only [vbm];exact h)
     ·exact Qm.fail
    ·exact Qm.fail
  ·exact Qm.fail
theorem vlu (z:Bool):∀(k:Nat) (xs:List TV),Qm (vbo z k xs) va1
 |0,xs=>by unfold vbo;exact Qm.fail
 |k+1,[]=>by unfold vbo;exact Qm.pure (by simp [va1])
 |k+1,x::xs=>by
  unfold vbo;exact (vru z k 0 x).bind λy h=>(vlu z k xs).bind λys h'=>Qm.pure (by simp only [va1];exact ⟨h,h'⟩)
end
theorem qbm (keeps:Bool):∀(ms:List Md) (xs:List TV),Qm (lend keeps ms xs) λys=>keeps=false->va1 ys
 | [],[]=>by unfold lend;exact Qm.pure λ_=>by simp [va1]
 | .ro _::ms,_::xs=>by
  unfold lend;exact (qbm keeps ms xs).bind λys h=>Qm.pure λhk=>by simp only [va1,vbm,true_and];exact h hk
 | .mut _::ms,x::xs=>by
  unfold lend;have hp:Qm (lend0 keeps x) λy=>keeps=false->vbm y:=by
   unfold lend0;split
   ·exact Qm.pure λ_=>by simp only [vbm]
   cases keeps with
   |false=>exact (qb7 depth x).weak λy h _=>h
   |true=>exact (vxb true depth x).weak λy _ h=>by cases h
  exact hp.bind λy h1=>(qbm keeps ms xs).bind λys h=>Qm.pure λhk=>by simp only [va1];exact ⟨h1 hk,h hk⟩
 | [],_::_=>by unfold lend;exact Qm.fail
 | .ro _::_,[]=>by unfold lend;exact Qm.fail
 | .mut _::_,[]=>by unfold lend;exact Qm.fail
theorem qqf (keeps:Bool) (v:Nat) (x:TV) (y:CV) (hy:keeps=false->vbm y):Qm (lend1 keeps v x y) λy=>keeps=false->vbm y:=by
 unfold lend1;split
 ·refine (Qm.getN _).bind λn hn=> ?_;split
  ·rename_i q ver' e es;split
   ·exact Qm.fail
   ·rename_i hcond;split
    ·rename_i r es1 hg hp;refine Qm.bind (Qm.setN _ _ λver e0 es0 hh=> ?_) λ_ _=>Qm.pure λhk=> ?_
     ·simp only [Ab,Node.sl.injEq] at hh;obtain ⟨hq,_,_,rfl⟩:=hh;subst hq;exact vlv (by simp only [nofz]) _ (hn _ _ _ rfl) hp
     ·have hq:q=false:=by
       cases q with
       |false=>rfl
       |true=>exact absurd (.inl (by rw [hk];rfl)) hcond
      subst hq;simp only [vbm];exact λ_=>vnk _ (hn _ _ _ rfl) hg
    ·exact Qm.fail
  ·exact Qm.fail
 ·exact Qm.pure hy
theorem vxq (keeps:Bool) (v:Nat):∀(ms:List Md) (xs:List TV) (ys:List CV),(keeps=false->va1 ys)->Qm (vbs keeps v ms xs ys) λys=>keeps=false->va1 ys
 | [],[],[],h=>by unfold vbs;exact Qm.pure λ_=>by simp [va1]
 | .ro _::ms,_::xs,y::ys,h=>by
  unfold vbs;exact (vxq keeps v ms xs ys λhk=>by have:=h hk;simp only [va1] at this;exact this.2).bind λys' h'=>Qm.pure λhk=>by
   have:=h hk;simp only [va1] at this⊢;exact ⟨this.1,h' hk⟩
 | .mut _::ms,x::xs,y::ys,h=>by
  unfold vbs;exact (qqf keeps v x y λhk=>by have:=h hk;simp only [va1] at this;exact this.1).bind λy' hy'=>(vxq keeps v ms xs ys λhk=>by have:=h hk;simp only [va1] at this;exact this.2).bind λys' h'=>Qm.pure λhk=>by
   simp only [va1];exact ⟨hy' hk,h' hk⟩
 | [],[],_::_,_=>by unfold vbs;exact Qm.fail
 | [],_::_,_,_=>by unfold vbs;exact Qm.fail
 | .ro _::_,[],_,_=>by unfold vbs;exact Qm.fail
 | .ro _::_,_::_,[],_=>by unfold vbs;exact Qm.fail
 | .mut _::_,[],_,_=>by unfold vbs;exact Qm.fail
 | .mut _::_,_::_,[],_=>by unfold vbs;exact Qm.fail
theorem qei (keeps:Bool) (v:Nat) (ms:List Md) (xs:List TV):Qm (lendA keeps v ms xs) λys=>keeps=false->va1 ys:=
 (qbm keeps ms xs).bind λys h=>vxq keeps v ms xs ys h
theorem qvo (z:Bool) (n:Nat) (x:TV):Qm (frz1 z n x) vbm:=by
 unfold frz1;split
 ·exact (vru false depth 0 x).bind λy h=>by
   split
   ·exact Qm.pure h
   ·exact Qm.fail
 ·exact vru z depth n x
theorem vwv (keeps:Bool):∀(ms:List Md) (xs:List TV) (ys:List CV),(keeps=false->va1 ys)->Qm (show_ keeps ms xs ys) λcs=>keeps=false->va1 cs
 | [],[],[],_=>by unfold show_;exact Qm.pure λ_=>by simp [va1]
 | .ro n::ms,x::xs,y::ys,h=>by
  unfold show_;exact (qvo keeps n x).bind λy' h1=>(vwv keeps ms xs ys λhk=>by have:=h hk;simp only [va1] at this;exact this.2).bind λys' h2=>Qm.pure λhk=>by simp only [va1];exact ⟨h1,h2 hk⟩
 | .mut _::ms,_::xs,y::ys,h=>by
  unfold show_;exact (vwv keeps ms xs ys λhk=>by have:=h hk;simp only [va1] at this;exact this.2).bind λys' h2=>Qm.pure λhk=>by
   have:=h hk;simp only [va1] at this⊢;exact ⟨this.1,h2 hk⟩
 | [],[],_::_,_=>by unfold show_;exact Qm.fail
 | [],_::_,_,_=>by unfold show_;exact Qm.fail
 | .ro _::_,[],_,_=>by unfold show_;exact Qm.fail
 | .ro _::_,_::_,[],_=>by unfold show_;exact Qm.fail
 | .mut _::_,[],_,_=>by unfold show_;exact Qm.fail
 | .mut _::_,_::_,[],_=>by unfold show_;exact Qm.fail
mutual
theorem qay (q:Bool):∀(c:CV) (b:Nat),(q=false->vbm c)->Qt (vay q b c)
 | .a _,b,_=>by unfold vay;exact Qm.pure trivial
 | .sl z e es,b,h=>by
  unfold vay;split
  ·exact Qm.pure trivial
  ·rename_i hz;refine Qt.bind (Qm.setN _ _ λver' e' es' hh=> ?_) λ_=>Qm.pure trivial;simp only [Ab,Node.sl.injEq] at hh;obtain ⟨hq,_,_,rfl⟩:=hh;have:=h hq;simp only [vbm] at this;exact this (by simpa using hz)
 | .bx z cs,b,h=>by
  unfold vay;exact (vgm q cs _ λhq=>by have:=h hq;simp only [vbm] at this;exact this).bind λr=>Qt.bind (Qm.setN _ _ λ_ _ _ h=>by cases h) λ_=>Qm.pure trivial
 | .st cs,b,h=>by
  unfold vay;exact (vgm q cs _ λhq=>by have:=h hq;simp only [vbm] at this;exact this).bind λr=>Qm.pure trivial
 | .tp cs,b,h=>by
  unfold vay;exact (vgm q cs _ λhq=>by have:=h hq;simp only [vbm] at this;exact this).bind λr=>Qm.pure trivial
 | .fn f fs cs,b,h=>by
  unfold vay;exact (vgm q fs _ λhq=>by have:=h hq;simp only [vbm] at this;exact this.1).bind λr=>(vgm q cs _ λhq=>by have:=h hq;simp only [vbm] at this;exact this.2).bind λr=>Qm.pure trivial
 | .ic t c,b,h=>by
  unfold vay;exact (qay q c _ λhq=>by have:=h hq;simp only [vbm] at this;exact this).bind λr=>Qm.pure trivial
 | .un,b,_=>by unfold vay;exact Qm.pure trivial
theorem vgm (q:Bool):∀(cs:List CV) (b:Nat),(q=false->va1 cs)->Qt (vbg q b cs)
 | [],b,_=>by unfold vbg;exact Qm.pure trivial
 |c::cs,b,h=>by
  unfold vbg;exact (qay q c _ λhq=>by have:=h hq;simp only [va1] at this;exact this.1).bind λr=>(vgm q cs _ λhq=>by have:=h hq;simp only [va1] at this;exact this.2).bind λr=>Qm.pure trivial
end
mutual
theorem vtn (q:Bool) (V:Nat):∀(x:TV) (c0 y:CV) (b:Nat),(q=false->vbm y)->Qt (vaf q V b x c0 y)
 | .rf id,c0,y,b,h=>by
  cases c0 with
  |sl z0 e0 es0=>
   cases y with
   |sl z e es=>
    cases z0<;>cases z<;>simp only [vaf]
    ·refine (Qm.getN _).bind λn _=> ?_;split
     ·refine Qt.bind (Qm.setN _ _ λver' e' es' hh=> ?_) λ_=>Qm.pure trivial;simp only [Ab,Node.sl.injEq] at hh;obtain ⟨hq,_,_,rfl⟩:=hh;have:=h hq;simp only [vbm] at this;exact this trivial
     ·exact Qm.fail
    all_goals exact Qm.pure trivial
   |_=>simp only [vaf];exact Qm.pure trivial
  |bx z0 cs0=>
   cases y with
   |bx z cs=>
    cases z0<;>cases z<;>simp only [vaf]
    ·refine (Qm.getN _).bind λn _=> ?_;split
     ·exact (vgm q cs _ λhq=>by have:=h hq;simp only [vbm] at this;exact this).bind λr=>Qt.bind (Qm.setN _ _ λ_ _ _ h=>by cases h) λ_=>Qm.pure trivial
     ·exact Qm.fail
    all_goals exact Qm.pure trivial
   |_=>simp only [vaf];exact Qm.pure trivial
  |_=>simp only [vaf];exact Qm.pure trivial
 | .fn f fs cs,c0,y,b,h=>by
  cases c0 with
  |fn f0 fs0 cs0=>
   cases y with
   |fn f1 fs1 cs1=>
    simp only [vaf];exact (voc q V fs fs0 fs1 b λhq=>by have:=h hq;simp only [vbm] at this;exact this.1).bind λb1=>voc q V cs cs0 cs1 b1 λhq=>by have:=h hq;simp only [vbm] at this;exact this.2
   |_=>simp only [vaf];exact Qm.pure trivial
  |_=>simp only [vaf];exact Qm.pure trivial
 | .st cs,c0,y,b,h=>by
  cases c0 with
  |st cs0=>
   cases y with
   |st cs1=>
    simp only [vaf];exact voc q V cs cs0 cs1 b λhq=>by have:=h hq;simp only [vbm] at this;exact this
   |_=>simp only [vaf];exact Qm.pure trivial
  |_=>simp only [vaf];exact Qm.pure trivial
 | .ic t x,c0,y,b,h=>by
  cases c0 with
  |ic t0 x0=>
   cases y with
   |ic t1 x1=>
    simp only [vaf];exact vtn q V x x0 x1 b λhq=>by have:=h hq;simp only [vbm] at this;exact this
   |_=>simp only [vaf];exact Qm.pure trivial
  |_=>simp only [vaf];exact Qm.pure trivial
 | .a _,c0,y,b,h=>by simp only [vaf];exact Qm.pure trivial
 | .nl _,c0,y,b,h=>by simp only [vaf];exact Qm.pure trivial
 | .ri _ _ _,c0,y,b,h=>by simp only [vaf];exact Qm.pure trivial
 | .sb _ _ _,c0,y,b,h=>by simp only [vaf];exact Qm.pure trivial
 | .ad _ _,c0,y,b,h=>by simp only [vaf];exact Qm.pure trivial
 | .ea _ _ _ _,c0,y,b,h=>by simp only [vaf];exact Qm.pure trivial
 | .ei _ _ _ _ _ _,c0,y,b,h=>by simp only [vaf];exact Qm.pure trivial
 | .sz _ _,c0,y,b,h=>by simp only [vaf];exact Qm.pure trivial
 | .ez _ _,c0,y,b,h=>by simp only [vaf];exact Qm.pure trivial
 | .tp _,c0,y,b,h=>by simp only [vaf];exact Qm.pure trivial
 | .un,c0,y,b,h=>by simp only [vaf];exact Qm.pure trivial
theorem voc (q:Bool) (V:Nat):∀(xs:List TV) (cs0 ys:List CV) (b:Nat),(q=false->va1 ys)->Qt (vbh q V b xs cs0 ys)
 | [],cs0,ys,b,h=>by simp only [vbh];exact Qm.pure trivial
 |x::xs,[],ys,b,h=>by simp only [vbh];exact Qm.pure trivial
 |x::xs,c0::cs0,[],b,h=>by simp only [vbh];exact Qm.pure trivial
 |x::xs,c0::cs0,y::ys,b,h=>by
  simp only [vbh];exact (vtn q V x c0 y b λhq=>by have:=h hq;simp only [va1] at this;exact this.1).bind λb1=>voc q V xs cs0 ys b1 λhq=>by have:=h hq;simp only [va1] at this;exact this.2
end
theorem qqb (q:Bool) (V:Nat) (x:TV) (c0 y:CV) (b:Nat) (h:q=false->vbm y):Qt (back1 q V b x c0 y):=by
 unfold back1;split
 ·split
  ·refine (Qm.getN _).bind λn hn=> ?_;split
   ·split
    ·rename_i q0 ver e es _ _ es1 hat hput;refine Qt.bind (Qm.setN _ _ λver' e0 es0 hh=> ?_) λ_=>Qm.pure trivial;simp only [Ab,Node.sl.injEq,Ae] at hh;obtain ⟨⟨hq0,hq⟩,_,_,rfl⟩:=hh;subst hq0;have:=h hq;simp only [vbm] at this;exact vlv (by simp only [nofz];exact this trivial) _ (hn _ _ _ rfl) hput
    ·exact Qm.fail
   ·exact Qm.fail
  ·exact Qm.fail
 ·exact vtn q V x c0 y b h
theorem vr2 (q:Bool) (V:Nat):∀(ms:List Md) (xs:List TV) (cs fs:List CV) (b:Nat),(q=false->va1 fs)->Qt (van q V b ms xs cs fs)
 | [],[],[],[],b,h=>by simp only [van];exact Qm.pure trivial
 | .ro _::ms,x::xs,c::cs,fs,b,h=>by simp only [van];exact vr2 q V ms xs cs fs b h
 | .mut _::ms,x::xs,c::cs,f::fs,b,h=>by
  simp only [van];exact (qqb q V x c f b λhq=>by have:=h hq;simp only [va1] at this;exact this.1).bind λb1=>vr2 q V ms xs cs fs b1 λhq=>by have:=h hq;simp only [va1] at this;exact this.2
 | [],_::_,_,_,b,h=>by simp only [van];exact Qm.fail
 | [],[],_::_,_,b,h=>by simp only [van];exact Qm.fail
 | [],[],[],_::_,b,h=>by simp only [van];exact Qm.fail
 | .ro _::_,[],_,_,b,h=>by simp only [van];exact Qm.fail
 | .ro _::_,_::_,[],_,b,h=>by simp only [van];exact Qm.fail
 | .mut _::_,[],_,_,b,h=>by simp only [van];exact Qm.fail
 | .mut _::_,_::_,[],_,b,h=>by simp only [van];exact Qm.fail
 | .mut _::_,_::_,_::_,[],b,h=>by simp only [van];exact Qm.fail
theorem vtc:∀{cs ds:List CV},va1 (cs++ds)↔va1 cs/\va1 ds
 | [],ds=>by simp [va1]
 |c::cs,ds=>by simp [va1,vtc (cs:=cs),and_assoc]
def Nofz (g:Option Callee):Prop:=∀c,g=some c->c.keeps=false->∀cs rs fs,va1 cs->c.go cs=some (rs,fs)->va1 (rs++fs)
theorem vui {g:Option Callee} (hg:Nofz g) (b:Nat) (xs:List TV):Qt (callM g b xs):=by
 cases g with
 |none=>exact Qm.fail
 |some c=>
  simp only [callM];refine (qei c.keeps (b+100) c.modes xs).bind λps hps=>(vwv c.keeps c.modes xs ps hps).bind λcs hcs=> ?_;cases hgo:c.go cs with
  |none=>exact Qm.fail
  |some rf=>
   obtain ⟨rs,fs⟩:=rf;have hall:c.keeps=false->va1 rs/\va1 fs:=λhk=>vtc.1 (hg c rfl hk cs rs fs (hcs hk) hgo);refine (vr2 c.keeps (b+100) c.modes xs cs fs b λhk=>(hall hk).2).bind λb'=> ?_;split
   ·split
    ·exact Qt.bind (Qt.of (Qm.liftO _)) λts=>Qm.pure trivial
    ·exact Qm.fail
   unfold vd7;refine (vgm c.keeps rs b' λhk=>(hall hk).1).bind λr=> ?_;split
   ·exact Qm.pure trivial
   ·exact Qm.fail
theorem vre (d:Option Nat) (v:TV):Qt (putO d v):=by
 cases d with
 |none=>exact Qm.pure trivial
 |some d=>exact Qm.setS _ _
theorem qpf (c:Option Callee) (vs:List TV) (tv:TV):Qt (alsIn c vs tv):=by
 unfold alsIn;split
 ·split
  ·refine (Qm.getN _).bind λn hn=> ?_;split
   ·exact Qm.setN _ _ λ_ _ _ h=>by cases h
   ·exact Qm.fail
  ·exact Qm.fail
 ·exact Qm.fail
theorem qa8 (q:Bool) (ts:List TV):Qt (alsOut q ts):=by
 unfold alsOut;split
 ·split
  ·refine (Qm.getN _).bind λn hn=> ?_;split
   ·refine (Qm.getS _).bind λx _=> ?_;split
    ·split
     ·exact Qm.setN _ _ λ_ _ _ h=>by cases h
     ·exact Qm.fail
    ·exact Qm.fail
   ·exact Qm.fail
  ·exact Qm.fail
 ·exact Qm.pure trivial
theorem qmo (c:Option Callee) (vs:List TV) (tv:TV):Qt (alsIn2 c vs tv):=by
 unfold alsIn2;split
 ·exact qpf _ _ _
 ·exact Qm.pure trivial
theorem qkf {Φ:Nat->Option Callee} (hΦ:∀f,Nofz (Φ f)) (b:Nat) (op:VOp):Qt (exec Φ b op):=by
 cases op with
 |alloc d zs=>
  simp only [exec];split
  ·exact Qm.fail
  ·exact Qt.bind (Qm.setN _ _ λ_ _ _ h=>by cases h) λ_=>Qm.setS _ _
 |box d x=>
  simp only [exec];refine Qt.bind (vda _) λv=>Qt.bind (Qt.of (Qm.liftO _)) λcs=> ?_;split
  ·exact Qm.fail
  ·exact Qt.bind (Qm.setN _ _ λ_ _ _ h=>by cases h) λ_=>Qm.setS _ _
 |build d zs ps=>simp only [exec];exact (qbc _ _).bind λcs=>Qm.setS _ _
 |bsl d e m zs n ps=>
  simp only [exec];refine (que _ _ _ _ _ (vb2.2 λc hc=>by rw [(Aj.1 hc).2];exact vu5 _ _)).bind λes hes=> ?_;refine Qt.bind (Qm.setN _ _ λver' e' es' hh=> ?_) λ_=>Qm.setS _ _;simp only [Ab,Node.sl.injEq] at hh;obtain ⟨hq,_,_,rfl⟩:=hh;exact hes hq
 |load d w x=>simp only [exec];exact Qt.bind (vda _) λv=>(vv1 _ _).bind λ_=>Qm.setS _ _
 |lda d x=>
  simp only [exec];refine Qt.bind (vda _) λv=>Qt.bind (vv1 _ _) λu=> ?_;unfold atomS;split
  ·exact Qm.setS _ _
  ·exact Qm.fail
 |store w x y=>simp only [exec];exact Qt.bind (vda _) λu=>Qt.bind (vda _) λv=>Qt.bind (vz8 _ _ _) λv=>qii _ _ _ _
 |slc0 d e x=>
  simp only [exec];refine Qt.bind (vda _) λu=>Qt.bind (vqu _) λr=> ?_;split
  ·exact Qt.bind (Qm.setN _ _ λver' e' es' hh=>by simp only [Ab,Node.sl.injEq] at hh;obtain ⟨_,_,_,rfl⟩:=hh;exact vb2.2 (by simp)) λ_=>Qm.setS _ _
  ·exact Qm.fail
 |s2b d e x=>
  simp only [exec];refine Qt.bind (vda _) λu=> ?_;split
  ·split
   ·refine Qt.bind (Qm.setN _ _ λver' e' es' hh=> ?_) λ_=>Qm.setS _ _;simp only [Ab,Node.sl.injEq] at hh;obtain ⟨_,_,_,rfl⟩:=hh;exact vb2.2 λc hc=>by obtain ⟨y,_,rfl⟩:=Ak.1 hc;simp only [nofz]
   ·exact Qm.fail
  ·exact Qm.fail
 |mks d e bytes zs x=>
  simp only [exec];refine Qt.bind (vda _) λu=> ?_;split
  ·split
   ·refine Qt.bind (Qm.setN _ _ λver' e' es' hh=> ?_) λ_=>Qm.setS _ _;simp only [Ab,Node.sl.injEq] at hh;obtain ⟨_,_,_,rfl⟩:=hh;exact vb2.2 λc hc=>by rw [(Aj.1 hc).2];exact vu5 _ _
   ·exact Qm.fail
  ·exact Qm.fail
 |slc d e x lo hi=>
  simp only [exec];exact Qt.bind (vda _) λv=>Qt.bind (vjd _) λl=>Qt.bind (vjd _) λh=>(qkg _ _ _ _).bind λ_=>Qm.setS _ _
 |sslc d x lo hi=>
  simp only [exec];exact Qt.bind (vda _) λv=>Qt.bind (vjd _) λl=>Qt.bind (vjd _) λh=>(qqq _ _ _).bind λ_=>Qm.setS _ _
 |fad d x off=>simp only [exec];exact Qt.bind (vda _) λv=>(qhs _ _).bind λ_=>Qm.setS _ _
 |iad d e m x i=>
  simp only [exec];refine Qt.bind (vda _) λv=>Qt.bind (vda _) λu=> ?_;split
  ·exact (qkj _ _ _ _).bind λ_=>Qm.setS _ _
  ·exact Qm.fail
 |len d x=>simp only [exec];exact Qt.bind (vda _) λv=>(vqu _).bind λ_=>Qm.setS _ _
 |app d e bytes mv x y=>simp only [exec];exact Qt.bind (vda _) λu=>Qt.bind (vda _) λv=>(qjt _ _ _ _ _ _).bind λ_=>Qm.setS _ _
 |call d f xs=>simp only [exec];exact Qt.bind (vj6 _) λvs=>(vui (hΦ f) _ _).bind λ_=>vre _ _
 |cala d f xs=>
  simp only [exec];exact Qt.bind (vj6 _) λvs=>(vui (hΦ f) _ _).bind λtv=>Qt.bind (qmo _ _ _) λ_=>vre _ _
 |calv d f xs=>
  simp only [exec];refine Qt.bind (vda _) λg=> ?_;split
  ·exact Qt.bind (vj6 _) λvs=>(vui (hΦ _) _ _).bind λ_=>vre _ _
  ·exact Qm.fail
 |cali d t f x xs=>
  simp only [exec];refine Qt.bind (vda _) λg=> ?_;split
  ·split
   ·exact Qt.bind (vj6 _) λvs=>(vui (hΦ _) _ _).bind λ_=>vre _ _
   ·exact Qm.fail
  ·exact Qm.fail
 |clr e z x=>
  simp only [exec];refine Qt.bind (vda _) λv=> ?_;unfold clrAt;split
  ·refine Qt.bind (Qt.of (Qm.getN _)) λn=> ?_;split
   ·split
    ·refine Qm.setN _ _ λver' e' es' hh=> ?_;simp only [Ab,Node.sl.injEq] at hh;obtain ⟨_,_,_,rfl⟩:=hh;exact vb2.2 λc hc=>by rw [(Aj.1 hc).2];simp only [nofz]
    ·exact Qm.fail
   ·exact Qm.fail
  ·exact Qm.fail
 |b2s d e x=>
  simp only [exec];refine Qt.bind (vda _) λv=>Qt.bind (vqu _) λr=> ?_;split
  ·exact Qt.bind (Qt.of (Qm.liftO _)) λ_=>Qm.setS _ _
  ·exact Qm.fail
 |pick d c x y=>
  simp only [exec];refine Qt.bind (vda _) λu=> ?_;split
  ·split
   ·exact Qt.bind (vda _) λ_=>Qm.setS _ _
   ·exact Qt.bind (vda _) λ_=>Qm.setS _ _
  ·exact Qm.fail
 |_=>simp only [exec];(repeat' (first|exact Qm.pure trivial|exact Qm.fail|exact Qm.setS _ _|exact Qm.getS _|exact Qt.of (Qm.getN _)|exact Qt.of (Qm.liftO _)|(refine Qt.bind (Qt.of (Qm.getN _)) λ_=> ?_)|(refine Qt.bind (Qt.of (Qm.liftO _)) λ_=> ?_)|(refine Qt.bind (Qm.getS _) λ_=> ?_)|(refine Qt.bind (vda _) λ_=> ?_)|(refine Qt.bind (vj6 _) λ_=> ?_)|(refine Qt.bind (vjd _) λ_=> ?_)|split))
theorem vul {Φ:Nat->Option Callee} (hΦ:∀f,Nofz (Φ f)) (b:Nat) (o:VOper):Qt (execG Φ b o):=by
 unfold execG;split
 ·exact qkf hΦ b _
 ·refine Qt.bind (Qm.getS _) λu=> ?_;split
  ·split
   ·exact qkf hΦ b _
   ·exact vre _ _
  ·exact vre _ _
  ·exact Qm.fail
theorem vxz {Φ:Nat->Option Callee} (hΦ:∀f,Nofz (Φ f)):∀(os:List VOper) (b:Nat) (st st':St),execs Φ b os st=some st'->Qok st->Qok st'
 | [],b,st,st',h,hq=>by cases h;exact hq
 |o::os,b,st,st',h,hq=>by
  simp only [execs] at h;split at h
  ·rename_i u s1 h1;exact vxz hΦ os _ _ _ h (vul hΦ b o st _ s1 h1 hq).1
  ·cases h
end Go.Proofs.YtpgkmggaifgjkaaGreatDoor.VM
namespace Go.Proofs.YtpgkmggaifgjkaaGreatDoor.VM
open Go
variable {cx:Cx} {U:Nat->Prop} {X:vaj} {ρ:Nat->Value} {F:Nat->vaj} {st:St} {sh:va3} {V:Nat} {a:Act} {w:World}
theorem vub {b:Nat} {Φ:Nat->Option Callee} (hq:Qok st):∀f c (xs:List TV),Φ f=some c->c.keeps=false->∀ps cs s1 s2,(lendA c.keeps (b+100) c.modes xs).run st=some (ps,s1)->(show_ c.keeps c.modes xs ps).run s1=some (cs,s2)->va1 cs:=by
 intro f c xs _ hk ps cs s1 s2 h1 h2;obtain ⟨q1,r1⟩:=qei c.keeps (b+100) c.modes xs st ps s1 h1 hq;exact (vwv c.keeps c.modes xs ps r1 s1 cs s2 h2 q1).2 hk
theorem qf1 {x y:Operand} (h:sameOpd x y=true):x=y:=by
 unfold sameOpd at h;split at h
 ·rw [beq_iff_eq] at h;subst h;rfl
 ·rw [beq_iff_eq] at h;subst h;rfl
 ·cases h
theorem qrq {Φ:Nat->Option Callee} (hS:∀f c,Φ f=some c->Sound cx.P f c) (h:G cx U (λ_ _=>False) ρ F st a w) (hq:Qok st) {b:Nat} (hb:∀i,b<=i->i<b+100->¬U i) {ops:Array Oper} {o:Oper} {v:VOp} (hc:cOp1 cx.P ops o=some v)
  (hd:∀d,o.dst=some d->d<cx.n) {s1:St} (hr:(exec Φ b v).run st=some ((),s1)):Now cx U b o s1 a w:=by
 unfold cOp1 at hc;split at hc
 ·rename_i hop hdst;obtain ⟨y,hy,rfl⟩:=Aa.1 hc;exact qa6 h hdst (hd _ hdst) (.inl hop) hy hr
 ·rename_i hop hdst;obtain ⟨y,hy,rfl⟩:=Aa.1 hc;exact qa6 h hdst (hd _ hdst) (.inr hop) hy hr
 ·rename_i hop hdst;split at hc
  ·rename_i h1 h2 h3;cases hc;exact qdk h hdst (hd _ hdst) hop h1 h2 h3 hr
  ·cases hc
 ·rename_i hop hdst;obtain ⟨y,hy,rfl⟩:=Aa.1 hc;exact qcg h hb hdst (hd _ hdst) hop hy hr
 ·rename_i hop hdst;split at hc
  ·obtain ⟨y,hy,rfl⟩:=Aa.1 hc;exact qi8 h hb hdst (hd _ hdst) hop hy hr
  ·cases hc
 ·rename_i hop hdst;split at hc
  ·rename_i h1 h2 h3;split at hc
   ·rename_i h4;cases hc;exact qah h hdst (hd _ hdst) hop h1 h2 h3 h4 hr
   ·cases hc
  ·cases hc
 ·rename_i hop hdst;split at hc
  ·rename_i h0;split at hc
   ·rename_i h1 h2 h3;split at hc
    ·rename_i h4;cases hc;exact qpm h hb hdst (hd _ hdst) hop h0 h1 h2 h3 h4 hr
    ·cases hc
   ·cases hc
  ·cases hc
 ·rename_i hop hdst;split at hc
  ·rename_i h1 h2;split at hc
   ·rename_i hl;cases hc;obtain ⟨_,rfl⟩:=hl;exact qhd h hdst (hd _ hdst) hop h1 h2 hr
   ·cases hc;exact qdl h hdst (hd _ hdst) hop h1 h2 hr
  ·cases hc
 ·rename_i hop hdst;split at hc
  ·rename_i h1 h2 h3 h4;cases hc;exact qaf h hb hdst hop h2 h3 h4 hr
  ·cases hc
 ·rename_i hop hdst;obtain ⟨y,hy,rfl⟩:=Aa.1 hc;exact qa2 h hdst (hd _ hdst) hop hy hr
 ·rename_i hop hdst;split at hc
  ·split at hc
   ·rename_i h1 h2;cases hc;exact qhi h hdst (hd _ hdst) hop h1 h2 hr
   ·cases hc
  ·split at hc
   ·rename_i hbt;split at hc
    ·rename_i h1 h2 h3;cases hc;exact qhy h hdst (hd _ hdst) hop h1 h2 hbt h3 hr
    ·cases hc
   ·split at hc
    ·rename_i h0 h1 h2 h3;cases hc;exact qrp h hdst (hd _ hdst) hop h1 h2 h0 h3 hr
    ·cases hc
 ·rename_i hop hdst;obtain ⟨y,hy,rfl⟩:=Aa.1 hc;exact qoo h (t':=0) hdst (hd _ hdst) hop hy hr
 ·rename_i hop hdst;split at hc
  ·rename_i h1 h2 h3;cases hc;exact qi2 h hdst (hd _ hdst) hop h1 h2 h3 hr
  ·rename_i h1 h2 h3;cases hc;exact qjq h hdst (hd _ hdst) hop h1 h2 h3 hr
  ·rename_i h1 h2 h3;split at hc
   ·rename_i h4;split at hc
    ·rename_i h5;cases hc;exact qhc h hb hdst (hd _ hdst) hop h1 h2 h4 h5 h3 hr
    ·cases hc
   ·cases hc
  ·rename_i h1 h2 h3;split at hc
   ·rename_i h4;cases hc;exact qh7 h hdst (hd _ hdst) hop h1 h4 h2 h3 hr
   ·cases hc
  ·cases hc
 ·rename_i hop hdst;split at hc
  ·rename_i h1 h2;cases hc;exact qhj h hdst (hd _ hdst) hop h1 h2 hr
  ·cases hc
 ·rename_i hop hdst;split at hc
  ·rename_i hcon;obtain ⟨y,hy,rfl⟩:=Aa.1 hc;exact qju h hdst (hd _ hdst) hop (λv=>run_makeInterface w _ v hcon) hy hr
  ·cases hc
 ·rename_i hop hdst;split at hc
  ·rename_i h0;split at hc
   ·rename_i h2 h3 h4;split at hc
    ·rename_i hcond;cases hc;rw [<-qf1 hcond] at hop;exact qi4 h hb hdst (hd _ hdst) hop h0 h2 h3 h4 hr
    ·cases hc
   ·cases hc
  ·cases hc
 ·rename_i hop hdst;split at hc
  ·rename_i h1 h2 h3 h4;cases hc;exact qdi h hdst (hd _ hdst) hop h1 h2 h3 h4 hr
  ·rename_i h1 h2 h3 h4;split at hc
   ·rename_i hs;cases hc;obtain ⟨m,hm⟩:=Am.1 hs;exact qi5 h hdst (hd _ hdst) hop h1 hm h2 h3 h4 hr
   ·cases hc
  ·cases hc
 ·rename_i hop hdst;split at hc
  ·rename_i h1 h2;split at hc
   ·rename_i hcond;cases hc;obtain ⟨m,hm⟩:=Am.1 hcond.2.2;exact qee h hb hdst (hd _ hdst) hop h1 hm h2 hcond.1 hcond.2.1 hr
   ·cases hc
  ·cases hc
 ·rename_i hop hdst;split at hc
  ·rename_i h1 h2;split at hc
   ·rename_i h3;cases hc;exact qi3 h hdst (hd _ hdst) hop h1 h3 h2 hr
   ·cases hc
  ·cases hc
 ·rename_i hop hdst;split at hc
  ·rename_i h1;split at hc
   ·rename_i h2 h3;cases hc;exact qh2 h hdst (hd _ hdst) hop h1 h2 h3 hr
   ·cases hc
  ·cases hc
 ·rename_i hop hdst;split at hc
  ·rename_i h0;split at hc
   ·rename_i h1 h2 h3;split at hc
    ·cases hc;exact qjl h hdst (hd _ hdst) hop h0 h1 h2 h3 hr
    ·cases hc
   ·cases hc
  ·cases hc
 ·rename_i hop hdst;split at hc
  ·rename_i h0;split at hc
   ·rename_i h1 h2;cases hc;exact qot h hdst (hd _ hdst) hop h0 h1 h2 hr
   ·cases hc
  ·cases hc
 ·rename_i hop hdst;obtain ⟨y,hy,rfl⟩:=Aa.1 hc;exact qje h hdst (hd _ hdst) hop hy hr
 ·rename_i hop hdst;split at hc
  ·rename_i ha ht;have ha':=Ag.1 (ha.trans (Ad).symm);have ht':=Ag.1 (ht.trans (Ad).symm);split at hc
   ·rename_i h0;obtain ⟨y,hy,rfl⟩:=Aa.1 hc;exact qds h hdst (hd _ hdst) hop rfl ha' ht' h0 hy hr
   ·rename_i h0;obtain ⟨y,hy,rfl⟩:=Aa.1 hc;exact qg0 h hdst (hd _ hdst) hop rfl ha' ht' h0 hy hr
   ·cases hc
  ·cases hc
 ·rename_i hop hdst;split at hc
  ·rename_i ha ht;have ha':=Ag.1 (ha.trans (Ad).symm);have ht':=Ag.1 (ht.trans (Ad).symm);split at hc
   ·rename_i h0 _;split at hc
    ·rename_i hcond;obtain ⟨rfl,rfl⟩:=hcond;split at hc
     ·rename_i h1 h2 h3 h4 h5;split at hc
      ·rename_i hpos;cases hc;exact qi6 h hb hdst (hd _ hdst) hop rfl ha' ht' h0 h1 h2 h3 hpos.1 h4 h5 hr
      ·cases hc
     ·cases hc
    ·cases hc
   ·cases hc
  ·cases hc
 ·rename_i hop hdst;split at hc
  ·rename_i hcond;simp only [Al,decide_eq_true_eq] at hcond;obtain ⟨y,hy,rfl⟩:=Aa.1 hc;exact qcq h hdst (hd _ hdst) (isMax:=true) hop rfl hcond.1 hy hr
  ·cases hc
 ·rename_i hop hdst;split at hc
  ·rename_i hcond;simp only [Al,decide_eq_true_eq] at hcond;obtain ⟨y,hy,rfl⟩:=Aa.1 hc;exact qcq h hdst (hd _ hdst) (isMax:=false) hop rfl hcond.1 hy hr
  ·cases hc
 ·rename_i hop;split at hc
  ·cases hc
  ·rename_i hsz;obtain ⟨y,hy,rfl⟩:=Aa.1 hc;split at hr
   ·exact qdp h hb rfl hd hop rfl (Ah hsz) hy (hS _) (λc xs=>vub hq _ c xs) hr
   ·exact vxr h hb rfl hd hop rfl (Ah hsz) hy (hS _) (λc xs=>vub hq _ c xs) hr
 ·rename_i hop;split at hc
  ·cases hc
  ·rename_i hsz;obtain ⟨y,hy,rfl⟩:=Aa.1 hc;have hn:=Nat.lt_of_not_le λh=>hsz (.inr h);have hsz':=Ah λh=>hsz (.inl h);exact qed h hb rfl hd hop hn rfl hsz' hy hS (λf c xs=>vub hq f c xs) hr
 ·rename_i hop;split at hc
  ·cases hc
  ·rename_i hsz;have hn:=Nat.lt_of_not_le λh=>hsz (.inr h);have hsz':=Ah λh=>hsz (.inl h);split at hc
   ·rename_i hm hx;cases hc;exact qd8 h hb rfl hd hop hn rfl hsz' hm hx hS (λf c xs=>vub hq f c xs) hr
   ·cases hc
 ·rename_i hop hdst;split at hc
  ·rename_i ha ht;have ha':=Ag.1 (ha.trans (Ad).symm);have ht':=Ag.1 (ht.trans (Ad).symm);split at hc
   ·rename_i h0;split at hc
    ·rename_i h1 h2 h3;cases hc;exact qh5 h hdst hop rfl ha' ht' h0 h1 h2 h3 hr
    ·cases hc
   ·cases hc
  ·cases hc
 ·cases hc
theorem qik {Φ:Nat->Option Callee} (hS:∀f c,Φ f=some c->Sound cx.P f c) (h:G cx U (λ_ _=>False) ρ F st a w) (hq:Qok st) {b:Nat} (hb:∀i,b<=i->i<b+100->¬U i) {ops:Array Oper} {o:Oper} {v:VOp} (hc:cOp cx.P ops o=some v)
  (hd:∀d,o.dst=some d->d<cx.n) {s1:St} (hr:(exec Φ b v).run st=some ((),s1)):Now cx U b o s1 a w:=by
 unfold cOp at hc;cases h1:cOp1 cx.P ops o with
 |none=>
  rw [h1] at hc;cases hc;exact (vac hr).elim
 |some x=>
  rw [h1] at hc;cases hc;exact qrq hS h hq hb h1 hd hr
