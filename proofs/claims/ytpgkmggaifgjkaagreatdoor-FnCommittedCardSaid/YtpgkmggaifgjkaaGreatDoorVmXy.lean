/- The interpreter 'VM'. -/
import Derived.Test.YtpgkmggaifgjkaaGreatDoorVmWy
open List renaming mem_append->Aa,mem_cons_of_mem->Ae,all_eq_true->Af,mem_cons_self->Ai,mem_flatMap->Aj,mem_cons->Ak,mem_of_mem_drop->An,mem_of_mem_take->Ao,pairwise_append->Ap,pairwise_cons->Aq,getElem?_cons_zero->Ar,map_cons->Au,mem_of_getElem?->Av,getD_eq_getElem?_getD->Ax,flatMap_cons->Ay,range'_succ->A1,contains_eq_mem->A5,range_eq_range'->A6,getElem?_zipIdx->A7,mem_singleton->A8,mem_map->A9,length_append->Bc,range'->Bf,length_cons->Bh,cons_append->Bi,foldl_cons->Bl,map_append->Bm,Sublist->Bo,range->Bp
open Nat renaming le_refl->Ab,lt_of_lt_of_le->Al,le_trans->Am,lt_irrefl->Bn
open Array renaming getElem?_eq_getElem->Ac,getD_eq_getD_getElem?->Ad,getElem?_eq_some_iff->Ah,length_toList->Aw,getElem?_replicate->A2,getElem?_eq_none->A4,foldl_toList->Bb
open Bool renaming and_eq_true->Ag,not_eq_true'->Az,false_eq_true->Ba,or_eq_true->Bj
open Option.some renaming injEq->At
open Option renaming getD_some->A0,map_eq_some_iff->A3,mem_toList->Be,getD_none->Bg
set_option linter.all false
namespace Go.Proofs.YtpgkmggaifgjkaaGreatDoor.VM
open Go
structure Names where
 A:Nat->Nat->Prop
 N:Nat->Nat->Prop
 P:Nat->Prop
structure NInv (x:Names) (st:St):Prop where
 slots:∀t,idsIn (x.A t) (st.slot t)
 nodes:∀id m,st.node id=some m->m.idsIn (x.N id)
 ptr:∀t,x.P t->isP (st.slot t)=true
section
variable {x:Names} {R W D V:Nat->Prop}
def Did {α:Type} (x:Names) (R W D V:Nat->Prop) (m:M α) (st:St) (r:α) (s:St):Prop:=
 NInv x s/\∃ds dn,s=⟨ds++st.slots,dn++st.nodes,st.next⟩/\(∀y∈ds,W y.1)/\(∀y∈dn,V y.1)/\
  ∀st':St,(∀t,R t->st'.slot t=st.slot t)->(∀id,D id->st'.node id=st.node id)->m.run st'=some (r,⟨ds++st'.slots,dn++st'.nodes,st'.next⟩)
def FR {α:Type} (x:Names) (R W D V:Nat->Prop) (post:α->Prop) (m:M α):Prop:=
 ∀st,NInv x st->∀r s,m.run st=some (r,s)->post r/\Did x R W D V m st r s
theorem Did.bind {α β:Type} {m:M α} {k:α->M β} {st s1 s:St} {a:α} {r:β} (h:Did x R W D V m st a s1) (h':Did x R W D V (k a) s1 r s):Did x R W D V (m.bind k) st r s:=by
 obtain ⟨_,ds,dn,rfl,w1,n1,k1⟩:=h;obtain ⟨i2,ds2,dn2,rfl,w2,n2,k2⟩:=h';refine ⟨i2,ds2++ds,dn2++dn,by simp,λy hy=>(Aa.1 hy).elim (w2 y) (w1 y),λy hy=>(Aa.1 hy).elim (n2 y) (n1 y),λst' ha hb=> ?_⟩;rw [vly,k1 st' ha hb];have:=k2 ⟨ds++st'.slots,dn++st'.nodes,st'.next⟩ (λt ht=> ?_) (λid hid=> ?_)
 ·simpa using this
 ·simp only [St.slot,vd3];have:=ha t ht;simp only [St.slot] at this;cases look ds t<;>simp [this]
 ·simp only [St.node,vd3];have:=hb id hid;simp only [St.node] at this;cases look dn id<;>simp [this]
theorem FR.pure {α:Type} {post:α->Prop} {a:α} (h:post a):FR x R W D V post (.pure a):=by
 intro st hi r s hr;cases run_pure hr;exact ⟨h,hi,[],[],rfl,by simp,by simp,λ_ _ _=>rfl⟩
theorem FR.fail {α:Type} {post:α->Prop}:FR x R W D V post (.fail:M α):=λ_ _ _ _ hr=>(vac hr).elim
theorem FR.bind {α β:Type} {p:α->Prop} {q:β->Prop} {m:M α} {k:α->M β} (h:FR x R W D V p m) (hk:∀a,p a->FR x R W D V q (k a)):FR x R W D V q (m.bind k):=by
 intro st hi r s hr;obtain ⟨a,s1,h1,h2⟩:=vaa hr;obtain ⟨pa,d1⟩:=h st hi a s1 h1;obtain ⟨qr,d2⟩:=hk a pa s1 d1.1 r s h2;exact ⟨qr,d1.bind d2⟩
theorem FR.mono {α:Type} {p q:α->Prop} {m:M α} (h:FR x R W D V p m) (hp:∀a,p a->q a):FR x R W D V q m:=by
 intro st hi r s hr;obtain ⟨h1,h2⟩:=h st hi r s hr;exact ⟨hp _ h1,h2⟩
theorem FR.bindA {α β:Type} {p:α->Prop} {m:M α} {k:α->M β} (h:FR x R W D V p m) (hk:∀a,p a->FR x R W D V any (k a)):FR x R W D V any (m.bind k):=h.bind hk
theorem FR.any {α:Type} {p:α->Prop} {m:M α} (h:FR x R W D V p m):FR x R W D V any m:=h.mono λ_ _=>trivial
theorem qdl {t:Nat} (h:R t):FR x R W D V (idsIn (x.A t)) (getS t):=by
 intro st hi r s hr;cases vjy hr;exact ⟨hi.slots t,hi,[],[],rfl,by simp,by simp,λst' ha _=>by show some (st'.slot t,st')=_;rw [ha t h];rfl⟩
theorem qm3 {t:Nat} (h:R t):FR x R W D V (λv=>idsIn (x.A t) v/\(x.P t->isP v=true)) (getS t):=by
 intro st hi r s hr;cases vjy hr;exact ⟨⟨hi.slots t,hi.ptr t⟩,hi,[],[],rfl,by simp,by simp,λst' ha _=>by show some (st'.slot t,st')=_;rw [ha t h];rfl⟩
theorem qeg {t:Nat} {v:TV} (h:W t) (hv:idsIn (x.A t) v) (hp:x.P t->isP v=true):FR x R W D V VM.any (setS t v):=by
 intro st hi r s hr;cases vbd hr;refine ⟨trivial,⟨λt'=> ?_,hi.nodes,λt' ht'=> ?_⟩,[(t,v)],[],rfl,λy hy=>by simp only [A8] at hy;subst hy;exact h,by simp,λ_ _ _=>rfl⟩
 ·rw [vkl];split
  ·rename_i e;rw [<-e];exact hv
  ·exact hi.slots t'
 ·rw [vkl];split
  ·rename_i e;exact hp (e▸ht')
  ·exact hi.ptr t' ht'
theorem vcg {id:Nat} (h:D id):FR x R W D V (λn=>∀m,n=some m->m.idsIn (x.N id)) (getN id):=by
 intro st hi r s hr;cases vbn hr;exact ⟨λm hm=>hi.nodes id m hm,hi,[],[],rfl,by simp,by simp,λst' _ hb=>by show some (st'.node id,st')=_;rw [hb id h];rfl⟩
theorem vc2 {id:Nat} {n:Option Node} (h:V id) (hn:∀m,n=some m->m.idsIn (x.N id)):FR x R W D V VM.any (setN id n):=by
 intro st hi r s hr;cases vby hr;refine ⟨trivial,⟨hi.slots,λid' m hm=> ?_,hi.ptr⟩,[],[(id,n)],rfl,by simp,λy hy=>by simp only [A8] at hy;subst hy;exact h,λ_ _ _=>rfl⟩;rw [vgd] at hm;split at hm
 ·rename_i e;rw [<-e];exact hn m hm
 ·exact hi.nodes id' m hm
theorem vfv {α:Type} (o:Option α):FR x R W D V (λa=>o=some a) (liftO o):=by
 cases o with
 |none=>exact FR.fail
 |some a=>exact FR.pure rfl
variable {S T:Nat->Prop}
def opS (x:Names):Opd->Nat->Prop
 | .t n=>x.A n
 |_=>λ_=>False
theorem vci {y:Opd} (h:∀t∈y.used,R t):FR x R W D V (idsIn (opS x y)) (opd y):=by
 cases y with
 |t n=>exact qdl (h n (by simp [Opd.used]))
 |c v=>exact FR.pure trivial
 |nl e=>exact FR.pure trivial
 |f g=>exact FR.pure ⟨trivial,trivial⟩
def opP (x:Names):Opd->Prop
 | .t n=>x.P n
 |_=>False
theorem vrv {y:Opd} (h:∀t∈y.used,R t):FR x R W D V (λv=>idsIn (opS x y) v/\(opP x y->isP v=true)) (opd y):=by
 cases y with
 |t n=>exact qm3 (h n (by simp [Opd.used]))
 |c v=>exact FR.pure ⟨trivial,λh=>h.elim⟩
 |nl e=>exact FR.pure ⟨trivial,λh=>h.elim⟩
 |f g=>exact FR.pure ⟨⟨trivial,trivial⟩,λh=>h.elim⟩
def allS (x:Names):List Opd->List TV->Prop
 | [],[]=>True
 |y::ys,v::vs=>idsIn (opS x y) v/\allS x ys vs
 |_,_=>False
theorem vmr:∀{ys:List Opd},(∀t∈ys.flatMap (·.used),R t)->FR x R W D V (allS x ys) (opds ys)
 | [],_=>FR.pure trivial
 |y::ys,h=>(vci λt ht=>h t (by simp [ht])).bind λv hv=>(vmr λt ht=>h t (by
   simp only [Ay,Aa];exact .inr ht)).bind λvs hvs=>FR.pure ⟨hv,hvs⟩
theorem allS.ids:∀{ys:List Opd} {vs:List TV},allS x ys vs->(∀y∈ys,∀i,opS x y i->S i)->vap S vs
 | [],[],_,_=>trivial
 |y::ys,v::vs,h,hS=>⟨h.1.mono (hS y (by simp)),allS.ids h.2 λy hy=>hS y (by simp [hy])⟩
 | [],_::_,h,_=>h.elim
 |_::_,[],h,_=>h.elim
theorem vs3 {y:Option Opd} (h:∀t∈(y.map (·.used)).getD [],R t):FR x R W D V VM.any (bound y):=by
 cases y with
 |none=>exact FR.pure trivial
 |some y=>
  refine (vci h).bind λu _=> ?_;split
  ·exact FR.pure trivial
  ·exact FR.fail
theorem vo2 {v : TV} (h : idsIn S v) (hD : ∀ i, S i -> D i) : FR x R W D V VM.any (elems v) := by
  cases v <;> first
    | exact FR.pure trivial
    | exact FR.fail
    | (refine (vcg (hD _ (by first | exact h | exact h.1))).bind λn _ => ?_
       repeat' split
       all_goals first | exact FR.pure trivial | exact FR.fail)
theorem vvo {cs:List TV} (h:vap S cs) {o:Nat}:∀{w:Option Nat} {v:TV},vbi cs o w=some v->idsIn S v
 |none,v,hp=>vbm h hp
 |some w,v,hp=>by
  unfold vbi at hp;simp only at hp;split at hp
  ·cases hp;exact vdc λc hc=>vco h c (An (Ao hc))
  ·cases hp
theorem vtz {id ver:Nat} {p:List (Nat×Nat×Nat)} {i m:Nat} {y:PV} (h1:S id) (h2:ver=0\/S (ver-1)):vap S (vg2 id ver p i m y):=by
 refine vdc λc hc=> ?_;unfold vg2 at hc;obtain ⟨⟨d,o⟩,_,rfl⟩:=A9.1 hc;cases d<;>first|trivial|exact ⟨h1,h2⟩
theorem qfk {cs:List PV}:vap S (cs.map ofFrozen):=by
 refine vdc λc hc=> ?_;obtain ⟨d,_,rfl⟩:=A9.1 hc;cases d<;>trivial
theorem vzc {w:Option Nat} {v:TV} (h:idsIn S v) (hD:∀i,S i->D i) (hT:∀i,S i->T i) (hN:∀i,S i->∀j,x.N i j->T j):FR x R W D V (idsIn T) (loadAt w v):=by
 have lift:∀{cs:List TV} {o:Nat},vap T cs->FR x R W D V (idsIn T) (liftO (vbi cs o w)):=λhc=>(vfv _).mono λa ha=>vvo hc ha;unfold loadAt;split
 ·rename_i id;refine (vcg (hD _ h)).bind λn hn=> ?_;split
  ·exact lift (vap.mono (hN _ h) (hn _ rfl))
  ·exact FR.fail
 ·rename_i id o;refine (vcg (hD _ h)).bind λn hn=> ?_;split
  ·exact lift (vap.mono (hN _ h) (hn _ rfl))
  ·exact FR.fail
 ·rename_i id i m o;refine (vcg (hD _ h)).bind λn hn=> ?_;split
  ·rename_i es;split
   ·exact lift (vtz (hT _ h) ((hn _ rfl).imp (λh=>h) (hN _ h _)))
   ·exact FR.fail
  ·exact FR.fail
 ·rename_i id ver p i m o;refine (vcg (hD _ h.1)).bind λn hn=> ?_;split
  ·split
   ·split
    ·split
     ·split
      ·exact lift (vtz (hT _ h.1) (h.2.imp (λh=>h) (hT _)))
      ·exact FR.fail
     ·exact FR.fail
    ·exact FR.fail
   ·exact FR.fail
  ·exact FR.fail
 ·exact lift qfk
 ·exact FR.fail
theorem qm4 {w:Option Nat} {v:TV} (hp:isP v=true) (h:idsIn S v) (hD:∀i,S i->D i) (hN:∀i,S i->∀j,x.N i j->T j):FR x R W D V (idsIn T) (loadAt w v):=by
 have lift:∀{cs:List TV} {o:Nat},vap T cs->FR x R W D V (idsIn T) (liftO (vbi cs o w)):=λhc=>(vfv _).mono λa ha=>vvo hc ha;cases v with
 |rf id=>
  refine (vcg (hD _ h)).bind λn hn=> ?_;split
  ·exact lift (vap.mono (hN _ h) (hn _ rfl))
  ·exact FR.fail
 |ad id o=>
  refine (vcg (hD _ h)).bind λn hn=> ?_;split
  ·exact lift (vap.mono (hN _ h) (hn _ rfl))
  ·exact FR.fail
 |a u=>exact FR.fail
 |un=>exact FR.fail
 |_=>cases hp
theorem qfm {o : Nat} {v : TV} (h : idsIn S v) (hD : ∀ i, S i -> D i) : FR x R W D V (idsIn S) (fieldAt o v) := by
  cases v <;> first
    | exact FR.fail
    | exact FR.pure h
    | exact FR.pure trivial
    | (refine (vcg (hD _ (by first | exact h | exact h.1))).bind λn _ => ?_
       repeat' split
       all_goals first | exact FR.pure h | exact FR.fail)
theorem qj5 {o:Nat} {v:TV} (hp:isP v=true) (h:idsIn S v) (hD:∀i,S i->D i):FR x R W D V (λu=>idsIn S u/\isP u=true) (fieldAt o v):=by
 cases v with
 |rf id=>
  refine (vcg (hD _ h)).bind λn hn=> ?_;split
  ·exact FR.pure ⟨h,rfl⟩
  ·exact FR.fail
 |ad id o'=>exact FR.pure ⟨h,rfl⟩
 |a u=>exact FR.fail
 |un=>exact FR.fail
 |_=>cases hp
theorem qew {e:Nat} {v:TV} {lo hi:Option Int} (h:idsIn S v) (hD:∀i,S i->D i):FR x R W D V (idsIn S) (sliceAt e v lo hi):=by
 unfold sliceAt;split
 ·split
  ·exact FR.pure trivial
  ·exact FR.fail
 ·split
  ·exact FR.pure trivial
  ·exact FR.fail
 ·refine (vcg (hD _ h)).bind λn _=> ?_
  repeat' split
  all_goals first|exact FR.pure h|exact FR.fail
 ·refine (vcg (hD _ h)).bind λn _=> ?_
  repeat' split
  all_goals first|exact FR.pure h|exact FR.fail
 ·exact FR.fail
theorem qmf {v:TV} {lo hi:Option Int}:FR x R W D V (idsIn S) (strAt v lo hi):=by
 unfold strAt
 repeat' split
 all_goals first|exact FR.pure trivial|exact FR.fail
theorem qgh {e m:Nat} {v:TV} {i:Int} (h:idsIn S v) (hD:∀i,S i->D i):FR x R W D V (idsIn S) (indexAt e m v i):=by
 unfold indexAt;refine (vo2 h hD).bind λr _=> ?_
 repeat' split
 all_goals first|exact FR.pure h|exact FR.pure trivial|exact FR.fail
theorem qeb {v:TV} (h:idsIn S v) (hD:∀i,S i->D i) (hV:∀i,S i->V i):FR x R W D V VM.any (toPV v):=by
 unfold toPV;split
 ·split
  ·exact FR.pure trivial
  ·exact FR.fail
 ·exact FR.pure trivial
 ·exact FR.pure trivial
 ·refine (vcg (hD _ h)).bind λn _=> ?_;split
  ·exact (vc2 (hV _ h) (by simp)).bind λ_ _=>FR.pure trivial
  ·exact FR.fail
 ·exact FR.fail
theorem vvq:∀{vs:List TV},vap S vs->(∀i,S i->D i)->(∀i,S i->V i)->FR x R W D V VM.any (toPVs vs)
 | [],_,_,_=>FR.pure trivial
 |v::vs,h,hD,hV=>(qeb h.1 hD hV).bindA λ_ _=>FR.bindA (vvq h.2 hD hV) λ_ _=>FR.pure trivial
theorem qeh {fl:Bool} {v:TV} (h:idsIn S v) (hD:fl=false->∀i,S i->D i) (hV:fl=false->∀i,S i->V i):FR x R W D V VM.any (toEl fl v):=by
 unfold toEl;split
 ·rename_i cs;split
  ·exact (vfv _).bind λ_ _=>FR.pure trivial
  ·rename_i hf;have hf:=by simpa using hf
   exact (vvq (vs:=cs) h (hD hf) (hV hf)).bind λ_ _=>FR.pure trivial
 ·split
  ·exact (vfv _).bind λ_ _=>FR.pure trivial
  ·rename_i hf;have hf:=by simpa using hf
   exact qeb h (hD hf) (hV hf)
theorem vx6 {fl:Bool} {m:Nat}:∀(ps:List (Nat×Opd)) (q:Bool) (es:List PV),(∀t∈ps.flatMap (·.2.used),R t)->(∀p∈ps,∀i,opS x p.2 i->S i)->(fl=false->∀i,S i->D i)->(fl=false->∀i,S i->V i)->FR x R W D V VM.any (bslM fl m ps q es)
 | [],q,es,_,_,_,_=>FR.pure trivial
 |(i,y)::ps,q,es,hR,hS,hD,hV=>by
  unfold bslM;refine (vci λt ht=>hR t (by simp [ht])).bind λv hv=>(qeh (hv.mono (hS (i,y) (by simp))) hD hV).bind λz _=> ?_;split
  ·exact vx6 ps _ _ (λt ht=>hR t (by simp only [Ay,Aa];exact .inr ht)) (λp hp=>hS p (by simp [hp])) hD hV
  ·exact FR.fail
theorem vya:∀(ps:List (Nat×Nat×Opd)) (cs:List TV),(∀t∈ps.flatMap (·.2.2.used),R t)->(∀p∈ps,∀i,opS x p.2.2 i->S i)->vap S cs->FR x R W D V (vap S) (buildM ps cs)
 | [],cs,_,_,h=>FR.pure h
 |(o,w,y)::ps,cs,hR,hS,h=>by
  unfold buildM;refine (vci λt ht=>hR t (by simp [ht])).bind λv hv=> ?_;split
  ·refine vya ps _ (λt ht=>hR t (by simp only [Ay,Aa];exact .inr ht)) (λp hp=>hS p (by simp [hp])) ?_;refine vdc λc hc=> ?_;rcases Aa.1 hc with hc|hc
   ·rcases Aa.1 hc with hc|hc
    ·exact vco h c (Ao hc)
    ·exact vco (viw (hv.mono (hS (o,w,y) (by simp)))) c hc
   ·exact vco h c (An hc)
  ·exact FR.fail
theorem vu6 {w id o:Nat} {y:TV} (hD:D id) (hV:V id) (hy:idsIn (x.N id) y):FR x R W D V VM.any (storeBox w id o y):=by
 unfold storeBox;refine (vcg hD).bind λn hn=> ?_;split
 ·split
  ·refine vc2 hV λm hm=> ?_;cases hm;have h0:vap _ _:=hn _ rfl;refine vdc λc hc=> ?_;rcases Aa.1 hc with hc|hc
   ·rcases Aa.1 hc with hc|hc
    ·exact vco h0 c (Ao hc)
    ·exact vco (viw hy) c hc
   ·exact vco h0 c (An hc)
  ·exact FR.fail
 ·exact FR.fail
theorem qn4 {b:Nat} {v:TV} {T:Nat->Prop} (hv:idsIn T v) (hTD:∀i,T i->D i) (hTV:∀i,T i->V i) (hN:∀i,T i->x.N i (b+50)) (hbV:V (b+60)):FR x R W D V (idsIn λi=>T i\/i=b+60) (pull1 b v):=by
 unfold pull1;split
 ·refine (vcg (hTD _ hv.1)).bind λn _=> ?_;split
  ·split
   ·unfold pullK;split
    ·refine FR.bind (p:=any) ?_ λz _=> ?_
     ·unfold takeIn;split
      ·split
       ·refine (vc2 (hTV _ hv.1) λm hm=> ?_).bind λ_ _=>FR.pure trivial;cases hm;exact .inr (hN _ hv.1)
       ·exact FR.fail
      ·exact FR.fail
     ·refine (vc2 hbV λm hm=> ?_).bind λ_ _=>FR.pure (.inr rfl);cases hm;exact .inl rfl
    ·exact FR.fail
   ·exact FR.fail
  ·exact FR.fail
 ·exact FR.pure (hv.mono λ_ h=> .inl h)
theorem qbu {b:Nat} {T:Nat->Prop} (hTD:∀i,T i->D i) (hTV:∀i,T i->V i) (hN:∀i,T i->x.N i (b+50)) (hbV:V (b+60)):∀{vs:List TV},vap T vs->FR x R W D V (vap λi=>T i\/i=b+60) (pullL b vs)
 | [],_=>FR.pure trivial
 |v::vs,h=>by
  unfold pullL;split
  ·exact (qn4 h.1 hTD hTV hN hbV).bind λy hy=>FR.pure ⟨hy,h.2.mono λ_ h=> .inl h⟩
  ·exact (qbu hTD hTV hN hbV h.2).bind λys hys=>FR.pure ⟨h.1.mono λ_ h=> .inl h,hys⟩
theorem vzb {b:Nat} {u v:TV} {T:Nat->Prop} (hv:idsIn T v) (hTD:∀i,T i->D i) (hTV:∀i,T i->V i) (hN:∀i,T i->x.N i (b+50)) (hbV:V (b+60)):FR x R W D V (idsIn λi=>T i\/i=b+60) (pullTo b u v):=by
 unfold pullTo;split
 ·exact (qbu hTD hTV hN hbV (vs:=_) hv).bind λys hys=>FR.pure hys
 ·exact FR.pure (hv.mono λ_ h=> .inl h)
theorem qrd {b m:Nat} (ps:List (Nat×Opd)) (es:List PV) (hR:∀t∈ps.flatMap (·.2.used),R t) (hS:∀p∈ps,∀i,opS x p.2 i->S i) (hD:∀i,S i->D i) (hV:∀i,S i->V i) (hN:∀i,S i->x.N i (b+50)) (hbD:D (b+60)) (hbV:V (b+60)):FR x R W D V VM.any (bslQ b false m ps es):=by
 unfold bslQ;split
 ·rename_i i y _;refine (vci λt ht=>hR t (by simp [ht])).bind λv hv=>(vzb (T:=S) (hv.mono (hS (i,y) (by simp))) hD hV hN hbV).bind λv hv=>(qeh hv (λ_ i hi=>hi.elim (hD i) λe=>e▸hbD) (λ_ i hi=>hi.elim (hV i) λe=>e▸hbV)).bind λy _=> ?_;split
  ·exact FR.pure trivial
  ·exact FR.fail
 ·exact vx6 _ _ _ hR hS (λ_=>hD) (λ_=>hV)
theorem qfg {b w:Nat} {u y:TV} (hu:idsIn S u) (hy:idsIn T y) (hSD:∀i,S i->D i) (hSV:∀i,S i->V i) (hTD:∀i,T i->D i) (hTV:∀i,T i->V i) (hN:∀i,S i->∀j,T j->x.N i j) (hb:∀i,S i->x.N i b):FR x R W D V VM.any (storeAt b w u y):=by
 unfold storeAt;split
 ·exact vu6 (hSD _ hu) (hSV _ hu) (hy.mono (hN _ hu))
 ·exact vu6 (hSD _ hu) (hSV _ hu) (hy.mono (hN _ hu))
 ·rename_i id i m o;refine (vvq (viw hy) hTD hTV).bind λys _=>(vcg (hSD _ hu)).bind λn hn=> ?_;split
  ·split
   ·split
    ·refine vc2 (hSV _ hu) λm hm=> ?_;cases hm;show _\/_;split
     ·exact hn _ rfl
     ·exact .inr (by simpa using hb _ hu)
    ·exact FR.fail
   ·exact FR.fail
  ·exact FR.fail
 ·refine (vcg (hSD _ hu.1)).bind λn hn=> ?_;split
  ·split
   ·rename_i hver;subst hver;unfold vm1;split
    ·split
     ·split
      ·split
       ·refine vc2 (hSV _ hu.1) λm hm=> ?_;cases hm;show _\/_;exact hn _ rfl
       ·exact FR.fail
      ·exact FR.fail
     ·exact FR.fail
    ·exact FR.fail
   ·exact FR.fail
  ·exact FR.fail
 ·exact FR.fail
theorem qmy {b e:Nat} {v:TV} (h:idsIn S v) (hD:∀i,S i->D i) (hV:∀i,S i->V i) (hN:∀i,S i->x.N i (b+50)):FR x R W D V VM.any (appTo b e v):=by
 unfold appTo;split
 ·split
  ·exact FR.pure trivial
  ·exact FR.fail
 ·refine (vcg (hD _ h)).bind λn _=> ?_;split
  ·split
   ·exact (vc2 (hV _ h) (by simp)).bind λ_ _=>FR.pure trivial
   ·exact FR.fail
  ·exact FR.fail
 ·refine (vcg (hD _ h)).bind λn _=> ?_;split
  ·split
   ·split
    ·exact (vc2 (hV _ h) (by simp)).bind λ_ _=>FR.pure trivial
    ·exact FR.fail
   ·exact FR.fail
  ·exact FR.fail
 ·refine (vcg (hD _ h.1)).bind λn _=> ?_;split
  ·split
   ·unfold takeIn;split
    ·split
     ·refine (vc2 (hV _ h.1) λm hm=> ?_).bind λ_ _=>FR.pure trivial;cases hm;exact .inr (hN _ h.1)
     ·exact FR.fail
    ·exact FR.fail
   ·exact FR.fail
  ·exact FR.fail
 ·exact FR.fail
theorem qlu {e:Nat} {mv:Bool} {v:TV} (h:idsIn S v) (hD:∀i,S i->D i) (hV:mv=true->∀i,S i->V i):FR x R W D V VM.any (appOf e mv v):=by
 unfold appOf;split
 ·refine (vcg (hD _ h)).bind λn _=> ?_;split
  ·split
   ·split
    ·rename_i hm;exact (vc2 (hV hm _ h) (by simp)).bind λ_ _=>FR.pure trivial
    ·exact FR.pure trivial
   ·exact FR.fail
  ·exact FR.fail
 ·refine (vo2 h hD).bind λr _=> ?_;split
  ·exact FR.pure trivial
  ·exact FR.fail
theorem qgc {b e bytes:Nat} {mv:Bool} {u v:TV} (hu:idsIn S u) (hv:idsIn T v) (hSD:∀i,S i->D i) (hSV:∀i,S i->V i) (hTD:∀i,T i->D i) (hTV:mv=true->∀i,T i->V i) (hN:∀i,S i->x.N i (b+50)) (hb:V b) {Z:Nat->Prop} (hZ:Z b):
  FR x R W D V (idsIn Z) (appendM b e bytes mv u v):=by
 unfold appendM;refine (qmy hu hSD hSV hN).bind λxs _=>(qlu hv hTD hTV).bind λys _=> ?_;split
 ·refine (vc2 hb λm hm=> ?_).bind λ_ _=>FR.pure hZ;cases hm;exact .inl rfl
 ·exact FR.fail
mutual
theorem vp9 (hD:∀i,S i->D i) (hC:∀i,S i->∀j,x.N i j->S j) (z:Bool):∀(k n:Nat) {v:TV},idsIn S v->FR x R W D V VM.any (vba z k n v)
 |0,n,v,_=>by unfold vba;exact FR.fail
 |k+1,n,v,h=>by
  unfold vba;split
  ·exact FR.pure trivial
  ·exact FR.pure trivial
  ·exact FR.pure trivial
  ·exact (vk0 hD hC z k h).bindA λ_ _=>FR.pure trivial
  ·exact (vk0 hD hC z k h.1).bindA λ_ _=>FR.bindA (vk0 hD hC z k h.2) λ_ _=>FR.pure trivial
  ·rename_i t v;exact (vp9 hD hC z k _ (v:=v) h).bindA λ_ _=>FR.pure trivial
  ·exact FR.pure trivial
  ·refine (vcg (hD _ h)).bindA λn hn=> ?_;split
   ·split
    ·exact FR.fail
    ·exact FR.pure trivial
   ·split
    ·exact FR.fail
    ·exact (vk0 hD hC z k (vap.mono (hC _ h) (hn _ rfl))).bindA λ_ _=>FR.pure trivial
   ·exact FR.fail
  ·split
   ·exact FR.fail
   ·refine (vcg (hD _ h)).bindA λn hn=> ?_;split
    ·exact FR.pure trivial
    ·exact FR.fail
  ·split
   ·exact FR.fail
   ·refine (vcg (hD _ h.1)).bindA λn hn=> ?_
    repeat' split
    all_goals first|exact FR.pure trivial|exact FR.fail
  ·split
   ·exact FR.fail
   ·refine (vcg (hD _ h)).bindA λn hn=> ?_;split
    ·split
     ·refine (vk0 hD hC z k ?_).bindA λ_ _=>FR.pure trivial;have:=vap.mono (hC _ h) (hn _ rfl);exact vdc λc hc=>vco this c (An (Ao hc))
     ·exact FR.fail
    ·exact FR.fail
  ·exact FR.fail
theorem vk0 (hD:∀i,S i->D i) (hC:∀i,S i->∀j,x.N i j->S j) (z:Bool):∀(k:Nat) {vs:List TV},vap S vs->FR x R W D V VM.any (vbo z k vs)
 |0,vs,_=>by unfold vbo;exact FR.fail
 |k+1,[],_=>by unfold vbo;exact FR.pure trivial
 |k+1,v::vs,h=>by
  unfold vbo;exact (vp9 hD hC z k 0 h.1).bindA λ_ _=>FR.bindA (vk0 hD hC z k h.2) λ_ _=>FR.pure trivial
end
theorem qsa (hD:∀i,S i->D i) (hC:∀i,S i->∀j,x.N i j->S j) (z:Bool) (n:Nat) {v:TV} (h:idsIn S v):FR x R W D V VM.any (frz1 z n v):=by
 unfold frz1;split
 ·exact (vp9 hD hC false depth 0 h).bindA λy _=>by
   split
   ·exact FR.pure trivial
   ·exact FR.fail
 ·exact vp9 hD hC z depth n h
theorem vx1 (hD:∀i,S i->D i) (hC:∀i,S i->∀j,x.N i j->S j) (keeps:Bool):∀(ms:List Md) {vs:List TV} (ys:List CV),vap S vs->FR x R W D V VM.any (show_ keeps ms vs ys)
 | [],[],[],_=>by unfold show_;exact FR.pure trivial
 | .ro n::ms,v::vs,y::ys,h=>by unfold show_;exact (qsa hD hC keeps n h.1).bindA λ_ _=>FR.bindA (vx1 hD hC keeps ms ys h.2) λ_ _=>FR.pure trivial
 | .mut _::ms,_::vs,y::ys,h=>by unfold show_;exact (vx1 hD hC keeps ms ys h.2).bindA λ_ _=>FR.pure trivial
 | [],[],_::_,_=>by unfold show_;exact FR.fail
 | [],_::_,_,_=>by unfold show_;exact FR.fail
 | .ro _::_,[],_,_=>by unfold show_;exact FR.fail
 | .ro _::_,_::_,[],_=>by unfold show_;exact FR.fail
 | .mut _::_,[],_,_=>by unfold show_;exact FR.fail
 | .mut _::_,_::_,[],_=>by unfold show_;exact FR.fail
mutual
theorem vxm (hD:∀i,S i->D i) (hV:∀i,S i->V i) (hC:∀i,S i->∀j,x.N i j->S j) (z:Bool):∀(k:Nat) {v:TV},idsIn S v->FR x R W D V VM.any (pack z k v)
 |0,v,_=>by unfold pack;exact FR.fail
 |k+1,v,h=>by
  unfold pack;split
  ·exact FR.pure trivial
  ·exact FR.pure trivial
  ·split
   ·exact FR.pure trivial
   ·exact FR.fail
  ·exact (vpy hD hV hC z k h).bindA λ_ _=>FR.pure trivial
  ·exact (vpy hD hV hC z k h.1).bindA λ_ _=>FR.bindA (vpy hD hV hC z k h.2) λ_ _=>FR.pure trivial
  ·rename_i t v;exact (vxm hD hV hC z k (v:=v) h).bindA λ_ _=>FR.pure trivial
  ·refine (vcg (hD _ h)).bindA λn hn=> ?_;split
   ·split
    ·exact FR.fail
    ·exact (vc2 (hV _ h) (by simp)).bindA λ_ _=>FR.pure trivial
   ·split
    ·exact FR.fail
    ·exact (vc2 (hV _ h) (by simp)).bindA λ_ _=>FR.bindA (vpy hD hV hC z k (vap.mono (hC _ h) (hn _ rfl))) λ_ _=>FR.pure trivial
   ·exact FR.pure trivial
  ·exact FR.pure trivial
  ·refine (vcg (hD _ h)).bindA λn hn=> ?_;split
   ·split
    ·exact FR.fail
    ·exact (vc2 (hV _ h) (by simp)).bindA λ_ _=>FR.pure trivial
   ·exact FR.fail
  ·exact FR.fail
theorem vpy (hD:∀i,S i->D i) (hV:∀i,S i->V i) (hC:∀i,S i->∀j,x.N i j->S j) (z:Bool):∀(k:Nat) {vs:List TV},vap S vs->FR x R W D V VM.any (vck z k vs)
 |0,vs,_=>by unfold vck;exact FR.fail
 |k+1,[],_=>by unfold vck;exact FR.pure trivial
 |k+1,v::vs,h=>by
  unfold vck;exact (vxm hD hV hC z k h.1).bindA λ_ _=>FR.bindA (vpy hD hV hC z k h.2) λ_ _=>FR.pure trivial
end
def lentS (S:Nat->Prop):List Md->List TV->Prop
 | .mut _::ms,v::vs=>idsIn S v/\lentS S ms vs
 | .ro _::ms,_::vs=>lentS S ms vs
 |_,_=>True
theorem vv2:∀(ms:List Md) {vs:List TV},vap S vs->lentS S ms vs
 | [],_,_=>trivial
 | .mut _::ms,[],_=>trivial
 | .ro _::ms,[],_=>trivial
 | .mut _::ms,v::vs,h=>⟨h.1,vv2 ms h.2⟩
 | .ro _::ms,v::vs,h=>vv2 ms h.2
theorem vxv (hD:∀i,S i->D i) (hV:∀i,S i->V i) (hC:∀i,S i->∀j,x.N i j->S j) (keeps:Bool):∀(ms:List Md) {vs:List TV},lentS S ms vs->FR x R W D V VM.any (lend keeps ms vs)
 | [],[],_=>by unfold lend;exact FR.pure trivial
 | [],_::_,_=>by unfold lend;exact FR.fail
 | .ro _::_,[],_=>by unfold lend;exact FR.fail
 | .mut _::_,[],_=>by unfold lend;exact FR.fail
 | .ro n::ms,v::vs,h=>by unfold lend;exact (vxv hD hV hC keeps ms h).bindA λ_ _=>FR.pure trivial
 | .mut n::ms,v::vs,h=>by
  unfold lend;refine (?_:FR x R W D V VM.any (lend0 keeps v)).bindA λ_ _=>FR.bindA (vxv hD hV hC keeps ms h.2) λ_ _=>FR.pure trivial;unfold lend0;split
  ·exact FR.pure trivial
  ·exact vxm hD hV hC keeps _ h.1
def MayB (x:Names) (S B:Nat->Prop):Prop:=∀i,S i->∀j,B j->x.N i j
theorem vvl {B:Nat->Prop} (hD:∀i,S i->D i) (hV:∀i,S i->V i) (hB:MayB x S B) (keeps:Bool) {v:Nat} (hv:B (v-1)):∀(ms:List Md) {vs:List TV} (ys:List CV),lentS S ms vs->FR x R W D V VM.any (vbs keeps v ms vs ys)
 | [],[],[],_=>by unfold vbs;exact FR.pure trivial
 | [],[],_::_,_=>by unfold vbs;exact FR.fail
 | [],_::_,_,_=>by unfold vbs;exact FR.fail
 | .ro _::_,[],_,_=>by unfold vbs;exact FR.fail
 | .mut _::_,[],_,_=>by unfold vbs;exact FR.fail
 | .ro _::_,_::_,[],_=>by unfold vbs;exact FR.fail
 | .mut _::_,_::_,[],_=>by unfold vbs;exact FR.fail
 | .ro n::ms,u::vs,y::ys,h=>by unfold vbs;exact (vvl hD hV hB keeps hv ms ys h).bindA λ_ _=>FR.pure trivial
 | .mut n::ms,u::vs,y::ys,h=>by
  unfold vbs;refine (?_:FR x R W D V VM.any (lend1 keeps v u y)).bindA λ_ _=>FR.bindA (vvl hD hV hB keeps hv ms ys h.2) λ_ _=>FR.pure trivial;unfold lend1;split
  ·refine (vcg (hD _ h.1.1)).bindA λn hn=> ?_;split
   ·split
    ·exact FR.fail
    ·split
     ·refine (vc2 (hV _ h.1.1) λm hm=> ?_).bindA λ_ _=>FR.pure trivial;cases hm;exact .inr (hB _ h.1.1 _ hv)
     ·exact FR.fail
   ·exact FR.fail
  ·exact FR.pure trivial
def Grow {α:Type} (b:Nat) (get:α->Nat) (m:M α):Prop:=∀st r s,m.run st=some (r,s)->b<=get r
def FL {α:Type} (x:Names) (R W D V:Nat->Prop) (lim:Nat) (get:α->Nat) (post:α->Prop) (m:M α):Prop:=
 ∀st,NInv x st->∀r s,m.run st=some (r,s)->get r<=lim->post r/\Did x R W D V m st r s
variable {lim:Nat}
theorem Grow.pure {α:Type} {get:α->Nat} {b:Nat} {a:α} (h:b<=get a):Grow b get (.pure a):=λst r s hr=>by cases run_pure hr;exact h
theorem Grow.fail {α:Type} {get:α->Nat} {b:Nat}:Grow b get (.fail:M α):=λ_ _ _ hr=>(vac hr).elim
theorem Grow.bind {α β:Type} {g1:α->Nat} {g2:β->Nat} {b:Nat} {m:M α} {k:α->M β} (h:Grow b g1 m) (hk:∀a,Grow (g1 a) g2 (k a)):Grow b g2 (m.bind k):=λst r s hr=>by
 obtain ⟨a,s1,h1,h2⟩:=vaa hr;exact Am (h _ _ _ h1) (hk a _ _ _ h2)
theorem Grow.of {α β:Type} {g2:β->Nat} {b:Nat} {m:M α} {k:α->M β} (hk:∀a,Grow b g2 (k a)):Grow b g2 (m.bind k):=λst r s hr=>by
 obtain ⟨a,s1,h1,h2⟩:=vaa hr;exact hk a _ _ _ h2
theorem FR.toL {α:Type} {get:α->Nat} {p:α->Prop} {m:M α} (h:FR x R W D V p m):FL x R W D V lim get p m:=λst hi r s hr _=>h st hi r s hr
theorem FL.bind {α β:Type} {g1:α->Nat} {g2:β->Nat} {p:α->Prop} {q:β->Prop} {b:Nat} {m:M α} {k:α->M β} (h:FL x R W D V lim g1 p m) (hm:Grow b g1 m) (hg:∀a,Grow (g1 a) g2 (k a)) (hk:∀a,b<=g1 a->g1 a<=lim->p a->FL x R W D V lim g2 q (k a)):FL x R W D V lim g2 q (m.bind k):=by
 intro st hi r s hr hl;obtain ⟨a,s1,h1,h2⟩:=vaa hr;have hla:g1 a<=lim:=Am (hg a _ _ _ h2) hl;obtain ⟨pa,d1⟩:=h st hi a s1 h1 hla;obtain ⟨qr,d2⟩:=hk a (hm _ _ _ h1) hla pa s1 d1.1 r s h2 hl;exact ⟨qr,d1.bind d2⟩
theorem FL.of {α β:Type} {g2:β->Nat} {p:α->Prop} {q:β->Prop} {m:M α} {k:α->M β} (h:FR x R W D V p m) (hk:∀a,p a->FL x R W D V lim g2 q (k a)):FL x R W D V lim g2 q (m.bind k):=by
 intro st hi r s hr hl;obtain ⟨a,s1,h1,h2⟩:=vaa hr;obtain ⟨pa,d1⟩:=h st hi a s1 h1;obtain ⟨qr,d2⟩:=hk a pa s1 d1.1 r s h2 hl;exact ⟨qr,d1.bind d2⟩
theorem FL.ofA {α β:Type} {g2:β->Nat} {p:α->Prop} {q:β->Prop} {m:M α} {k:α->M β} (h:FR x R W D V p m) (hk:∀a,p a->FL x R W D V lim g2 q (k a)):FL x R W D V lim g2 q (m.bind k):=FL.of h hk
theorem FL.pure {α:Type} {get:α->Nat} {p:α->Prop} {a:α} (h:p a):FL x R W D V lim get p (.pure a):=(FR.pure h).toL
theorem FL.fail {α:Type} {get:α->Nat} {p:α->Prop}:FL x R W D V lim get p (.fail:M α):=FR.fail.toL
theorem vyr (q:Bool) (c:CV) (b:Nat):Grow b (·.2) (vay q b c):=λst r s hr=>(vvj q c b st r s hr).1
theorem vfu (q:Bool) (cs:List CV) (b:Nat):Grow b (·.2) (vbg q b cs):=λst r s hr=>(vjp q cs b st r s hr).1
structure Own (x:Names) (V:Nat->Prop) (b0 lim:Nat) (B:Nat->Prop):Prop where
 wr:∀i,b0<=i->i<lim->V i
 nm:∀i,b0<=i->i<lim->B i
 may:MayB x B B
variable {b0:Nat} {B:Nat->Prop}
mutual
theorem vyb (ho:Own x V b0 lim B) (q:Bool):∀(c:CV) (b:Nat),b0<=b->FL x R W D V lim (·.2) (λr=>idsIn B r.1) (vay q b c)
 | .a v,b,_=>by unfold vay;exact FL.pure trivial
 | .sl z e es,b,hb=>by
  unfold vay;split
  ·exact FL.pure trivial
  ·intro st hi r s hr hl;have hr2:r.2=b+1:=by
    obtain ⟨_,s1,h1,h2⟩:=vaa hr;cases run_pure h2;rfl
   have hl:r.2<=lim:=hl;have hlt:b<lim:=zo
   have key:FR x R W D V (λr:TV×Nat=>idsIn B r.1) ((setN b (some (.sl q 0 e es))).bind λ_=> .pure (.rf b,b+1)):=
    (vc2 (ho.wr b hb hlt) λm hm=>by cases hm;exact .inl rfl).bind λ_ _=>FR.pure (ho.nm b hb hlt)
   exact key st hi r s hr
 | .bx z cs,b,hb=>by
  unfold vay;refine FL.bind (vir ho q cs (b+1) zo) (vfu q cs (b+1)) (λa=>Grow.of λ_=>Grow.pure (Ab _)) λa h1 h2 h=> ?_;have h1:b+1<=a.2:=h1;have hlt:b<lim:=Al h1 h2;have hn:∀m,some (Node.bx z a.1)=some m->m.idsIn (x.N b):=λm hm=>by cases hm;exact vap.mono (ho.may _ (ho.nm b hb hlt)) h
  have key:FR x R W D V (λr:TV×Nat=>idsIn B r.1) ((setN b (some (.bx z a.1))).bind λ_=> .pure (.rf b,a.2)):=(vc2 (ho.wr b hb hlt) hn).bind λ_ _=>FR.pure (ho.nm b hb hlt);exact key.toL
 | .st cs,b,hb=>by unfold vay;exact FL.bind (vir ho q cs b hb) (vfu q cs b) (λa=>Grow.pure (Ab _)) λa _ _ h=>FL.pure h
 | .tp cs,b,hb=>by unfold vay;exact FL.bind (vir ho q cs b hb) (vfu q cs b) (λa=>Grow.pure (Ab _)) λa _ _ h=>FL.pure h
 | .fn f fs cs,b,hb=>by
  unfold vay;refine FL.bind (vir ho q fs b hb) (vfu q fs b) (λa=>(vfu q cs a.2).bind λ_=>Grow.pure (Ab _)) λa h1 _ h=> ?_;exact FL.bind (vir ho q cs a.2 (Am hb h1)) (vfu q cs a.2) (λa=>Grow.pure (Ab _)) λ_ _ _ h'=>FL.pure ⟨h,h'⟩
 | .ic t v,b,hb=>by unfold vay;exact FL.bind (vyb ho q v b hb) (vyr q v b) (λa=>Grow.pure (Ab _)) λa _ _ h=>FL.pure h
 | .un,b,_=>by unfold vay;exact FL.pure trivial
theorem vir (ho:Own x V b0 lim B) (q:Bool):∀(cs:List CV) (b:Nat),b0<=b->FL x R W D V lim (·.2) (λr=>vap B r.1) (vbg q b cs)
 | [],b,_=>by unfold vbg;exact FL.pure trivial
 |c::cs,b,hb=>by
  unfold vbg;refine FL.bind (vyb ho q c b hb) (vyr q c b) (λa=>(vfu q cs a.2).bind λ_=>Grow.pure (Ab _)) λa h1 _ h=> ?_;exact FL.bind (vir ho q cs a.2 (Am hb h1)) (vfu q cs a.2) (λa=>Grow.pure (Ab _)) λ_ _ _ h'=>FL.pure ⟨h,h'⟩
end
mutual
theorem vod (q:Bool) (v:Nat):∀(u:TV) (c0 y:CV) (b:Nat),Grow b (λb'=>b') (vaf q v b u c0 y)
 | .rf id,c0,y,b=>by
  cases c0 with
  |sl z0 e0 es0=>
   cases y with
   |sl z e es=>
    cases z0<;>cases z<;>simp only [vaf]
    ·refine Grow.of λm=> ?_;split
     ·exact Grow.of λ_=>Grow.pure (Ab _)
     ·exact Grow.fail
    all_goals exact Grow.pure (Ab _)
   |_=>simp only [vaf];exact Grow.pure (Ab _)
  |bx z0 cs0=>
   cases y with
   |bx z cs=>
    cases z0<;>cases z<;>simp only [vaf]
    ·refine Grow.of λm=> ?_;split
     ·exact (vfu q _ b).bind λa=>Grow.of λ_=>Grow.pure (Ab _)
     ·exact Grow.fail
    all_goals exact Grow.pure (Ab _)
   |_=>simp only [vaf];exact Grow.pure (Ab _)
  |_=>simp only [vaf];exact Grow.pure (Ab _)
 | .fn f fs cs,c0,y,b=>by
  cases c0 with
  |fn f0 fs0 cs0=>
   cases y with
   |fn f1 fs1 cs1=>simp only [vaf];exact (viv q v fs fs0 fs1 b).bind λb'=>viv q v cs cs0 cs1 b'
   |_=>simp only [vaf];exact Grow.pure (Ab _)
  |_=>simp only [vaf];exact Grow.pure (Ab _)
 | .st cs,c0,y,b=>by
  cases c0 with
  |st cs0=>
   cases y with
   |st cs1=>simp only [vaf];exact viv q v cs cs0 cs1 b
   |_=>simp only [vaf];exact Grow.pure (Ab _)
  |_=>simp only [vaf];exact Grow.pure (Ab _)
 | .ic t u,c0,y,b=>by
  cases c0 with
  |ic t0 x0=>
   cases y with
   |ic t1 x1=>simp only [vaf];exact vod q v u x0 x1 b
   |_=>simp only [vaf];exact Grow.pure (Ab _)
  |_=>simp only [vaf];exact Grow.pure (Ab _)
 | .a _,c0,y,b=>by simp only [vaf];exact Grow.pure (Ab _)
 | .nl _,c0,y,b=>by simp only [vaf];exact Grow.pure (Ab _)
 | .ri _ _ _,c0,y,b=>by simp only [vaf];exact Grow.pure (Ab _)
 | .sb _ _ _,c0,y,b=>by simp only [vaf];exact Grow.pure (Ab _)
 | .ad _ _,c0,y,b=>by simp only [vaf];exact Grow.pure (Ab _)
 | .ea _ _ _ _,c0,y,b=>by simp only [vaf];exact Grow.pure (Ab _)
 | .ei _ _ _ _ _ _,c0,y,b=>by simp only [vaf];exact Grow.pure (Ab _)
 | .sz _ _,c0,y,b=>by simp only [vaf];exact Grow.pure (Ab _)
 | .ez _ _,c0,y,b=>by simp only [vaf];exact Grow.pure (Ab _)
 | .tp _,c0,y,b=>by simp only [vaf];exact Grow.pure (Ab _)
 | .un,c0,y,b=>by simp only [vaf];exact Grow.pure (Ab _)
theorem viv (q:Bool) (v:Nat):∀(us:List TV) (cs0 ys:List CV) (b:Nat),Grow b (λb'=>b') (vbh q v b us cs0 ys)
 | [],cs0,ys,b=>by simp only [vbh];exact Grow.pure (Ab _)
 |u::us,[],ys,b=>by simp only [vbh];exact Grow.pure (Ab _)
 |u::us,c0::cs0,[],b=>by simp only [vbh];exact Grow.pure (Ab _)
 |u::us,c0::cs0,y::ys,b=>by simp only [vbh];exact (vod q v u c0 y b).bind λb'=>viv q v us cs0 ys b'
end
mutual
theorem vsm (ho:Own x V b0 lim B) (hD:∀i,S i->D i) (hV:∀i,S i->V i) (hB:MayB x S B) (q:Bool) {v:Nat} (hv:B (v-1)):∀(u:TV) (c0 y:CV) (b:Nat),b0<=b->idsIn S u->FL x R W D V lim (λb'=>b') VM.any (vaf q v b u c0 y)
 | .rf id,c0,y,b,hb,h=>by
  have h:S id:=h;cases c0 with
  |sl z0 e0 es0=>
   cases y with
   |sl z e es=>
    cases z0<;>cases z<;>simp only [vaf]
    ·refine FL.ofA (vcg (hD _ h)) λn hn=> ?_;split
     ·have hm:∀m,some (Node.sl q v e es)=some m->m.idsIn (x.N id):=λm hm=>by cases hm;exact .inr (hB _ h _ hv)
      exact FL.ofA (vc2 (hV _ h) hm) λ_ _=>FL.pure trivial
     ·exact FL.fail
    all_goals exact FL.pure trivial
   |_=>simp only [vaf];exact FL.pure trivial
  |bx z0 cs0=>
   cases y with
   |bx z cs=>
    cases z0<;>cases z<;>simp only [vaf]
    ·refine FL.ofA (vcg (hD _ h)) λn hn=> ?_;split
     ·refine FL.bind (vir ho q cs b hb) (vfu q cs b) (λa=>Grow.of λ_=>Grow.pure (Ab _)) λa _ _ ha=> ?_;have hm:∀m,some (Node.bx false a.1)=some m->m.idsIn (x.N id):=λm hm=>by cases hm;exact vap.mono (hB _ h) ha
      exact FL.ofA (vc2 (hV _ h) hm) λ_ _=>FL.pure trivial
     ·exact FL.fail
    all_goals exact FL.pure trivial
   |_=>simp only [vaf];exact FL.pure trivial
  |_=>simp only [vaf];exact FL.pure trivial
 | .fn f fs cs,c0,y,b,hb,h=>by
  cases c0 with
  |fn f0 fs0 cs0=>
   cases y with
   |fn f1 fs1 cs1=>
    simp only [vaf];exact FL.bind (vna ho hD hV hB q hv fs fs0 fs1 b hb h.1) (viv q v fs fs0 fs1 b) (λa=>viv q v cs cs0 cs1 a) λa h1 _ _=>vna ho hD hV hB q hv cs cs0 cs1 a (Am hb h1) h.2
   |_=>simp only [vaf];exact FL.pure trivial
  |_=>simp only [vaf];exact FL.pure trivial
 | .st cs,c0,y,b,hb,h=>by
  cases c0 with
  |st cs0=>
   cases y with
   |st cs1=>simp only [vaf];exact vna ho hD hV hB q hv cs cs0 cs1 b hb h
   |_=>simp only [vaf];exact FL.pure trivial
  |_=>simp only [vaf];exact FL.pure trivial
 | .ic t u,c0,y,b,hb,h=>by
  cases c0 with
  |ic t0 x0=>
   cases y with
   |ic t1 x1=>simp only [vaf];exact vsm ho hD hV hB q hv u x0 x1 b hb h
   |_=>simp only [vaf];exact FL.pure trivial
  |_=>simp only [vaf];exact FL.pure trivial
 | .a _,c0,y,b,_,_=>by simp only [vaf];exact FL.pure trivial
 | .nl _,c0,y,b,_,_=>by simp only [vaf];exact FL.pure trivial
 | .ri _ _ _,c0,y,b,_,_=>by simp only [vaf];exact FL.pure trivial
 | .sb _ _ _,c0,y,b,_,_=>by simp only [vaf];exact FL.pure trivial
 | .ad _ _,c0,y,b,_,_=>by simp only [vaf];exact FL.pure trivial
 | .ea _ _ _ _,c0,y,b,_,_=>by simp only [vaf];exact FL.pure trivial
 | .ei _ _ _ _ _ _,c0,y,b,_,_=>by simp only [vaf];exact FL.pure trivial
 | .sz _ _,c0,y,b,_,_=>by simp only [vaf];exact FL.pure trivial
 | .ez _ _,c0,y,b,_,_=>by simp only [vaf];exact FL.pure trivial
 | .tp _,c0,y,b,_,_=>by simp only [vaf];exact FL.pure trivial
 | .un,c0,y,b,_,_=>by simp only [vaf];exact FL.pure trivial
theorem vna (ho:Own x V b0 lim B) (hD:∀i,S i->D i) (hV:∀i,S i->V i) (hB:MayB x S B) (q:Bool) {v:Nat} (hv:B (v-1)):∀(us:List TV) (cs0 ys:List CV) (b:Nat),b0<=b->vap S us->FL x R W D V lim (λb'=>b') VM.any (vbh q v b us cs0 ys)
 | [],cs0,ys,b,_,_=>by simp only [vbh];exact FL.pure trivial
 |u::us,[],ys,b,_,_=>by simp only [vbh];exact FL.pure trivial
 |u::us,c0::cs0,[],b,_,_=>by simp only [vbh];exact FL.pure trivial
 |u::us,c0::cs0,y::ys,b,hb,h=>by
  simp only [vbh];exact FL.bind (vsm ho hD hV hB q hv u c0 y b hb h.1) (vod q v u c0 y b) (λa=>viv q v us cs0 ys a) λa h1 _ _=>vna ho hD hV hB q hv us cs0 ys a (Am hb h1) h.2
end
theorem qax (q:Bool) (v:Nat) (u:TV) (c f:CV) (b:Nat):Grow b (λb'=>b') (back1 q v b u c f):=by
 unfold back1;split
 ·split
  ·refine Grow.of λm=> ?_;split
   ·split
    ·exact Grow.of λ_=>Grow.pure (Ab _)
    ·exact Grow.fail
   ·exact Grow.fail
  ·exact Grow.fail
 ·exact vod q v u c f b
theorem qmk (ho:Own x V b0 lim B) (hD:∀i,S i->D i) (hV:∀i,S i->V i) (hB:MayB x S B) (q:Bool) {v:Nat} (hv:B (v-1)) (u:TV) (c f:CV) (b:Nat) (hb:b0<=b) (h:idsIn S u):FL x R W D V lim (λb'=>b') VM.any (back1 q v b u c f):=by
 unfold back1;split
 ·split
  ·refine FL.ofA (vcg (hD _ h.1)) λn hn=> ?_;split
   ·split
    ·refine FL.ofA (vc2 (hV _ h.1) λm hm=> ?_) λ_ _=>FL.pure trivial;cases hm;have h0:=hn _ rfl;exact h0
    ·exact FL.fail
   ·exact FL.fail
  ·exact FL.fail
 ·exact vsm ho hD hV hB q hv u c f b hb h
theorem vm6 (q:Bool) (v:Nat):∀(ms:List Md) (us:List TV) (cs fs:List CV) (b:Nat),Grow b (λb'=>b') (van q v b ms us cs fs)
 | .ro _::ms,u::us,c::cs,fs,b=>by simp only [van];exact vm6 q v ms us cs fs b
 | .mut _::ms,u::us,c::cs,f::fs,b=>by simp only [van];exact (qax q v u c f b).bind λb'=>vm6 q v ms us cs fs b'
 | [],[],[],[],b=>by simp only [van];exact Grow.pure (Ab _)
 | [],_::_,_,_,b=>by simp only [van];exact Grow.fail
 | [],[],_::_,_,b=>by simp only [van];exact Grow.fail
 | [],[],[],_::_,b=>by simp only [van];exact Grow.fail
 | .ro _::_,[],_,_,b=>by simp only [van];exact Grow.fail
 | .ro _::_,_::_,[],_,b=>by simp only [van];exact Grow.fail
 | .mut _::_,[],_,_,b=>by simp only [van];exact Grow.fail
 | .mut _::_,_::_,[],_,b=>by simp only [van];exact Grow.fail
 | .mut _::_,_::_,_::_,[],b=>by simp only [van];exact Grow.fail
theorem vqr (ho:Own x V b0 lim B) (hD:∀i,S i->D i) (hV:∀i,S i->V i) (hB:MayB x S B) (q:Bool) {v:Nat} (hv:B (v-1)):∀(ms:List Md) (us:List TV) (cs fs:List CV) (b:Nat),b0<=b->lentS S ms us->FL x R W D V lim (λb'=>b') VM.any (van q v b ms us cs fs)
 | .ro _::ms,u::us,c::cs,fs,b,hb,h=>by simp only [van];exact vqr ho hD hV hB q hv ms us cs fs b hb h
 | .mut _::ms,u::us,c::cs,f::fs,b,hb,h=>by
  simp only [van];exact FL.bind (qmk ho hD hV hB q hv u c f b hb h.1) (qax q v u c f b) (λa=>vm6 q v ms us cs fs a) λa h1 _ _=>vqr ho hD hV hB q hv ms us cs fs a (Am hb h1) h.2
 | [],[],[],[],b,_,_=>by simp only [van];exact FL.pure trivial
 | [],_::_,_,_,b,_,_=>by simp only [van];exact FL.fail
 | [],[],_::_,_,b,_,_=>by simp only [van];exact FL.fail
 | [],[],[],_::_,b,_,_=>by simp only [van];exact FL.fail
 | .ro _::_,[],_,_,b,_,_=>by simp only [van];exact FL.fail
 | .ro _::_,_::_,[],_,b,_,_=>by simp only [van];exact FL.fail
 | .mut _::_,[],_,_,b,_,_=>by simp only [van];exact FL.fail
 | .mut _::_,_::_,[],_,b,_,_=>by simp only [van];exact FL.fail
 | .mut _::_,_::_,_::_,[],b,_,_=>by simp only [van];exact FL.fail
theorem vy9 {us:List TV} (h:vap S us):idsIn S (oneOf us):=by
 unfold oneOf;split
 ·exact h.1
 ·exact h
mutual
theorem qhm:∀(c:CV) {v:TV},plain c=some v->idsIn S v
 | .a _,v,h=>by unfold plain at h;cases h;trivial
 | .sl z e es,v,h=>by
  unfold plain at h;split at h
  ·cases h;trivial
  ·cases h
 | .st cs,v,h=>by
  unfold plain at h;obtain ⟨vs,h1,rfl⟩:=A3.1 h;exact vr2 cs h1
 | .un,v,h=>by unfold plain at h;cases h;trivial
 | .bx _ _,v,h=>by unfold plain at h;cases h
 | .tp _,v,h=>by unfold plain at h;cases h
 | .fn _ _ _,v,h=>by unfold plain at h;cases h
 | .ic _ _,v,h=>by unfold plain at h;cases h
theorem vr2:∀(cs:List CV) {vs:List TV},plainL cs=some vs->vap S vs
 | [],vs,h=>by unfold plainL at h;cases h;trivial
 |c::cs,vs,h=>by
  unfold plainL at h;split at h
  ·rename_i y ys h1 h2;cases h;exact ⟨qhm c h1,vr2 cs h2⟩
  ·cases h
end
theorem vwa {b:Nat} {Sm:Nat->Prop} (ho:Own x V b (b+100) B) (hD:∀i,S i->D i) (hC:∀i,S i->∀j,x.N i j->S j) (hmD:∀i,Sm i->D i) (hmV:∀i,Sm i->V i) (hmC:∀i,Sm i->∀j,x.N i j->Sm j) (hmB:MayB x Sm B)
  {c:Option Callee} {us:List TV} (hu:vap S us) (hm:∀c',c=some c'->lentS Sm c'.modes us):FR x R W D V (idsIn B) (callM c b us):=by
 cases c with
 |none=>exact FR.fail
 |some c=>
  have hm:=hm c rfl;have hv:B (b+100-1):=ho.nm _ zo zo;unfold callM lendA;refine FR.bind (p:=VM.any) ((vxv hmD hmV hmC _ _ hm).bindA λps _=>vvl hmD hmV hmB _ hv _ _ hm) λps _=> ?_;refine FR.bind (vx1 hD hC _ _ _ hu) λcs _=> ?_;split
  ·exact FR.fail
  ·rename_i rs fs _;have hg:=vm6 c.keeps (b+100) c.modes us cs fs b;have hl:=vqr (R:=R) (W:=W) ho hmD hmV hmB c.keeps hv c.modes us cs fs b (Ab _) hm;intro st hi r s hr;obtain ⟨b',s1,h1,h2⟩:=vaa hr;have hbb:b<=b':=hg _ _ _ h1;split at h2
   ·rename_i hsc;split at h2
    ·rename_i hle;obtain ⟨_,d1⟩:=hl st hi b' s1 h1 (show b'<=b+100 by omega);have key:FR x R W D V (idsIn B) ((liftO (plainL rs)).bind λts=>M.pure (oneOf ts)):=(vfv _).bind λts ht=>FR.pure (vy9 (vr2 rs ht));obtain ⟨p2,d2⟩:=key s1 d1.1 r s h2;refine ⟨p2,d1.bind ?_⟩;simp only [hsc,if_true,if_pos hle];exact d2
    ·exact (vac h2).elim
   ·rename_i hsc;have hsc:c.scalar=false:=by simpa using hsc
    have h3:=h2;unfold vd5 at h3;obtain ⟨a,s2,h4,h5⟩:=vaa h3;have hba:b'<=a.2:=vfu c.keeps rs b' _ _ _ h4;split at h5
    ·rename_i hle;obtain ⟨_,d1⟩:=hl st hi b' s1 h1 (show b'<=b+100 by omega);obtain ⟨p2,d2⟩:=vir (R:=R) (W:=W) (D:=D) ho c.keeps rs b' hbb s1 d1.1 a s2 h4 (show a.2<=b+100 by omega);cases run_pure h5;refine ⟨vy9 p2,d1.bind ?_⟩;simp only [hsc,Ba,if_false];unfold vd5;refine d2.bind ?_;rw [if_pos hle];exact ⟨d2.1,[],[],rfl,by simp,by simp,λ_ _ _=>rfl⟩
    ·exact (vac h5).elim
end
theorem vpm {xs ys:List Nat} (h:subB xs ys=true):∀i∈xs,i∈ys:=by
 intro i hi;have:=Af.1 h i hi;simpa using this
def names (nx:Nat) (a:Tab):Names:=⟨λt i=>rep nx i∈tget a.sl t,λid i=>rep nx i∈tget a.nd (rep nx id),λt=>t∈a.p⟩
theorem vk3 {nx j i:Nat} (h1:nx+100 * j<=i) (h2:i<nx+100 * j+100):rep nx i=nx+100 * j:=by
 unfold rep;rw [if_neg zo];omega
theorem vsn:∀{ys xs:List Nat} {i:Nat},i∈addNew xs ys↔i∈xs\/i∈ys
 | [],xs,i=>by simp [addNew]
 |y::ys,xs,i=>by
  unfold addNew;split
  ·rename_i h;rw [vsn];have:y∈xs:=by simpa using h
   constructor
   ·rintro (h|h)
    ·exact .inl h
    ·exact .inr (Ae _ h)
   ·rintro (h|h)
    ·exact .inl h
    ·rcases Ak.1 h with rfl|h
     ·exact .inl this
     ·exact .inr h
  ·rw [vsn,Aa,Ak,Ak];simp only [List.not_mem_nil,or_false,or_assoc]
theorem vkz {nd:List (Nat×List Nat)}:∀(k:Nat) {l:List Nat} {i:Nat},i∈l->i∈tclose nd k l
 |0,l,i,h=>h
 |k+1,l,i,h=>vkz k (vsn.2 (.inl h))
theorem vkd {nd:List (Nat×List Nat)} {l:List Nat} (h:closedB nd l=true):∀i∈l,∀j∈tget nd i,j∈l:=by
 intro i hi j hj;exact vpm (Af.1 h i hi) j hj
theorem qiq {S:Nat->Prop} {zs:List ZC}:vap S (zs.map ZC.tv):=by
 refine vdc λc hc=> ?_;obtain ⟨z,_,rfl⟩:=A9.1 hc;cases z<;>trivial
theorem qqc {S : Nat -> Prop} {v : TV} {cs : List TV} (h : idsIn S v) (hr : v.row = some cs) : vap S cs := by
  cases v <;> simp only [TV.row] at hr <;> first
    | (cases hr; done)
    | (cases hr; exact h)
    | (cases hr; exact ⟨h, trivial⟩)
    | (split at hr
       · cases hr; exact ⟨trivial, trivial⟩
       · cases hr)
section
variable {Φ:Nat->Option Callee} {nx j:Nat} {a:Tab}
theorem vb1 {y:Opd} {i:Nat}:opS (names nx a) y i↔rep nx i∈opA a y:=by
 cases y<;>simp [opS,opA,names]
theorem vl7:∀(ms:List Md) {vs:List TV} {S T:Nat->Prop},(∀i,S i->T i)->lentS S ms vs->lentS T ms vs
 | [],vs,_,_,_,_=>by cases vs<;>trivial
 | .ro n::ms,[],_,_,_,_=>trivial
 | .mut n::ms,[],_,_,_,_=>trivial
 | .ro n::ms,v::vs,S,T,hST,h=>by
  show lentS T ms vs;exact vl7 ms hST h
 | .mut n::ms,v::vs,_,_,hST,h=>⟨h.1.mono hST,vl7 ms hST h.2⟩
theorem vqm:∀(ms:List Md) {ys:List Opd} {vs:List TV},allS (names nx a) ys vs->lentS (λi=>rep nx i∈mutA a ms ys) ms vs
 | [],ys,vs,_=>by cases vs<;>trivial
 | .mut n::ms,[],[],_=>trivial
 | .ro n::ms,[],[],_=>trivial
 | .mut n::ms,[],_::_,h=>h.elim
 | .ro n::ms,[],_::_,h=>h.elim
 | .mut n::ms,_::_,[],h=>h.elim
 | .ro n::ms,_::_,[],h=>h.elim
 | .mut n::ms,y::ys,v::vs,h=>by
  refine ⟨h.1.mono λi hi=> ?_,vl7 ms (λi hi=> ?_) (vqm ms h.2)⟩
  ·unfold mutA;exact Aa.2 (.inl (vb1.1 hi))
  ·unfold mutA;exact Aa.2 (.inr hi)
 | .ro n::ms,y::ys,v::vs,h=>by
  show lentS (λi=>rep nx i∈mutA a ms ys) ms vs;exact vqm ms h.2
theorem vph {ys:List Opd} {y:Opd} (hy:y∈ys) {i:Nat} (h:i∈opA a y):i∈opsA a ys:=Aj.2 ⟨y,hy,h⟩
abbrev RdF (nx:Nat) (f:Fp):Nat->Prop:=λi=>rep nx i∈f.r
abbrev WrF (nx:Nat) (f:Fp):Nat->Prop:=λi=>rep nx i∈f.w
theorem vkx {y:Opd}:opP (names nx a) y↔pS a y=true:=by
 cases y<;>simp [opP,pS,names]
theorem qp1 (op:VOp) (hk:fpOk a op.dst (fp Φ a (nx+100 * j) op)=true) (hq:pOk a op=true) {R W D V:Nat->Prop} (hR:∀t∈op.uses,R t) (hW:∀t,op.dst=some t->W t) (hD:∀i,rep nx i∈(fp Φ a (nx+100 * j) op).r->D i) (hV:∀i,rep nx i∈(fp Φ a (nx+100 * j) op).w->V i):
  FR (names nx a) R W D V any (exec Φ (nx+100 * j) op):=by
 have hb:rep nx (nx+100 * j)=nx+100 * j:=vk3 (Ab _) zo;simp only [fpOk,Ag,Af] at hk;obtain ⟨⟨hok,hd⟩,hc⟩:=hk;have hsetP:∀{d:Nat} {v:TV},op.dst=some d->idsIn (λi=>rep nx i∈(fp Φ a (nx+100 * j) op).d) v->(pOp a op=true->isP v=true)->FR (names nx a) R W D V any (setS d v):=by
  intro d v hdd hv hpp;refine qeg (hW _ hdd) (hv.mono λi hi=> ?_) λht=>hpp ?_
  ·rw [hdd] at hd;exact vpm hd _ hi
  ·unfold pOk at hq;rw [show dstO op=op.dst from rfl,hdd] at hq;simpa [show d∈a.p from ht] using hq
 have hset:∀{d:Nat} {v:TV},pOp a op=false->op.dst=some d->idsIn (λi=>rep nx i∈(fp Φ a (nx+100 * j) op).d) v->FR (names nx a) R W D V any (setS d v):=λhn hdd hv=>hsetP hdd hv λh=>by rw [hn] at h;cases h
 have hput:∀{v:TV},pOp a op=false->idsIn (λi=>rep nx i∈(fp Φ a (nx+100 * j) op).d) v->FR (names nx a) R W D V any (putO op.dst v):=by
  intro v hn hv;cases hdd:op.dst with
  |none=>exact FR.pure trivial
  |some d=>exact hset hn hdd hv
 have hmay:∀i k,i∈(fp Φ a (nx+100 * j) op).w->k∈(fp Φ a (nx+100 * j) op).c->k∈tget a.nd i:=λi k hi hk=>vpm (hc i hi) k hk;have self:∀{y:Opd} {v:TV},idsIn (opS (names nx a) y) v->idsIn (λi=>rep nx i∈opA a y) v:=λh=>h.mono λi hi=>vb1.1 hi;cases op with
 |mov d x=>exact (vrv λt ht=>hR t ht).bind λv hv=>hsetP rfl (self hv.1) λh=>hv.2 (vkx.2 h)
 |pick d c x y=>
  simp only [exec];refine (vci λt ht=>hR t (by simp only [VOp.uses,Aa];exact .inl (.inl ht))).bind λu _=> ?_;split
  ·split
   ·exact (vci λt ht=>hR t (by simp only [VOp.uses,Aa];exact .inl (.inr ht))).bind λv hv=>hset rfl rfl (hv.mono λi hi=>Aa.2 (.inl (vb1.1 hi)))
   ·exact (vci λt ht=>hR t (by simp only [VOp.uses,Aa];exact .inr ht)).bind λv hv=>hset rfl rfl (hv.mono λi hi=>Aa.2 (.inr (vb1.1 hi)))
  ·exact FR.fail
 |alloc d zs=>
  simp only [exec];split
  ·exact FR.fail
  ·refine (vc2 (hV _ (by simp [fp,hb])) λm hm=> ?_).bind λ_ _=>hsetP rfl (by simp [idsIn,fp,hb]) λ_=>rfl;cases hm;exact qiq
 |box d x=>
  simp only [exec];refine (vci λt ht=>hR t ht).bind λv hv=>(vfv _).bind λcs hcs=> ?_;split
  ·exact FR.fail
  ·refine (vc2 (hV _ (by simp [fp,hb])) λm hm=> ?_).bind λ_ _=>hsetP rfl (by simp [idsIn,fp,hb]) λ_=>rfl;cases hm;refine qqc (hv.mono λi hi=> ?_) hcs;show rep nx i∈tget a.nd (rep nx (nx+100 * j));rw [hb];exact hmay _ _ (by simp [fp]) (vb1.1 hi)
 |build d zs ps=>
  simp only [exec];refine (vya (S:=λi=>rep nx i∈ps.flatMap (λp:Nat×Nat×Opd=>opA a p.2.2)) ps _ (λt ht=>hR t (by simpa [VOp.uses] using ht)) (λp hp i hi=>Aj.2 ⟨p,hp,vb1.1 hi⟩) qiq).bind λcs hcs=>hset (v:= .st cs) rfl rfl hcs
 |bsl d e m zs n ps=>
  simp only [exec];by_cases hf:flatZ zs=true
  ·have hdd:(fp Φ a (nx+100 * j) (.bsl d e m zs n ps))=⟨[],[nx+100 * j],[nx+100 * j],[],true⟩:=by simp [fp,hf]
   rw [hdd] at hset hD hV;simp only [hf,bslQ];refine (vx6 (S:=λi=>rep nx i∈ps.flatMap (λp:Nat×Opd=>opA a p.2)) ps _ _ (λt ht=>hR t (by simpa [VOp.uses] using ht)) (λp hp i hi=>Aj.2 ⟨p,hp,vb1.1 hi⟩) (by simp) (by simp)).bind λes _=> ?_;refine (vc2 (hV _ (by simp [hb])) λm hm=> ?_).bind λ_ _=>hset rfl rfl (by simp [idsIn,hb]);cases hm;exact .inl rfl
  ·have hdd:(fp Φ a (nx+100 * j) (.bsl d e m zs n ps))=⟨(nx+100 * j)::ps.flatMap (λp:Nat×Opd=>opA a p.2),(nx+100 * j)::ps.flatMap (λp:Nat×Opd=>opA a p.2),[nx+100 * j],[nx+100 * j],true⟩:=by simp [fp,hf]
   rw [hdd] at hset hD hV hmay;have hf:flatZ zs=false:=by simpa using hf
   have h50:rep nx (nx+100 * j+50)=nx+100 * j:=vk3 zo zo;have h60:rep nx (nx+100 * j+60)=nx+100 * j:=vk3 zo zo;have b60:rep nx (nx+100 * j+60)∈(nx+100 * j)::ps.flatMap (λp:Nat×Opd=>opA a p.2):=by rw [h60];exact Ai
   simp only [hf]
   refine (qrd (S:=λi=>rep nx i∈ps.flatMap (λp:Nat×Opd=>opA a p.2)) ps _ (λt ht=>hR t (by simpa [VOp.uses] using ht)) (λp hp i hi=>Aj.2 ⟨p,hp,vb1.1 hi⟩) (λi hi=>hD i (Ae _ hi)) (λi hi=>hV i (Ae _ hi)) (λi hi=>by
    show rep nx (nx+100 * j+50)∈_;rw [h50]
    exact hmay _ _ (Ae _ hi) (Ai)) (hD _ b60) (hV _ b60)).bind λes _=> ?_
   refine (vc2 (hV _ (by simp [hb])) λm hm=> ?_).bind λ_ _=>hset rfl rfl (by simp [idsIn,hb]);cases hm;exact .inl rfl
 |load d w x=>
  simp only [exec];refine (vrv λt ht=>hR t ht).bind λv hv=> ?_;have hN:∀i,opS (names nx a) x i->∀k,rep nx k∈tget a.nd (rep nx i)->rep nx k∈(if pS a x then [] else opA a x)++(opA a x).flatMap (tget a.nd):=λi hi k hk=>Aa.2 (.inr (Aj.2 ⟨_,vb1.1 hi,hk⟩));by_cases hp:pS a x=true
  ·exact (qm4 (T:=λi=>rep nx i∈(if pS a x then [] else opA a x)++(opA a x).flatMap (tget a.nd)) (hv.2 (vkx.2 hp)) hv.1 (λi hi=>hD i (vb1.1 hi)) hN).bind λu hu=>hset rfl rfl hu
  ·exact (vzc (T:=λi=>rep nx i∈(if pS a x then [] else opA a x)++(opA a x).flatMap (tget a.nd)) hv.1 (λi hi=>hD i (vb1.1 hi)) (λi hi=>Aa.2 (.inl (by rw [if_neg hp];exact vb1.1 hi))) hN).bind λu hu=>hset rfl rfl hu
 |lda d x=>
  simp only [exec];refine (vrv λt ht=>hR t ht).bind λv hv=> ?_;refine (vzc (T:=λ_=>True) hv.1 (λi hi=>hD i (vb1.1 hi)) (λi hi=>trivial) λi hi k hk=>trivial).bind λu hu=> ?_;unfold atomS;split
  ·exact hset rfl rfl trivial
  ·exact FR.fail
 |store w x y=>
  simp only [exec];refine (vci λt ht=>hR t (by simp only [VOp.uses,Aa];exact .inl ht)).bind λu hu=>(vci λt ht=>hR t (by simp only [VOp.uses,Aa];exact .inr ht)).bind λv hv=> ?_;have l:∀i,opS (names nx a) x i->rep nx i∈(nx+100 * j)::(opA a x++opA a y):=λi hi=>Ae _ (Aa.2 (.inl (vb1.1 hi)));have r:∀i,opS (names nx a) y i->rep nx i∈(nx+100 * j)::(opA a x++opA a y):=λi hi=>Ae _ (Aa.2 (.inr (vb1.1 hi)));have h50:rep nx (nx+100 * j+50)=nx+100 * j:=vk3 zo zo;have h60:rep nx (nx+100 * j+60)=nx+100 * j:=vk3 zo zo;have b60:rep nx (nx+100 * j+60)∈(nx+100 * j)::(opA a x++opA a y):=by rw [h60];exact Ai
  refine (vzb hv (λi hi=>hD i (r i hi)) (λi hi=>hV i (r i hi)) (λi hi=> ?_) (hV _ b60)).bind λv hv=> ?_
  ·show rep nx (nx+100 * j+50)∈_;rw [h50];exact hmay _ _ (r i hi) (Ai)
  ·refine qfg hu hv (λi hi=>hD i (l i hi)) (λi hi=>hV i (l i hi)) (λi hi=>hi.elim (λhi=>hD i (r i hi)) λe=>by subst e;exact hD _ b60) (λi hi=>hi.elim (λhi=>hV i (r i hi)) λe=>by subst e;exact hV _ b60) (λi hi k hk=> ?_) λi hi=> ?_
   ·rcases hk with hk|rfl
    ·exact hmay _ _ (l i hi) (Ae _ (vb1.1 hk))
    ·show rep nx (nx+100 * j+60)∈_;rw [h60];exact hmay _ _ (l i hi) (Ai)
   ·show rep nx (nx+100 * j)∈_;rw [hb];exact hmay _ _ (l i hi) (Ai)
 |nilck d x=>
  simp only [exec];refine (vrv λt ht=>hR t ht).bind λv hv=> ?_;split
  ·refine (vcg (hD _ (vb1.1 hv.1))).bind λn _=> ?_;split
   ·exact hsetP rfl (self hv.1) (λh=>hv.2 (vkx.2 h))
   ·exact FR.fail
  ·exact hsetP rfl (self hv.1) (λh=>hv.2 (vkx.2 h))
  ·refine (vcg (hD _ (vb1.1 hv.1))).bind λn _=> ?_;split
   ·exact hsetP rfl (self hv.1) (λh=>hv.2 (vkx.2 h))
   ·exact FR.fail
  ·exact hsetP rfl (self hv.1) (λh=>hv.2 (vkx.2 h))
  ·exact hsetP rfl (self hv.1) (λh=>hv.2 (vkx.2 h))
  ·exact hsetP rfl (self hv.1) (λh=>hv.2 (vkx.2 h))
  ·exact FR.fail
 |bin d op x y=>
  simp only [exec];refine (vci λt ht=>hR t (by simp only [VOp.uses,Aa];exact .inl ht)).bind λu _=>(vci λt ht=>hR t (by simp only [VOp.uses,Aa];exact .inr ht)).bind λv _=> ?_;split
  ·exact (vfv _).bind λr _=>hset rfl rfl trivial
  ·exact FR.fail
 |beq d ne n x y=>
  simp only [exec];refine (vci λt ht=>hR t (by simp only [VOp.uses,Aa];exact .inl ht)).bind λu _=>(vci λt ht=>hR t (by simp only [VOp.uses,Aa];exact .inr ht)).bind λv _=> ?_;split
  ·exact hset rfl rfl trivial
  ·exact (vfv _).bind λr _=>hset rfl rfl trivial
  ·exact FR.fail
 |un d op x=>
  simp only [exec];refine (vci λt ht=>hR t ht).bind λu _=> ?_;split
  ·exact (vfv _).bind λr _=>hset rfl rfl trivial
  ·exact FR.fail
 |cvi d k x=>
  simp only [exec];refine (vci λt ht=>hR t ht).bind λu _=> ?_;split
  ·exact hset rfl rfl trivial
  ·exact FR.fail
 |cvs d x=>
  simp only [exec];refine (vci λt ht=>hR t ht).bind λu _=> ?_;split
  ·exact hset rfl rfl trivial
  ·exact FR.fail
 |s2b d e x=>
  simp only [exec];refine (vci λt ht=>hR t ht).bind λu _=> ?_;split
  ·split
   ·refine (vc2 (hV _ (by simp [fp,hb])) λm hm=> ?_).bind λ_ _=>hset rfl rfl (by simp [idsIn,fp,hb]);cases hm;exact .inl rfl
   ·exact FR.fail
  ·exact FR.fail
 |fl d=>exact FR.fail
 |b2s d e x=>
  simp only [exec];refine (vci λt ht=>hR t ht).bind λv hv=>(vo2 hv λi hi=>hD i (vb1.1 hi)).bind λr _=> ?_;split
  ·exact (vfv _).bind λ_ _=>hset rfl rfl trivial
  ·exact FR.fail
 |mkf d f fs cs=>
  simp only [exec];refine (vmr λt ht=>hR t (by simp only [VOp.uses,Aa];exact .inl ht)).bind λus hus=>(vmr λt ht=>hR t (by simp only [VOp.uses,Aa];exact .inr ht)).bind λvs hvs=>hset rfl rfl ?_;exact ⟨hus.ids λy hy i hi=>Aa.2 (.inl (vph hy (vb1.1 hi))),hvs.ids λy hy i hi=>Aa.2 (.inr (vph hy (vb1.1 hi)))⟩
 |mki d t x=>exact (vci λt ht=>hR t ht).bind λv hv=>hset rfl rfl (self hv)
 |mks d e bytes zs x=>
  simp only [exec];refine (vci λt ht=>hR t ht).bind λu _=> ?_;split
  ·split
   ·refine (vc2 (hV _ (by simp [fp,hb])) λm hm=> ?_).bind λ_ _=>hset rfl rfl (by simp [idsIn,fp,hb]);cases hm;exact .inl rfl
   ·exact FR.fail
  ·exact FR.fail
 |slc d e x lo hi=>
  simp only [exec];exact (vci λt ht=>hR t (by simp only [VOp.uses,Aa];exact .inl (.inl ht))).bind λv hv=>(vs3 λt ht=>hR t (by simp only [VOp.uses,Aa];exact .inl (.inr ht))).bind λ_ _=>
   (vs3 λt ht=>hR t (by simp only [VOp.uses,Aa];exact .inr ht)).bind λ_ _=>(qew hv λi hi=>hD i (vb1.1 hi)).bind λu hu=>hset rfl rfl (self hu)
 |slc0 d e x=>
  simp only [exec];refine (vci λt ht=>hR t ht).bind λv hv=>(vo2 hv λi hi=>hD i (vb1.1 hi)).bind λr _=> ?_;split
  ·refine (vc2 (hV _ (by simp [fp,hb])) λm hm=> ?_).bind λ_ _=>hset rfl rfl (by simp [idsIn,fp,hb]);cases hm;exact .inl rfl
  ·exact FR.fail
 |sslc d x lo hi=>
  simp only [exec];exact (vci λt ht=>hR t (by simp only [VOp.uses,Aa];exact .inl (.inl ht))).bind λv hv=>(vs3 λt ht=>hR t (by simp only [VOp.uses,Aa];exact .inl (.inr ht))).bind λ_ _=>
   (vs3 λt ht=>hR t (by simp only [VOp.uses,Aa];exact .inr ht)).bind λ_ _=>(qmf (S:=λ_=>False)).bind λu hu=>hset rfl rfl (hu.mono λ_ h=>h.elim)
 |fad d x off=>
  simp only [exec];refine (vrv λt ht=>hR t ht).bind λv hv=> ?_;by_cases hp:pS a x=true
  ·exact (qj5 (hv.2 (vkx.2 hp)) hv.1 λi hi=>hD i (vb1.1 hi)).bind λu hu=>hsetP rfl (self hu.1) λ_=>hu.2
  ·exact (qfm hv.1 λi hi=>hD i (vb1.1 hi)).bind λu hu=>hsetP rfl (self hu) λh=>(hp h).elim
 |fld d x off w=>
  simp only [exec];refine (vci λt ht=>hR t ht).bind λv hv=> ?_;split
  ·exact (vfv _).bind λu hu=>hset rfl rfl (self (vvo hv hu))
  ·exact FR.fail
 |iad d e m x i=>
  simp only [exec];refine (vci λt ht=>hR t (by simp only [VOp.uses,Aa];exact .inl ht)).bind λv hv=>(vci λt ht=>hR t (by simp only [VOp.uses,Aa];exact .inr ht)).bind λu _=> ?_;split
  ·exact (qgh hv λi hi=>hD i (vb1.1 hi)).bind λu hu=>hset rfl rfl (self hu)
  ·exact FR.fail
 |ix d x i=>
  simp only [exec];refine (vci λt ht=>hR t (by simp only [VOp.uses,Aa];exact .inl ht)).bind λv hv=>(vci λt ht=>hR t (by simp only [VOp.uses,Aa];exact .inr ht)).bind λu _=> ?_;split
  ·exact (vfv _).bind λu hu=>hset rfl rfl trivial
  ·exact FR.fail
 |len d x=>exact (vci λt ht=>hR t ht).bind λv hv=>(vo2 hv λi hi=>hD i (vb1.1 hi)).bind λ_ _=>hset rfl rfl trivial
 |slen d x=>
  simp only [exec];refine (vci λt ht=>hR t ht).bind λu _=> ?_;split
  ·exact hset rfl rfl trivial
  ·exact FR.fail
 |mmx d isMax xs=>
  simp only [exec];refine (vmr λt ht=>hR t ht).bind λu _=> ?_;split
  ·exact (vfv _).bind λr _=>hset rfl rfl trivial
  ·exact FR.fail
 |app d e bytes mv x y=>
  simp only [exec];refine (vci λt ht=>hR t (by simp only [VOp.uses,Aa];exact .inl ht)).bind λu hu=>(vci λt ht=>hR t (by simp only [VOp.uses,Aa];exact .inr ht)).bind λv hv=> ?_;refine (qgc (Z:=λi=>rep nx i∈[nx+100 * j]) hu hv (λi hi=>hD i (Aa.2 (.inl (vb1.1 hi)))) (λi hi=>hV i ?_) (λi hi=>hD i (Aa.2 (.inr (vb1.1 hi)))) (λhm i hi=>hV i ?_) (λi hi=> ?_) (hV _ (by simp [fp,hb])) (by simp [hb])).bind λw hw=>hset rfl rfl hw
  ·simp only [fp,Ak,Aa];exact .inr (.inl (vb1.1 hi))
  ·simp only [fp,Ak,Aa,hm,if_true];exact .inr (.inr (vb1.1 hi))
  ·have e50:rep nx (nx+100 * j+50)=nx+100 * j:=vk3 zo zo;show rep nx (nx+100 * j+50)∈tget a.nd (rep nx i);rw [e50];exact hmay _ _ (by simp only [fp,Ak,Aa];exact .inr (.inl (vb1.1 hi))) (by simp [fp])
 |ext d x i=>
  simp only [exec];refine (vci λt ht=>hR t ht).bind λv hv=> ?_;split
  ·exact (vfv _).bind λu hu=>hset rfl rfl (self (vbm hv hu))
  ·exact FR.fail
 |call d f xs=>
  simp only [exec];obtain ⟨s,w,ok,e,hc1,hs,hw⟩:∃s w ok,fp Φ a (nx+100 * j) (.call d f xs)=⟨s,(nx+100 * j)::w,[nx+100 * j],[nx+100 * j],ok⟩/\(ok=true->closedB a.nd s=true/\closedB a.nd w=true/\subB w s=true)/\(∀i∈opsA a xs,i∈s)/\
    ∀i∈mutA a (match Φ f with|some c=>c.modes|none=> []) xs,i∈w:=⟨_,_,_,rfl,λh=>by simp only [Ag] at h;exact ⟨h.1.1,h.1.2,h.2⟩,λi hi=>vkz 8 hi,λi hi=>vkz 8 hi⟩
  rw [e] at hok hD hV hmay hput;obtain ⟨h1,h2,h3⟩:=hc1 hok;refine (vmr λt ht=>hR t ht).bind λvs hvs=> ?_;have hown:∀i,nx+100 * j<=i->i<nx+100 * j+100->rep nx i=nx+100 * j:=λi h1 h2=>vk3 h1 h2
  refine (vwa (S:=λi=>rep nx i∈s) (Sm:=λi=>rep nx i∈w) (B:=λi=>rep nx i=nx+100 * j)
   ⟨λi k1 k2=>hV i (by simp [hown i k1 k2]),hown,λi k1 k k2=> ?_⟩ (λi hi=>hD i hi) (λi hi k hk=>vkd h1 _ hi _ hk) (λi hi=>hD i (vpm h3 _ hi)) (λi hi=>hV i (Ae _ hi)) (λi hi k hk=>vkd h2 _ hi _ hk) (λi hi k hk=> ?_)
   (hvs.ids λy hy i hi=>hs _ (vph hy (vb1.1 hi))) λc hc=> ?_).bind λu hu=>hput rfl (hu.mono λi hi=>by simp [hi])
  ·show rep nx k∈tget a.nd (rep nx i);rw [k1,k2];exact hmay _ _ (by simp) (by simp)
  ·show rep nx k∈tget a.nd (rep nx i);rw [hk];exact hmay _ _ (Ae _ hi) (by simp)
  ·rw [hc] at hw;exact vl7 _ (λi hi=>hw _ hi) (vqm c.modes hvs)
 |cala d f xs=>exact absurd hok (by simp [fp])
 |clr e z x=>exact absurd hok (by simp [fp])
 |cali d t f x xs=>
  simp only [exec];obtain ⟨s,w,ok,e,hc1,hs,hw⟩:∃s w ok,fp Φ a (nx+100 * j) (.cali d t f x xs)=⟨s,(nx+100 * j)::w,[nx+100 * j],[nx+100 * j],ok⟩/\(ok=true->closedB a.nd s=true/\closedB a.nd w=true/\subB w s=true)/\(∀i∈opA a x++opsA a xs,i∈s)/\
    ∀i∈mutA a (match Φ f with|some c=>c.modes|none=> []) (x::xs),i∈w:=⟨_,_,_,rfl,λh=>by simp only [Ag] at h;exact ⟨h.1.1,h.1.2,h.2⟩,λi hi=>vkz 8 hi,λi hi=>vkz 8 hi⟩
  rw [e] at hok hD hV hmay hput;obtain ⟨h1,h2,h3⟩:=hc1 hok;refine (vci λt ht=>hR t (by simp only [VOp.uses,Aa];exact .inl ht)).bind λg hg=> ?_;have hown:∀i,nx+100 * j<=i->i<nx+100 * j+100->rep nx i=nx+100 * j:=λi h1 h2=>vk3 h1 h2;split
  ·rename_i t' v;split
   ·refine (vmr λt ht=>hR t (by simp only [VOp.uses,Aa];exact .inr ht)).bind λvs hvs=> ?_;have hvs':allS (names nx a) (x::xs) (v::vs):=⟨hg,hvs⟩
    have hall:vap (λi=>rep nx i∈s) (v::vs):=by
     have k1:=hvs.ids (S:=λi=>rep nx i∈s) λy hy i hi=>hs _ (Aa.2 (.inr (vph hy (vb1.1 hi))));have k2:=hg.mono (U':=λi=>rep nx i∈s) λi hi=>hs _ (Aa.2 (.inl (vb1.1 hi)));exact ⟨k2,k1⟩
    refine (vwa (S:=λi=>rep nx i∈s) (Sm:=λi=>rep nx i∈w) (B:=λi=>rep nx i=nx+100 * j)
     ⟨λi k1 k2=>hV i (by simp [hown i k1 k2]),hown,λi k1 k k2=> ?_⟩ (λi hi=>hD i hi) (λi hi k hk=>vkd h1 _ hi _ hk) (λi hi=>hD i (vpm h3 _ hi)) (λi hi=>hV i (Ae _ hi)) (λi hi k hk=>vkd h2 _ hi _ hk) (λi hi k hk=> ?_)
     hall λc hc=> ?_).bind λu hu=>hput rfl (hu.mono λi hi=>by simp [hi])
    ·show rep nx k∈tget a.nd (rep nx i);rw [k1,k2];exact hmay _ _ (by simp) (by simp)
    ·show rep nx k∈tget a.nd (rep nx i);rw [hk];exact hmay _ _ (Ae _ hi) (by simp)
    ·rw [hc] at hw;exact vl7 _ (λi hi=>hw _ hi) (vqm c.modes hvs')
   ·exact FR.fail
  ·exact FR.fail
 |calv d f xs=>
  simp only [exec];obtain ⟨s,ok,e,hc1,hs⟩:∃s ok,fp Φ a (nx+100 * j) (.calv d f xs)=⟨s,(nx+100 * j)::s,[nx+100 * j],[nx+100 * j],ok⟩/\(ok=true->closedB a.nd s=true)/\(∀i∈opA a f++opsA a xs,i∈s):=⟨_,_,rfl,λh=>h,λi hi=>vkz 8 hi⟩
  rw [e] at hok hD hV hmay hput;have h1:=hc1 hok;refine (vci λt ht=>hR t (by simp only [VOp.uses,Aa];exact .inl ht)).bind λg hg=> ?_;have hown:∀i,nx+100 * j<=i->i<nx+100 * j+100->rep nx i=nx+100 * j:=λi h1 h2=>vk3 h1 h2;split
  ·rename_i g fs cs;refine (vmr λt ht=>hR t (by simp only [VOp.uses,Aa];exact .inr ht)).bind λvs hvs=> ?_;have hall:vap (λi=>rep nx i∈s) (fs++vs++cs):=by
    have k1:=hvs.ids (S:=λi=>rep nx i∈s) λy hy i hi=>hs _ (Aa.2 (.inr (vph hy (vb1.1 hi))));have k2:=hg.mono (U':=λi=>rep nx i∈s) λi hi=>hs _ (Aa.2 (.inl (vb1.1 hi)));refine vdc λc hc=> ?_;rcases Aa.1 hc with hc|hc
    ·rcases Aa.1 hc with hc|hc
     ·exact vco k2.1 c hc
     ·exact vco k1 c hc
    ·exact vco k2.2 c hc
   refine (vwa (S:=λi=>rep nx i∈s) (Sm:=λi=>rep nx i∈s) (B:=λi=>rep nx i=nx+100 * j)
    ⟨λi k1 k2=>hV i (by simp [hown i k1 k2]),hown,λi k1 k k2=> ?_⟩ (λi hi=>hD i hi) (λi hi k hk=>vkd h1 _ hi _ hk) (λi hi=>hD i hi) (λi hi=>hV i (Ae _ hi)) (λi hi k hk=>vkd h1 _ hi _ hk) (λi hi k hk=> ?_)
    hall λc hc=>vv2 _ hall).bind λu hu=>hput rfl (hu.mono λi hi=>by simp [hi])
   ·show rep nx k∈tget a.nd (rep nx i);rw [k1,k2];exact hmay _ _ (by simp) (by simp)
   ·show rep nx k∈tget a.nd (rep nx i);rw [hk];exact hmay _ _ (Ae _ hi) (by simp)
  ·exact FR.fail
theorem vvx (o:VOper) (hd:o.guard=none\/o.op.dst=o.dst) (hk:fpOk a o.op.dst (fp Φ a (nx+100 * j) o.op)=true) (hq:pOk a o.op=true):
  FR (names nx a) (λt=>t∈o.reads) (λt=>o.op.dst=some t) (RdF nx (fp Φ a (nx+100 * j) o.op)) (WrF nx (fp Φ a (nx+100 * j) o.op)) any (execG Φ (nx+100 * j) o):=by
 have hx:=qp1 (Φ:=Φ) (nx:=nx) (j:=j) (a:=a) o.op hk hq (R:=λt=>t∈o.reads) (W:=λt=>o.op.dst=some t) (D:=RdF nx (fp Φ a (nx+100 * j) o.op)) (V:=WrF nx (fp Φ a (nx+100 * j) o.op))
  (λt ht=>by unfold VOper.reads;exact Aa.2 (.inr ht)) (λt ht=>ht) (λi hi=>hi) (λi hi=>hi)
 unfold execG;split
 ·exact hx
 ·rename_i t want hg;have hd':o.op.dst=o.dst:=hd.resolve_left (by rw [hg];simp);have puts:FR (names nx a) (λt=>t∈o.reads) (λt=>o.op.dst=some t) (RdF nx (fp Φ a (nx+100 * j) o.op)) (WrF nx (fp Φ a (nx+100 * j) o.op)) any (putO o.dst TV.none):=by
   rw [<-hd'];cases hdd:o.op.dst with
   |none=>exact FR.pure trivial
   |some d=>exact qeg rfl trivial λ_=>rfl
  refine (qdl (by unfold VOper.reads;rw [hg];simp)).bind λu _=> ?_;split
  ·split
   ·exact hx
   ·exact puts
  ·exact puts
  ·exact FR.fail
end
theorem qrq {x:Names} {R1 W1 D1 V1 R2 W2 D2 V2:Nat->Prop} {α β:Type} {m1:M α} {m2:M β} (h1:FR x R1 W1 D1 V1 any m1) (h2:FR x R2 W2 D2 V2 any m2) (hs1:∀t,W1 t->¬R2 t/\¬W2 t) (hs2:∀t,W2 t->¬R1 t)
  (hn1:∀i,V1 i->¬D2 i/\¬V2 i) (hn2:∀i,V2 i->¬D1 i) {st s1 s2:St} (hi:NInv x st) {u:α} {v:β} (hr1:m1.run st=some (u,s1)) (hr2:m2.run s1=some (v,s2)):
  ∃s1' s2',m2.run st=some (v,s1')/\m1.run s1'=some (u,s2')/\Same s2' s2:=by
 obtain ⟨_,i1,ds1,dn1,rfl,w1,n1,k1⟩:=h1 st hi _ _ hr1;obtain ⟨_,i2,ds2,dn2,rfl,w2,n2,k2⟩:=h2 _ i1 _ _ hr2;have no1:∀t,R2 t->look ds1 t=none:=λt ht=>vc0 λz hz e=>(hs1 z.1 (w1 z hz)).1 (e▸ht);have nn1:∀i,D2 i->look dn1 i=none:=λi hi=>vc0 λz hz e=>(hn1 z.1 (n1 z hz)).1 (e▸hi);have no2:∀t,R1 t->look ds2 t=none:=λt ht=>vc0 λz hz e=>hs2 z.1 (w2 z hz) (e▸ht);have nn2:∀i,D1 i->look dn2 i=none:=λi hi=>vc0 λz hz e=>hn2 z.1 (n2 z hz) (e▸hi);have e1:m2.run st=some (v,⟨ds2++st.slots,dn2++st.nodes,st.next⟩):=k2 st (λt ht=>by rw [vmz,no1 t ht];simp [St.slot]) λi hi=>by rw [vmu,nn1 i hi];simp [St.node]
 have e2:=k1 ⟨ds2++st.slots,dn2++st.nodes,st.next⟩ (λt ht=>by rw [vmz,no2 t ht];simp [St.slot]) (λi hi=>by rw [vmu,nn2 i hi];simp [St.node]);refine ⟨_,_,e1,e2,λt=> ?_,λi=> ?_⟩
 ·simp only [St.slot,vd3];by_cases hw:W1 t
  ·have:look ds2 t=none:=vc0 λz hz e=>(hs1 t hw).2 (e▸w2 z hz);rw [this];simp
  ·have:look ds1 t=none:=vc0 λz hz e=>hw (e▸w1 z hz);rw [this];simp
 ·simp only [St.node,vd3];by_cases hw:V1 i
  ·have:look dn2 i=none:=vc0 λz hz e=>(hn1 i hw).2 (e▸n2 z hz);rw [this];simp
  ·have:look dn1 i=none:=vc0 λz hz e=>hw (e▸n1 z hz);rw [this];simp
theorem vtn {xs ys:List Nat} (h:meet xs ys=false):∀i∈xs,i∉ys:=by
 intro i hi hy;have:meet xs ys=true:=List.any_eq_true.2 ⟨i,hi,by simpa using hy⟩;rw [h] at this;cases this
mutual
theorem vz8 {S:Nat->Prop}:∀(v:TV),(∀i∈ids v,S i)->idsIn S v
 | .a _,_=>trivial
 | .nl _,_=>trivial
 | .rf id,h=>h id (by simp [ids])
 | .ri id ver p,h=>by
  by_cases hv:ver=0
  ·exact ⟨h id (by simp [ids,hv]),.inl hv⟩
  ·exact ⟨h id (by simp [ids,hv]),.inr (h _ (by simp [ids,hv]))⟩
 | .sb id _ _,h=>h id (by simp [ids])
 | .ad id _,h=>h id (by simp [ids])
 | .ea id _ _ _,h=>h id (by simp [ids])
 | .ei id ver p i m o,h=>by
  by_cases hv:ver=0
  ·exact ⟨h id (by simp [ids,hv]),.inl hv⟩
  ·exact ⟨h id (by simp [ids,hv]),.inr (h _ (by simp [ids,hv]))⟩
 | .sz _ _,_=>trivial
 | .ez _ _,_=>trivial
 | .st cs,h=>vol cs λi hi=>h i (by simpa [ids] using hi)
 | .tp cs,h=>vol cs λi hi=>h i (by simpa [ids] using hi)
 | .fn _ fs cs,h=>⟨vol fs λi hi=>h i (by simp [ids,hi]),vol cs λi hi=>h i (by simp [ids,hi])⟩
 | .ic _ v,h=>vz8 v λi hi=>h i (by simpa [ids] using hi)
 | .un,_=>trivial
theorem vol {S:Nat->Prop}:∀(vs:List TV),(∀i∈idsL vs,S i)->vap S vs
 | [],_=>trivial
 |v::vs,h=>⟨vz8 v λi hi=>h i (by simp [idsL,hi]),vol vs λi hi=>h i (by simp [idsL,hi])⟩
end
theorem vvp {α:Type}:∀{l:List (Nat×α)} {k:Nat} {v:α},look l k=some v->(k,v)∈l
 |(j,u)::r,k,v,h=>by
  unfold look at h;split at h
  ·rename_i e;cases h;subst e;simp
  ·exact Ae _ (vvp h)
theorem qdd {a:Tab} {s:St} (h:startOk a s=true):NInv (names s.next a) s:=by
 simp only [startOk,Ag,Af] at h;obtain ⟨⟨h1,h2⟩,h3⟩:=h;refine ⟨λt=> ?_,λid m hm=> ?_,λt ht=>h3 t ht⟩
 ·cases hl:look s.slots t with
  |none=>simp only [St.slot,hl,Bg];trivial
  |some v=>
   have:=Af.1 (h1 (t,v) (vvp hl));exact vz8 _ λi hi=>by simpa [names] using this i hi
 ·cases hl:look s.nodes id with
  |none=>simp only [St.node,hl,Bg] at hm;cases hm
  |some n=>
   have:=Af.1 (h2 (id,n) (vvp hl));simp only at this;rw [hm] at this;cases m with
   |bx z cs=>exact vol _ λi hi=>by simpa [names] using this i (by simpa [idsN] using hi)
   |sl q ver e es=>
    by_cases hv:ver=0
    ·exact .inl hv
    ·exact .inr (by simpa [names] using this (ver-1) (by simp [idsN,hv]))
theorem vjs {Φ:Nat->Option Callee} {a:Tab}:∀{os:List VOper} {b:Nat},flowOk Φ a b os=true->∀{j:Nat} {o:VOper},os[j]? =some o->fpOk a o.op.dst (fp Φ a (b+100 * j) o.op)=true/\pOk a o.op=true
 |o::os,b,h,0,o',hj=>by
  simp only [Ar,At] at hj;subst hj;simp only [flowOk,Ag] at h;simpa [VOp.dst] using h.1
 |o::os,b,h,j+1,o',hj=>by
  simp only [flowOk,Ag] at h;have:=vjs h.2 (j:=j) (by simpa using hj);rw [show b+100 * (j+1)=b+100+100 * j by omega];exact this
theorem vx4 {Φ:Nat->Option Callee} {a:Tab}:∀{os:List VOper} {b j:Nat} {o:VOper},os[j]? =some o->(fps Φ a b os)[j]? =some (fp Φ a (b+100 * j) o.op)
 |o::os,b,0,o',hj=>by
  simp only [Ar,At] at hj;subst hj;simp [fps]
 |o::os,b,j+1,o',hj=>by
  rw [show b+100 * (j+1)=b+100+100 * j by omega];simpa [fps] using vx4 (Φ:=Φ) (a:=a) (os:=os) (b:=b+100) (j:=j) (by simpa using hj)
structure Draws (Φ:Nat->Option Callee) (ps:List (Nat×Nat)) (os:List VOper) (b0:Nat) (J:St->Prop):Prop where
 step:∀i v,os[i]? =some v->(v.guard=none\/v.op.dst=v.dst)->∀s u s1,J s->(execG Φ (b0+100 * i) v).run s=some (u,s1)->J s1
 swap:∀i j,(i,j)∈ps->∀v w,os[i]? =some v->os[j]? =some w->(v.guard=none\/v.op.dst=v.dst)->(w.guard=none\/w.op.dst=w.dst)->(∀t,v.op.dst=some t->¬t∈w.reads/\¬w.op.dst=some t)->(∀t,w.op.dst=some t->¬t∈v.reads)->
  ∀s s1 s2 u1 u2,J s->(execG Φ (b0+100 * i) v).run s=some (u1,s1)->(execG Φ (b0+100 * j) w).run s1=some (u2,s2)->∃s1' s2',(execG Φ (b0+100 * j) w).run s=some (u2,s1')/\(execG Φ (b0+100 * i) v).run s1'=some (u1,s2')/\Same s2' s2
theorem qjy {Φ:Nat->Option Callee} {ps:List (Nat×Nat)} {os:List VOper} {s:St} (h:okD Φ ps os s=true):∃J:St->Prop,J s/\Draws Φ ps os s.next J:=by
 unfold okD okT at h;generalize flow Φ s.next os (flow Φ s.next os (tab0 s))=a at h
 simp only [Ag] at h;obtain ⟨⟨h1,h2⟩,h3⟩:=h;refine ⟨NInv (names s.next a),qdd h1,⟨λi v hv hg t u t1 hi hr=> ?_,λi j hp v w hv hw hgv hgw a1 a2 t s1 s2 u1 u2 hi hr1 hr2=> ?_⟩⟩
 ·exact (vvx v hg (vjs h2 hv).1 (vjs h2 hv).2 t hi u t1 hr).2.1
 ·have hp:=Af.1 h3 _ hp;simp only [vx4 hv,vx4 hw,fpApart,Ag,Az] at hp;obtain ⟨⟨p1,p2⟩,p3⟩:=hp;exact qrq (vvx v hgv (vjs h2 hv).1 (vjs h2 hv).2) (vvx w hgw (vjs h2 hw).1 (vjs h2 hw).2) a1 a2 (λk hk=>⟨vtn p1 _ hk,vtn p2 _ hk⟩) (λk hk=>vtn p3 _ hk) hi hr1 hr2
end Go.Proofs.YtpgkmggaifgjkaaGreatDoor.VM
namespace Go.Proofs.YtpgkmggaifgjkaaGreatDoor.VM
open Go
variable {cx:Cx} {U:Nat->Prop} {ρ:Nat->Value} {F:Nat->vaj} {st:St} {a:Act} {w:World} {Φ:Nat->Option Callee}
theorem Same.refl (st:St):Same st st:=⟨λ_=>rfl,λ_=>rfl⟩
theorem Same.symm {s s':St} (h:Same s s'):Same s' s:=⟨λt=>(h.slot t).symm,λi=>(h.node i).symm⟩
theorem Same.trans {s s1 s2:St} (h:Same s s1) (h':Same s1 s2):Same s s2:=⟨λt=>(h.slot t).trans (h'.slot t),λi=>(h.node i).trans (h'.node i)⟩
theorem vot {α:Type}:∀(m:M α) {s s':St} (_:Same s s') {x:α} {r:St},m.run s=some (x,r)->∃r',m.run s'=some (x,r')/\Same r r'
 | .pure y,s,s',h,x,r,hr=>by
  cases run_pure hr;exact ⟨s',rfl,h⟩
 | .fail,s,s',h,x,r,hr=>(vac hr).elim
 | .getS t k,s,s',h,x,r,hr=>by
  simp only [M.run] at hr⊢;rw [<-h.slot t];exact vot (k _) h hr
 | .setS t v k,s,s',h,x,r,hr=>by
  simp only [M.run] at hr⊢;exact vot k (s:={s with slots:=(t,v)::s.slots}) (s':={s' with slots:=(t,v)::s'.slots}) ⟨λt'=>by rw [vkl,vkl,h.slot],h.node⟩ hr
 | .getN id k,s,s',h,x,r,hr=>by
  simp only [M.run] at hr⊢;rw [<-h.node id];exact vot (k _) h hr
 | .setN id n k,s,s',h,x,r,hr=>by
  simp only [M.run] at hr⊢;exact vot k (s:={s with nodes:=(id,n)::s.nodes}) (s':={s' with nodes:=(id,n)::s'.nodes}) ⟨h.slot,λi=>by rw [vgd,vgd,h.node]⟩ hr
theorem Same.shape {s s':St} (h:Same s s'):vah s=vah s':=by
 funext id;simp only [vah,h.node id]
theorem G.same {X:vaj} {s s':St} (h:G cx U X ρ F s a w) (e:Same s s'):G cx U X ρ F s' a w where
 slots:=λt=>by have:=h.slots t;rwa [e.slot t,e.shape] at this
 ids:=λt=>by have:=h.ids t;rwa [e.slot t] at this
 nodes:=λid n hn=>by have:=h.nodes id n (by rw [e.node id];exact hn);rwa [e.shape] at this
 used:=λid n hn=>h.used id n (by rw [e.node id];exact hn)
 apart:=λi j hij h1 h2=>h.apart i j hij (by rw [e.node i];exact h1) (by rw [e.node j];exact h2)
 apartX:=λi h1=>h.apartX i (by rw [e.node i];exact h1)
 mine:=λi h1=>h.mine i (by rw [e.node i];exact h1)
 mineX:=h.mineX
 one:=h.one
 kept:=h.kept
 zold:=h.zold
 size:=h.size
 small:=h.small
 defers:=h.defers
theorem Qok.same {s s':St} (h:Qok s) (e:Same s s'):Qok s':=λid ver ee es hn=>h id ver ee es (by rw [e.node id];exact hn)
structure Good (P:Program) (writes:Nat->Bool) (Φ:Nat->Option Callee):Prop where
 sound:∀f c,Φ f=some c->Sound P f c
 still:∀f c,Φ f=some c->writes f=false->Still c
 fresh:∀f c,Φ f=some c->writes (f+1000000)=false->AllRo c.modes
theorem Good.nofz {P:Program} {writes:Nat->Bool} (h:Good P writes Φ):∀f,Nofz (Φ f):=by
 intro f c hc hk;exact (h.sound f c hc).nofz hk
theorem qmx {P:Program} {ops:Array Oper} {o:Oper} {v:VOp} (h:cOp1 P ops o=some v):v.dst=o.dst:=by
 unfold cOp1 at h
 repeat' split at h
 all_goals first
  |(cases h;done)
  |(obtain ⟨_,_,rfl⟩:=A3.1 h;simp only [VOp.dst,dstO];first|rfl|(symm;assumption)|done)
  |(cases h;rfl)
  |(cases h;simp only [VOp.dst,dstO];first|done|rfl|(symm;assumption))
theorem qdo {P:Program} {ops:Array Oper} {o:Oper} {v:VOp} (h:cOp P ops o=some v):v.dst=o.dst:=by
 unfold cOp at h;cases h1:cOp1 P ops o with
 |none=>rw [h1] at h;cases h;rfl
 |some x=>rw [h1] at h;cases h;exact qmx h1
theorem vmi {P:Program} {ops:Array Oper} {o:Oper} {v:VOper} (h:cOper P ops o=some v):
  cOp P ops o=some v.op/\((o.guard=none/\v.guard=none)\/∃j b t,o.guard=some (j,b)/\(ops[j]?).bind (·.dst)=some t/\v.guard=some (t,b)/\v.dst=o.dst):=by
 unfold cOper at h;split at h
 ·cases h
 ·rename_i x hx;split at h
  ·cases h;rename_i hg;exact ⟨hx,.inl ⟨hg,rfl⟩⟩
  ·rename_i j b hg;split at h
   ·rename_i t ht;cases h;exact ⟨hx,.inr ⟨j,b,t,hg,ht,rfl,rfl⟩⟩
   ·cases h
theorem qcd {t:Nat} (ht:t<10000) (h:G cx U (λ_ _=>False) ρ F st a w) {v:Value} (hs:st.slot t= .a v):a.tmps.getD t undef=v:=by
 have:=vq4 h ht;rw [hs] at this;cases this;rfl
theorem vx9 {writes:Nat->Bool} (hΦ:Good cx.P writes Φ) (h:G cx U (λ_ _=>False) ρ F st a w) (hq:Qok st) {b:Nat} (hb:∀i,b<=i->i<b+100->¬U i) {ops:Array Oper} {i:Nat} {o:Oper} {v:VOper}
  (hi:ops[i]? =some o) (hc:cOper cx.P ops o=some v) (hd:∀d,o.dst=some d->d<cx.n) (hg:∀t b,v.guard=some (t,b)->t<cx.n) {s1:St} (hr:(execG Φ b v).run st=some ((),s1))
  {Q:Exit->Act->World->Prop} {K:Act->World->Prop} (hK:∀a w,Rel cx (Win U b) s1 a w->K a w):wpOp cx.P ops Q i K a w:=by
 unfold wpOp;rw [hi];simp only;obtain ⟨hop,hgd⟩:=vmi hc;rcases hgd with ⟨g1,g2⟩|⟨j,want,t,g1,g2,g3,g4⟩
 ·rw [if_pos (by simp [Region.wanted,g1])];refine .inl ?_;unfold execG at hr;rw [g2] at hr;exact (qho hΦ.sound h hq hb hop hd hr).wp hK
 ·have htn:t<cx.n:=hg t want g3;have ht:t<10000:=Al htn h.small;unfold execG at hr;rw [g3] at hr;simp only at hr;obtain ⟨u,s2,h1,h2⟩:=vaa hr;cases vjy h1;have htm:∀v,st.slot t= .a v->a.tmps[t]? =some v:=by
   intro v hv;have:=qcd ht h hv;rw [Ad] at this;have hlt:t<a.tmps.size:=by rw [h.size];exact htn
   rw [Ac hlt] at this⊢;simpa using this
  have hw:Region.wanted o (yielded ops a.tmps)=(yielded ops a.tmps j==some want):=by simp [Region.wanted,g1]
  have skip:(putO v.dst TV.none).run st=some ((),s1)->K (a.put o.dst undef) w:=by
   intro hp;rw [g4] at hp;refine hK _ _ ?_;cases hdst:o.dst with
   |none=>
    rw [hdst] at hp;cases run_pure hp;exact ⟨ρ,F,h.more λ_ h=> .inl h⟩
   |some d=>
    rw [hdst] at hp;cases vbd hp;exact (h.rel_put (hd d hdst) (.a _) trivial).more λ_ h=> .inl h
  split at h2
  ·rename_i g hs;have hy:yielded ops a.tmps j=some g:=by simp [yielded,g2,htm _ hs]
   split at h2
   ·rename_i hgw;subst hgw;rw [if_pos (by rw [hw,hy];simp)];exact .inl ((qho hΦ.sound h hq hb hop hd h2).wp hK)
   ·rename_i hgw;rw [if_neg (by rw [hw,hy];simpa using hgw)];exact skip h2
  ·rename_i g hs;have hy:yielded ops a.tmps j=none:=by simp [yielded,g2,htm _ hs]
   rw [if_neg (by rw [hw,hy];simp)];exact skip h2
  ·exact (vac h2).elim
def runL (Φ:Nat->Option Callee):List (Nat×VOper)->St->Option St
 | [],s=>some s
 |(b,o)::r,s=>match (execG Φ b o).run s with
  |some (_,s')=>runL Φ r s'
  |none=>none
def numbered:Nat->List VOper->List (Nat×VOper)
 |_,[]=> []
 |b,o::os=>(b,o)::numbered (b+100) os
theorem qbf:∀(os:List VOper) (b:Nat) (s:St),execs Φ b os s=runL Φ (numbered b os) s
 | [],b,s=>rfl
 |o::os,b,s=>by
  simp only [execs,numbered,runL];cases (execG Φ b o).run s with
  |none=>rfl
  |some r=>exact qbf os _ _
theorem vy6:∀(l:List (Nat×VOper)) {s s':St} (_:Same s s') {r:St},runL Φ l s=some r->∃r',runL Φ l s'=some r'/\Same r r'
 | [],s,s',h,r,hr=>by cases hr;exact ⟨s',rfl,h⟩
 |(b,o)::l,s,s',h,r,hr=>by
  simp only [runL] at hr⊢;split at hr
  ·rename_i u s1 h1;obtain ⟨s1',h2,h3⟩:=vot _ h h1;rw [h2];exact vy6 l h3 hr
  ·cases hr
theorem qfe {writes:Nat->Bool} {P:Program} (hΦ:Good P writes Φ) {x y:VOper} (hdx:x.guard=none\/x.op.dst=x.dst) (hdy:y.guard=none\/y.op.dst=y.dst) (h:apartOps writes x y=true) {bx bY:Nat} {s s1 s2:St}
  (hU:Clean (λ_=>True) U s) (hbx:∀i,ownR bx i->¬U i) (hbY:∀i,ownR bY i->¬U i) (hbb:∀i,ownR bx i->¬ownR bY i)
  (h1:(execG Φ bx x).run s=some ((),s1)) (h2:(execG Φ bY y).run s1=some ((),s2)):∃s1' s2',(execG Φ bY y).run s=some ((),s1')/\(execG Φ bx x).run s1'=some ((),s2')/\Same s2' s2:=by
 simp only [apartOps,Ag,Bj,Af,Az,Bool.and_eq_false_iff,Be,A5,decide_eq_false_iff_not,beq_eq_false_iff_ne,bne_eq_false_iff_eq] at h;obtain ⟨⟨h3,h4⟩,h5⟩:=h;have a1:∀t,x.op.dst=some t->¬t∈y.reads/\¬y.op.dst=some t:=λt ht=>by
  obtain ⟨k1,k2⟩:=h3 t ht;exact ⟨k1,λhh=>k2 hh⟩
 have a2:∀t,y.op.dst=some t->¬t∈x.reads:=λt ht hr=>h4 t ht hr;rcases h5 with ⟨h5,h6⟩|⟨hx,hy⟩
 ·refine qmo (qdw hΦ.still bx x hdx) (qdw hΦ.still bY y hdy) a1 a2 (λhw=> ?_) (λhw hr=> ?_) h1 h2
  ·rcases h5 with h5|h5
   ·exact absurd hw h5
   ·rw [h5];exact ⟨zo,zo⟩
  ·rcases h6 with h6|h6
   ·exact absurd hw h6
   ·rw [h6] at hr;omega
 ·exact qhg (vw8 hΦ.fresh bx x hx hdx) (vw8 hΦ.fresh bY y hy hdy) a1 a2 hbx hbY hbb ⟨λt _=>hU.slots t trivial,hU.nodes⟩ ⟨λt _=>hU.slots t trivial,hU.nodes⟩ h1 h2
theorem qqv {P:Program} {ops:Array Oper} {i:Nat} {o:Oper} (hi:ops[i]? =some o) {K:Act->World->Prop} {a:Act} {w:World} (h:wpOp P ops (λ_ _ _=>False) i K a w):∃a' w',K a' w':=by
 unfold wpOp at h;rw [hi] at h;simp only at h;split at h
 ·rcases h with h|⟨_,_,_,h⟩
  ·unfold Oper.wp at h;generalize (execOp a.eval o).run P w=r at h;cases r with
   |ok n w'=>
    cases n with
    |value v=>exact ⟨_,_,h⟩
    |skip=>exact ⟨_,_,h⟩
    |defer d=>exact ⟨_,_,h⟩
    |enter f args=>
     obtain ⟨e,w'',fr,hR,_⟩:=h [];cases e with
     |returned v=>exact ⟨_,_,hR⟩
     |panicked c=>exact hR.elim
     |outgrown=>obtain ⟨_,_,hh⟩:=hR;exact hh.elim
    |row r args=>
     obtain ⟨v,w'',hR,_⟩:=h (Frame.enter P 0 #[] .normal) [];exact ⟨_,_,hR⟩
    |_=>exact False.elim h
   |halt s w'=>cases s<;>exact False.elim h
  ·exact h.elim
 ·exact ⟨_,_,h⟩
theorem qfl {writes:Nat->Bool} (hΦ:Good cx.P writes Φ) (h:Rel cx U st a w) (hq:Qok st) {b:Nat} (hb:∀i,b<=i->i<b+100->¬U i) {ops:Array Oper} {i:Nat} {o:Oper} {v:VOper}
  (hi:ops[i]? =some o) (hc:cOper cx.P ops o=some v) (hd:∀d,o.dst=some d->d<cx.n) (hg:∀t b,v.guard=some (t,b)->t<cx.n) {s1:St} (hr:(execG Φ b v).run st=some ((),s1)):∃a' w',Rel cx (Win U b) s1 a' w':=by
 obtain ⟨ρ,F,hG⟩:=h;exact qqv hi (vx9 (K:=Rel cx (Win U b) s1) (Q:=λ_ _ _=>False) hΦ hG hq hb hi hc hd hg hr λa w h=>h)
theorem Rel.clean {R:Nat->Prop} (h:Rel cx U st a w):Clean R U st:=by
 obtain ⟨ρ,F,hG⟩:=h;exact ⟨λt _=>hG.ids t,λid n _ hn=>(hG.used id n hn).2⟩
theorem vuh (acc:Array Nat) (i:Nat):∀(es:List Edge) (s:Nat),(es.foldl (λs e=>if Region.binds .any e then s|||2^e.on|||acc.getD e.on 0 else s) s).testBit i=true->
  s.testBit i=true\/∃e∈es,Region.binds .any e=true/\(e.on=i\/(acc.getD e.on 0).testBit i=true)
 | [],s,h=> .inl h
 |e::es,s,h=>by
  simp only [Bl] at h;rcases vuh acc i es _ h with h|⟨e',h1,h2⟩
  ·split at h
   ·rename_i hb;simp only [Nat.testBit_or,Bj,Nat.testBit_two_pow,decide_eq_true_eq] at h;rcases h with (h|h)|h
    ·exact .inl h
    ·exact .inr ⟨e,by simp,hb,.inl h⟩
    ·exact .inr ⟨e,by simp,hb,.inr h⟩
   ·exact .inl h
  ·exact .inr ⟨e',by simp [h1],h2⟩
theorem vqw (ops:Array Oper):(Region.before ops).size=ops.size/\∀(j i:Nat) (o:Oper),ops[j]? =some o->((Region.before ops).getD j 0).testBit i=true->
  ∃e∈o.after,Region.binds .any e=true/\(e.on=i\/(e.on<j/\((Region.before ops).getD e.on 0).testBit i=true)):=by
 have key:∀(l:List Oper) (acc:Array Nat) (done:List Oper),acc.size=done.length->(∀(j i:Nat) (o:Oper),done[j]? =some o->(acc.getD j 0).testBit i=true->
   ∃e∈o.after,Region.binds .any e=true/\(e.on=i\/(e.on<j/\(acc.getD e.on 0).testBit i=true)))->
   let r:=l.foldl (λacc (o:Oper)=>acc.push (o.after.foldl (λs e=>if Region.binds .any e then s|||2^e.on|||acc.getD e.on 0 else s) 0)) acc
   r.size=(done++l).length/\∀(j i:Nat) (o:Oper),(done++l)[j]? =some o->(r.getD j 0).testBit i=true->
   ∃e∈o.after,Region.binds .any e=true/\(e.on=i\/(e.on<j/\(r.getD e.on 0).testBit i=true)):=by
  intro l;induction l with
  |nil=>
   intro acc done hs hacc;simp only [List.foldl_nil,List.append_nil];exact ⟨hs,hacc⟩
  |cons o l ih=>
   intro acc done hs hacc;simp only [Bl];have hpush:∀(x k:Nat),k<done.length->(acc.push x).getD k 0=acc.getD k 0:=by
    intro x k hk;simp only [Ad];rw [Array.getElem?_push_lt zo];rw [Ac zo]
   have:=ih (acc.push (o.after.foldl (λs e=>if Region.binds .any e then s|||2^e.on|||acc.getD e.on 0 else s) 0)) (done++ [o]) (by simp [hs]) ?_
   ·simpa using this
   ·intro j i o' hj hb;rcases Nat.lt_trichotomy j done.length with hlt|heq|hgt
    ·rw [List.getElem?_append_left hlt] at hj;rw [hpush _ _ hlt] at hb;obtain ⟨e,h1,h2,h3⟩:=hacc j i o' hj hb;refine ⟨e,h1,h2,h3.imp id λh=>⟨h.1,?_⟩⟩;rw [hpush _ _ zo];exact h.2
    ·subst heq;simp only [List.getElem?_concat_length,At] at hj;subst hj;rw [Ad,<-hs,Array.getElem?_push_size,A0,<-Bb] at hb;rcases vuh acc i _ 0 hb with h|⟨e,h1,h2,h3⟩
     ·simp at h
     ·refine ⟨e,by simpa using h1,h2,h3.imp id λh=> ?_⟩;have hlt:e.on<done.length:=by
       apply Nat.lt_of_not_le;intro hle;rw [Ad,A4 zo] at h;simp at h
      rw [hpush _ _ hlt];exact ⟨hlt,h⟩
    ·rw [List.getElem?_eq_none (by simp;omega)] at hj;cases hj
 have:=key ops.toList #[] [] rfl (by simp);simp only [List.nil_append] at this;unfold Region.before;rw [<-Bb];exact ⟨by rw [this.1];simp,λj i o hj=>this.2 j i o (by simpa using hj)⟩
def Closed (ops:Array Oper) (listed:Array Bool):Prop:=∀(j:Nat) (o:Oper),ops[j]? =some o->listed.getD j false=true->∀e∈o.after,Region.binds .any e=true->listed.getD e.on false=true
theorem vzv {ops:Array Oper} {listed:Array Bool} (hcl:Closed ops listed):∀(j:Nat) (o:Oper),ops[j]? =some o->(∀e∈o.after,Region.binds .any e=true->listed.getD e.on false=true)->
  ∀i,((Region.before ops).getD j 0).testBit i=true->listed.getD i false=true:=by
 intro j;induction j using Nat.strongRecOn with
 |_ j ih=>
  intro o ho hall i hb;obtain ⟨e,h1,h2,h3⟩:=(vqw ops).2 j i o ho hb;rcases h3 with rfl|⟨hlt,h4⟩
  ·exact hall e h1 h2
  ·have hl:=hall e h1 h2;cases he:ops[e.on]? with
   |none=>
    have:ops.size<=e.on:=by simpa using he
    rw [Ad,A4 (by rw [(vqw ops).1];exact this)] at h4;simp at h4
   |some o'=>exact ih e.on hlt o' he (hcl e.on o' he hl) i h4
theorem vmg {P:Program} {ops:Array Oper}:∀{l:List Oper} {vs:List VOper},cOpers P ops l=some vs->vs.length=l.length/\∀(i:Nat) o,l[i]? =some o->∃v,vs[i]? =some v/\cOper P ops o=some v
 | [],vs,h=>by cases h;simp
 |o::l,vs,h=>by
  simp only [cOpers] at h;split at h
  ·rename_i v vs' h1 h2;cases h;obtain ⟨k1,k2⟩:=vmg h2;refine ⟨by simp [k1],λi o' hi=> ?_⟩;cases i with
   |zero=>simp only [Ar,At] at hi;subst hi;exact ⟨v,by simp,h1⟩
   |succ i=>simpa using k2 i o' (by simpa using hi)
  ·cases h
structure RegOk (cx:Cx) (ops:Array Oper) (vs:List VOper):Prop where
 code:cOpers cx.P ops ops.toList=some vs
 dsts:∀v∈vs,(∀d,v.op.dst=some d->d<cx.n)/\∀d,v.dst=some d->d<cx.n
theorem RegOk.get {ops:Array Oper} {vs:List VOper} (h:RegOk cx ops vs) {i:Nat} {o:Oper} (hi:ops[i]? =some o):∃v,vs[i]? =some v/\cOper cx.P ops o=some v/\(∀d,o.dst=some d->d<cx.n)/\
  (∀t b,v.guard=some (t,b)->t<cx.n)/\(v.guard=none\/v.op.dst=v.dst):=by
 obtain ⟨v,h1,h2⟩:=(vmg h.code).2 i o (by simpa using hi);have hdst:∀(k:Nat) (o':Oper) d,ops[k]? =some o'->o'.dst=some d->d<cx.n:=by
  intro k o' d hk hd;obtain ⟨v',k1,k2⟩:=(vmg h.code).2 k o' (by simpa using hk);refine (h.dsts v' (Av k1)).1 d ?_;rw [qdo (vmi k2).1,hd]
 refine ⟨v,h1,h2,λd hd=>hdst i o d hi hd,?_,?_⟩
 ·intro t b hg;rcases (vmi h2).2 with ⟨_,g2⟩|⟨j,b',t',g1,g2,g3,g4⟩
  ·rw [g2] at hg;cases hg
  ·rw [g3] at hg;cases hg;cases hj:ops[j]? with
   |none=>rw [hj] at g2;cases g2
   |some o'=>
    rw [hj] at g2;exact hdst j o' t hj (by simpa using g2)
 ·rcases (vmi h2).2 with ⟨_,g2⟩|⟨j,b',t',g1,g2,g3,g4⟩
  ·exact .inl g2
  ·exact .inr ((qdo (vmi h2).1).trans g4.symm)
def item (vs:List VOper) (b0 i:Nat):Nat×VOper:=(b0+100 * i,vs.getD i default)
theorem vxt (vs:List VOper) (b0:Nat):numbered b0 vs=(Bp vs.length).map (item vs b0):=by
 have key:∀(l:List VOper) (pre:List VOper),numbered (b0+100 * pre.length) l=(Bf pre.length l.length).map (item (pre++l) b0):=by
  intro l;induction l with
  |nil=>intro pre;rfl
  |cons v l ih=>
   intro pre;simp only [numbered,Bh,A1,Au];have:=ih (pre++ [v]);simp only [Bc,List.length_singleton,List.append_assoc,List.singleton_append] at this;rw [show b0+100 * pre.length+100=b0+100 * (pre.length+1) by omega,this];congr 1;simp [item]
 have:=key vs [];simpa [A6] using this
theorem vg0 {vs:List VOper} {b0 i:Nat} {v:VOper} (h:vs[i]? =some v):item vs b0 i=(b0+100 * i,v):=by simp [item,h]
theorem qd0 {writes:Nat->Bool} (hΦ:Good cx.P writes Φ) {ops:Array Oper} {vs:List VOper} (hR:RegOk cx ops vs) {b0:Nat} {Q:Exit->Act->World->Prop} {s':St}
  (hQ:∀a w U,(∀k,U k->k<b0+100 * ops.size)->Rel cx U s' a w->Qok s'->Q .normal a w):
  ∀(n i:Nat) (st:St) (a:Act) (w:World) (U:Nat->Prop),i+n=ops.size->Rel cx U st a w->Qok st->(∀k,U k->k<b0+100 * i)->runL Φ ((Bf i n).map (item vs b0)) st=some s'->wpOps cx.P ops Q (Bf i n) a w
 |0,i,st,a,w,U,hin,h,hq,hU,hr=>by
  cases hr;exact hQ a w U (λk hk=>Al (hU k hk) zo) h hq
 |n+1,i,st,a,w,U,hin,h,hq,hU,hr=>by
  have hlt:i<ops.size:=zo
  obtain ⟨v,h1,h2,h3,h4,h5⟩:=hR.get (Ac hlt);simp only [A1,Au,vg0 h1,runL] at hr;split at hr
  ·rename_i u s1 hx;obtain ⟨ρ,F,hG⟩:=h;rw [A1,wpOps_cons];refine vx9 hΦ hG hq (λk hk _ hu=> ?_) (Ac hlt) h2 h3 h4 hx ?_
   ·exact absurd (hU k hu) zo
   ·intro a w hrel;refine qd0 hΦ hR hQ n (i+1) s1 a w _ zo hrel (vux hΦ.nofz _ _ _ _ _ hx hq).1 ?_ hr
    rintro k (hk|hk)
    ·exact Al (hU k hk) zo
    ·omega
  ·cases hr
theorem vxr {writes:Nat->Bool} {before:List Nat} {vs:List VOper} {i j:Nat} (hij:i<j) {x y:VOper} (hx:vs[i]? =some x) (hy:vs[j]? =some y) (hl:before.length=vs.length):
  (before.getD j 0).testBit i=true\/apartOps writes x y=true\/(i,j)∈vfj writes before vs:=by
 have mem:∀(k:Nat) (z:VOper),vs[k]? =some z->((z,k),before.getD k 0)∈vs.zipIdx.zip before:=by
  intro k z hz;have hk:k<vs.length:=(List.getElem?_eq_some_iff.1 hz).1;have hb:k<before.length:=zo
  apply Av (i:=k);rw [List.getElem?_zip_eq_some];refine ⟨?_,?_⟩
  ·rw [A7,hz];simp
  ·rw [Ax,List.getElem?_eq_getElem hb];rfl
 by_cases h1:(before.getD j 0).testBit i=true
 ·exact .inl h1
 by_cases h2:apartOps writes x y=true
 ·exact .inr (.inl h2)
 refine .inr (.inr ?_);unfold vfj;refine Aj.2 ⟨_,mem j y hy,List.mem_filterMap.2 ⟨_,mem i x hx,?_⟩⟩;have h1':(before.getD j 0).testBit i=false:=by simpa using h1
 have h2':apartOps writes x y=false:=by simpa using h2
 simp only [hij,decide_true,Bool.not_true,h1',h2',Bool.or_false,Ba,if_false]
theorem qht {vs:List VOper} {ps:List (Nat×Nat)} (h:psOk vs ps=true) {i j:Nat} (hp:(i,j)∈ps) {x y:VOper} (hx:vs[i]? =some x) (hy:vs[j]? =some y):
  (∀t,x.op.dst=some t->¬t∈y.reads/\¬y.op.dst=some t)/\∀t,y.op.dst=some t->¬t∈x.reads:=by
 have:=Af.1 h _ hp;simp only [hx,hy,slotsApart,Ag,Af,Az,Be,A5,decide_eq_false_iff_not] at this;exact ⟨λt ht=>this.1 t ht,λt ht=>this.2 t ht⟩
theorem qc7 {ops:Array Oper} (h:backOk ops=true) {i:Nat} {o:Oper} (hi:ops[i]? =some o):∀e∈o.after,Region.binds .any e=true->e.on<i:=by
 intro e he hb;unfold backOk at h;simp only [Af] at h;have:=h (o,i) (Av (i:=i) (by rw [A7];simp [hi]));simp only [Array.all_eq_true_iff_forall_mem] at this;have:=this e he;simpa [hb] using this
theorem vww {writes:Nat->Bool} (hΦ:Good cx.P writes Φ) {ops:Array Oper} {vs:List VOper} (hR:RegOk cx ops vs) {b0 i:Nat} (hi:i<ops.size) {ps:List (Nat×Nat)} {J:St->Prop} (hJ:Draws Φ ps vs b0 J) (hps:psOk vs ps=true) {post:List (Nat×VOper)}:∀(pre:List Nat) {U:Nat->Prop} {s r:St} {a:Act} {w:World},
  (∀j∈pre,j<i/\(apartOps writes (item vs b0 j).2 (item vs b0 i).2=true\/(j,i)∈ps))->pre.Pairwise (·<·)->Rel cx U s a w->Qok s->J s->(∀j∈pre,∀k,ownR (b0+100 * j) k->¬U k)->(∀k,ownR (b0+100 * i) k->¬U k)->
  runL Φ (pre.map (item vs b0)++item vs b0 i::post) s=some r->∃r',runL Φ (item vs b0 i::(pre.map (item vs b0)++post)) s=some r'/\Same r r'
 | [],U,s,r,a,w,_,_,_,_,_,_,_,h=>⟨r,h,.refl r⟩
 |j::pre,U,s,r,a,w,hp,hasc,hrel,hq,hj,hfr,hfi,h=>by
  obtain ⟨hji,hap⟩:=hp j (by simp);have hjs:j<ops.size:=zo
  obtain ⟨vj,h1,h2,h3,h4,h5⟩:=hR.get (Ac hjs);obtain ⟨vi,g1,g2,g3,g4,g5⟩:=hR.get (Ac hi);simp only [Au,Bi,vg0 h1,vg0 g1,runL] at h;rw [vg0 h1,vg0 g1] at hap;split at h
  ·rename_i u s1 hx;obtain ⟨a',w',hrel'⟩:=qfl hΦ hrel hq (λk k1 k2=>hfr j (by simp) k ⟨k1,k2⟩) (Ac hjs) h2 h3 h4 hx;have hlt:=(Aq.1 hasc).1;obtain ⟨r',hr2,hr3⟩:=vww hΦ hR hi hJ hps pre (U:=Win U (b0+100 * j)) (λk hk=>hp k (by simp [hk])) (Aq.1 hasc).2 hrel' (vux hΦ.nofz _ _ _ _ _ hx hq).1 (hJ.step j vj h1 h5 s _ _ hj hx)
    (λk hk m hm=>by
     rintro (hu|hu)
     ·exact hfr k (by simp [hk]) m hm hu
     ·have:=hlt k hk;unfold ownR at hm;omega)
    (λm hm=>by
     rintro (hu|hu)
     ·exact hfi m hm hu
     ·unfold ownR at hm;omega) (by rw [vg0 g1];exact h)
   rw [vg0 g1] at hr2;simp only [runL] at hr2;split at hr2
   ·rename_i u' s2 hy;have hsw:∃s1' s2',(execG Φ (b0+100 * i) vi).run s=some ((),s1')/\(execG Φ (b0+100 * j) vj).run s1'=some ((),s2')/\Same s2' s2:=by
     rcases hap with hap|hap
     ·exact qfe hΦ h5 g5 hap hrel.clean (λm hm=>hfr j (by simp) m hm) hfi (λm hm hm'=>by unfold ownR at hm hm';omega) hx hy
     ·obtain ⟨q1,q2⟩:=qht hps hap h1 g1;exact hJ.swap j i hap vj vi h1 g1 h5 g5 q1 q2 s _ _ _ _ hj hx hy
    obtain ⟨s1',s2',k1,k2,k3⟩:=hsw;obtain ⟨r'',k4,k5⟩:=vy6 _ k3.symm hr2;refine ⟨r'',?_,hr3.trans k5⟩;simp only [Au,Bi,vg0 h1,vg0 g1,runL,k1,k2];exact k4
   ·cases hr2
  ·cases h
theorem qti {writes:Nat->Bool} (hΦ:Good cx.P writes Φ) {ops:Array Oper} {vs:List VOper} (hR:RegOk cx ops vs) {b0:Nat} {J:St->Prop} (hJ:Draws Φ (vfj writes (Region.before ops).toList vs) vs b0 J) (hps:psOk vs (vfj writes (Region.before ops).toList vs)=true) (hB:backOk ops=true) {Q:Exit->Act->World->Prop} {s':St}
  (hQ:∀s'' a w U,Same s'' s'->(∀k,U k->k<b0+100 * ops.size)->Rel cx U s'' a w->Qok s''->Q .normal a w):
  ∀(n:Nat) (rem:List Nat) (listed:Array Bool) (st:St) (a:Act) (w:World) (U:Nat->Prop),rem.length=n->rem.Pairwise (·<·)->(∀i,i∈rem↔i<ops.size/\listed.getD i true=false)->listed.size=ops.size->Closed ops listed->
   Rel cx U st a w->Qok st->J st->(∀k,U k->k<b0+100 * ops.size)->(∀i∈rem,∀k,b0+100 * i<=k->k<b0+100 * i+100->¬U k)->∀s1,runL Φ (rem.map (item vs b0)) st=some s1->Same s1 s'->wpAny cx.P .any ops Q n listed a w:=by
 intro n;induction n with
 |zero=>
  intro rem listed st a w U hlen hasc hmem hsz hcl h hq hj hU hfr s1 hr hs;have hrem:rem= []:=List.length_eq_zero_iff.1 hlen;subst hrem;refine ⟨?_,?_⟩
  ·rw [List.eq_nil_iff_forall_not_mem];intro j hj;obtain ⟨h1,o,h2,_⟩:=mem_ready.1 hj;have:=(hmem j).2 ⟨(Ah.1 h2).1,h1⟩;cases this
  ·cases hr;exact hQ _ a w U hs hU h hq
 |succ n ih=>
  intro rem listed st a w U hlen hasc hmem hsz hcl h hq hj hU hfr s1 hr hs;have hgt:∀i,i<ops.size->i∉rem->listed.getD i false=true:=by
   intro i hi hn;have hlt:i<listed.size:=zo
   have:=mt (hmem i).2 hn;simp only [Ad,Ac hlt,A0] at this⊢;simpa [hi] using this
  refine ⟨?_,?_⟩
  ·intro hnil;cases hrem:rem with
   |nil=>rw [hrem] at hlen;cases hlen
   |cons i0 rest=>
    exfalso;obtain ⟨k1,k2⟩:=(hmem i0).1 (by simp [hrem]);have:i0∈Region.ready .any ops listed:=by
     rw [mem_ready];refine ⟨k2,_,Ac k1,λe he hb=> ?_⟩;have hlt:=qc7 hB (Ac k1) e he hb;refine hgt e.on zo λhin=> ?_;rw [hrem] at hin hasc;rcases Ak.1 hin with rfl|hin
     ·omega
     ·have:=(Aq.1 hasc).1 _ hin;omega
    rw [hnil] at this;cases this
  ·intro i hi;obtain ⟨k1,o,k2,k3⟩:=mem_ready.1 hi;have hin:i∈rem:=(hmem i).2 ⟨(Ah.1 k2).1,k1⟩;obtain ⟨pre,post,rfl⟩:=List.append_of_mem hin;obtain ⟨v,h1,h2,h3,h4,h5⟩:=hR.get k2;rw [Bm,Au] at hr;have hpre:∀j∈pre,j<i/\(apartOps writes (item vs b0 j).2 (item vs b0 i).2=true\/(j,i)∈vfj writes (Region.before ops).toList vs):=by
    intro j hj;have hji:j<i:=(Ap.1 hasc).2.2 j hj i (by simp);have hjs:=(hmem j).1 (by simp [hj]);obtain ⟨vj,m1,m2,m3,m4,m5⟩:=hR.get (Ac hjs.1);rw [vg0 m1,vg0 h1];refine ⟨hji,?_⟩;rcases vxr (writes:=writes) hji m1 h1 (by rw [(vmg hR.code).1,Aw,Aw,(vqw ops).1]) with hb|hap
    ·have:listed.getD j false=true:=vzv hcl i o k2 k3 j (by simpa [Ax,Ad] using hb);have hlt:j<listed.size:=zo
     simp only [Ad,Ac hlt,A0] at this hjs;rw [this] at hjs;cases hjs.2
    ·exact hap
   obtain ⟨s2,hr2,hs2⟩:=vww hΦ hR (Ah.1 k2).1 hJ hps pre hpre (Ap.1 hasc).1 h hq hj (λj hj k hk=>hfr j (by simp [hj]) k hk.1 hk.2) (λk hk=>hfr i hin k hk.1 hk.2) hr;rw [vg0 h1] at hr2;simp only [runL] at hr2;split at hr2
   ·rename_i u st1 hx;obtain ⟨ρ,F,hG⟩:=h;refine vx9 hΦ hG hq (hfr i hin) k2 h2 h3 h4 hx λa' w' hrel=> ?_;rw [<-Bm] at hr2;have hni:∀j∈pre++post,j≠i:=by
     intro j hj he;subst he;rcases Aa.1 hj with hj|hj
     ·exact Bn _ ((Ap.1 hasc).2.2 j hj j (by simp))
     ·exact Bn _ ((Aq.1 (Ap.1 hasc).2.1).1 j hj)
    have hilt:i<ops.size:=(Ah.1 k2).1;refine ih (pre++post) _ st1 a' w' _ ?_ ?_ ?_ ?_ ?_ hrel (vux hΦ.nofz _ _ _ _ _ hx hq).1 (hJ.step i v h1 h5 _ _ _ hj hx) ?_ ?_ s2 hr2 (hs2.symm.trans hs)
    ·simp only [Bc,Bh] at hlen⊢;omega
    ·exact hasc.sublist (Bo.append (Bo.refl _) (List.sublist_cons_self _ _))
    ·intro j;by_cases hji:j=i
     ·subst hji;simp only [Ad,Array.getElem?_setIfInBounds_self];constructor
      ·intro hj;exact absurd rfl (hni j hj)
      ·rintro ⟨_,hj⟩;simp [hsz,hilt] at hj
     ·rw [getD_set_ne true (Ne.symm hji),<-hmem j];simp [hji]
    ·simpa using hsz
    ·intro j oj hj hl e he hb;by_cases hji:j=i
     ·subst hji;rw [k2] at hj;cases hj;exact getD_set_true (k3 e he hb)
     ·rw [getD_set_ne false (Ne.symm hji)] at hl;exact getD_set_true (hcl j oj hj hl e he hb)
    ·rintro k (hk|hk)
     ·exact hU k hk
     ·omega
    ·rintro j hj k hk1 hk2 (hk|hk)
     ·refine hfr j ?_ k hk1 hk2 hk;rcases Aa.1 hj with h|h
      ·simp [h]
      ·simp [h]
     ·have:=hni j hj;omega
   ·cases hr2
theorem qiy {writes:Nat->Bool} (hΦ:Good cx.P writes Φ) (hm:cx.P.follows .mixedOrders=true) {ops:Array Oper} {vs:List VOper} (hR:RegOk cx ops vs) {draw:Bool} {n:Nat} (hD:draw=true->backOk ops=true/\psOk vs (vfj writes (Region.before ops).toList vs)=true/\∃J:St->Prop,J st/\Draws Φ (vfj writes (Region.before ops).toList vs) vs n J)
  {id:Nat} {Q:Exit->Act->World->Prop} {s':St} (hr:execs Φ n vs st=some s') (h:Rel cx U st a w) (hq:Qok st) (hU:∀k,U k->k<n)
  (hQ:∀s'' a w U,Same s'' s'->(∀k,U k->k<n+100 * vs.length)->Rel cx U s'' a w->Qok s''->Q .normal a w):(Code.region id ops draw).wp cx.P Q a w:=by
 have hlen:vs.length=ops.size:=by rw [(vmg hR.code).1,Aw]
 rw [qbf,vxt,hlen] at hr;rw [hlen] at hQ;cases draw with
 |false=>
  refine wp_region ?_;rw [A6] at hr⊢;exact qd0 hΦ hR (λa w U hU h hq=>hQ s' a w U (.refl _) hU h hq) ops.size 0 st a w U zo h hq (by simpa using hU) hr
 |true=>
  obtain ⟨hB,hps,J,hj,hJ⟩:=hD rfl;refine wp_region_any hm ?_;obtain ⟨ρ,F,hG⟩:=h;have hG':G cx U (λ_ _=>False) ρ F st a {w with drawn:=w.drawn+1}:=hG.drew;refine qti hΦ hR hJ hps hB hQ ops.size (Bp ops.size) _ st a _ U (by simp) (List.pairwise_lt_range) ?_ (by simp) ?_ ⟨ρ,F,hG'⟩ hq hj ?_ ?_ s' hr (.refl _)
  ·intro i;simp only [List.mem_range,Ad,A2];constructor
   ·intro hi;simp [hi]
   ·exact λh=>h.1
  ·intro j o hj hl;have hlt:j<ops.size:=(Ah.1 hj).1;simp [Ad,A2,hlt] at hl
  ·intro k hk;exact Al (hU k hk) zo
  ·intro i _ k hk _ hu;exact absurd (hU k hu) zo
