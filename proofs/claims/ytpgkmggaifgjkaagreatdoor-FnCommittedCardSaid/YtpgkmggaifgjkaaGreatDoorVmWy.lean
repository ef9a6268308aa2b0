/- The interpreter 'VM'. -/
import Derived.Test.YtpgkmggaifgjkaaGreatDoorVmTu
open List renaming mem_append->Aa,mem_singleton->Ab,flatMap_cons->Ac
set_option linter.all false
namespace Go.Proofs.YtpgkmggaifgjkaaGreatDoor.VM
open Go
def Loc {α:Type} (R W:Nat->Prop) (rn wn:Prop):M α->Prop
 | .pure _=>True
 | .fail=>True
 | .getS t k=>R t/\∀v,Loc R W rn wn (k v)
 | .setS t _ k=>W t/\Loc R W rn wn k
 | .getN _ k=>rn/\∀n,Loc R W rn wn (k n)
 | .setN _ _ k=>wn/\Loc R W rn wn k
theorem Loc.bind {α β:Type} {R W:Nat->Prop} {rn wn:Prop} {m:M α} (h:Loc R W rn wn m) {k:α->M β} (hk:∀x,Loc R W rn wn (k x)):Loc R W rn wn (m.bind k):=by
 induction m with
 |pure x=>exact hk x
 |fail=>exact trivial
 |getS t k' ih=>exact ⟨h.1,λv=>ih v (h.2 v)⟩
 |setS t v k' ih=>exact ⟨h.1,ih h.2⟩
 |getN id k' ih=>exact ⟨h.1,λv=>ih v (h.2 v)⟩
 |setN id n k' ih=>exact ⟨h.1,ih h.2⟩
theorem Loc.mono {α:Type} {R W R' W':Nat->Prop} {rn wn rn' wn':Prop} (hR:∀t,R t->R' t) (hW:∀t,W t->W' t) (hr:rn->rn') (hw:wn->wn'):∀{m:M α},Loc R W rn wn m->Loc R' W' rn' wn' m
 | .pure _,_=>trivial
 | .fail,_=>trivial
 | .getS _ _,h=>⟨hR _ h.1,λv=>Loc.mono hR hW hr hw (h.2 v)⟩
 | .setS _ _ _,h=>⟨hW _ h.1,Loc.mono hR hW hr hw h.2⟩
 | .getN _ _,h=>⟨hr h.1,λv=>Loc.mono hR hW hr hw (h.2 v)⟩
 | .setN _ _ _,h=>⟨hw h.1,Loc.mono hR hW hr hw h.2⟩
theorem vd3 {α:Type}:∀(l r:List (Nat×α)) (k:Nat),look (l++r) k=(look l k).or (look r k)
 | [],r,k=>by simp [look]
 |(j,v)::l,r,k=>by
  simp only [List.cons_append,look];split
  ·rfl
  ·exact vd3 l r k
theorem vc0 {α:Type}:∀{l:List (Nat×α)} {k:Nat},(∀x∈l,x.1≠k)->look l k=none
 | [],_,_=>rfl
 |(j,v)::l,k,h=>by
  simp only [look];rw [if_neg (h (j,v) (by simp))];exact vc0 λx hx=>h x (by simp [hx])
structure Same (s s':St):Prop where
 slot:∀t,s.slot t=s'.slot t
 node:∀id,s.node id=s'.node id
theorem voj {α:Type} {R W:Nat->Prop} {rn wn:Prop}:∀{m:M α},Loc R W rn wn m->∀{st:St} {r:α} {s:St},m.run st=some (r,s)->
  ∃ds dn,s=⟨ds++st.slots,dn++st.nodes,st.next⟩/\(∀x∈ds,W x.1)/\(¬wn->dn= [])/\
   ∀st':St,(∀t,R t->st'.slot t=st.slot t)->(rn->∀id,st'.node id=st.node id)->m.run st'=some (r,⟨ds++st'.slots,dn++st'.nodes,st'.next⟩)
 | .pure x,_,st,r,s,h=>by
  cases run_pure h;exact ⟨[],[],rfl,by simp,λ_=>rfl,λst' _ _=>rfl⟩
 | .fail,_,st,r,s,h=>(vac h).elim
 | .getS t k,hl,st,r,s,h=>by
  obtain ⟨ds,dn,e,h1,h2,h3⟩:=voj (hl.2 (st.slot t)) h;refine ⟨ds,dn,e,h1,h2,λst' ha hb=> ?_⟩;simp only [M.run];rw [ha t hl.1];exact h3 st' ha hb
 | .setS t v k,hl,st,r,s,h=>by
  obtain ⟨ds,dn,e,h1,h2,h3⟩:=voj hl.2 h;refine ⟨ds++ [(t,v)],dn,by simpa using e,λx hx=> ?_,h2,λst' ha hb=> ?_⟩
  ·rcases Aa.1 hx with hx|hx
   ·exact h1 x hx
   ·simp only [Ab] at hx;subst hx;exact hl.1
  ·have:=h3 {st' with slots:=(t,v)::st'.slots} (λt' ht=>by rw [vkl,vkl,ha t' ht]) hb;simpa [M.run] using this
 | .getN id k,hl,st,r,s,h=>by
  obtain ⟨ds,dn,e,h1,h2,h3⟩:=voj (hl.2 (st.node id)) h;refine ⟨ds,dn,e,h1,h2,λst' ha hb=> ?_⟩;simp only [M.run];rw [hb hl.1 id];exact h3 st' ha hb
 | .setN id n k,hl,st,r,s,h=>by
  obtain ⟨ds,dn,e,h1,h2,h3⟩:=voj hl.2 h;refine ⟨ds,dn++ [(id,n)],by simpa using e,h1,λhw=>absurd hl.1 hw,λst' ha hb=> ?_⟩;have:=h3 {st' with nodes:=(id,n)::st'.nodes} ha (λhr id'=>by rw [vgd,vgd,hb hr id']);simpa [M.run] using this
theorem vmz {ds:List (Nat×TV)} {st:St} {dn:List (Nat×Option Node)} {t:Nat}:({slots:=ds++st.slots,nodes:=dn++st.nodes,next:=st.next}:St).slot t=((look ds t).or (look st.slots t)).getD .un:=by
 simp [St.slot,vd3]
theorem vmu {ds:List (Nat×TV)} {st:St} {dn:List (Nat×Option Node)} {id:Nat}:({slots:=ds++st.slots,nodes:=dn++st.nodes,next:=st.next}:St).node id=((look dn id).or (look st.nodes id)).getD none:=by
 simp [St.node,vd3]
theorem qmo {α β:Type} {R1 W1 R2 W2:Nat->Prop} {rn1 wn1 rn2 wn2:Prop} {m1:M α} {m2:M β} (h1:Loc R1 W1 rn1 wn1 m1) (h2:Loc R2 W2 rn2 wn2 m2) (hs1:∀t,W1 t->¬R2 t/\¬W2 t) (hs2:∀t,W2 t->¬R1 t)
  (hn1:wn1->¬rn2/\¬wn2) (hn2:wn2->¬rn1) {st s1 s2:St} {x:α} {y:β} (hr1:m1.run st=some (x,s1)) (hr2:m2.run s1=some (y,s2)):
  ∃s1' s2',m2.run st=some (y,s1')/\m1.run s1'=some (x,s2')/\Same s2' s2:=by
 obtain ⟨ds1,dn1,rfl,w1,n1,k1⟩:=voj h1 hr1;obtain ⟨ds2,dn2,rfl,w2,n2,k2⟩:=voj h2 hr2;have no1:∀t,R2 t->look ds1 t=none:=λt ht=>vc0 λz hz e=>(hs1 z.1 (w1 z hz)).1 (e▸ht);have no2:∀t,R1 t->look ds2 t=none:=λt ht=>vc0 λz hz e=>hs2 z.1 (w2 z hz) (e▸ht);have e1:m2.run st=some (y,⟨ds2++st.slots,dn2++st.nodes,st.next⟩):=by
  refine k2 st (λt ht=> ?_) λhr id=> ?_
  ·rw [vmz,no1 t ht];simp [St.slot]
  ·have:dn1= []:=n1 λhw=>(hn1 hw).1 hr;subst this;rw [vmu];simp [look,St.node]
 have e2:=k1 ⟨ds2++st.slots,dn2++st.nodes,st.next⟩ (λt ht=>by rw [vmz,no2 t ht];simp [St.slot]) (λhr id=>by
  have:dn2= []:=n2 λhw=>hn2 hw hr;subst this
  rw [vmu];simp [look,St.node])
 refine ⟨_,_,e1,e2,λt=> ?_,λid=> ?_⟩
 ·simp only [St.slot,vd3];by_cases hw:W1 t
  ·have:look ds2 t=none:=vc0 λz hz e=>(hs1 t hw).2 (e▸w2 z hz);rw [this];simp
  ·have:look ds1 t=none:=vc0 λz hz e=>hw (e▸w1 z hz);rw [this];simp
 ·simp only [St.node,vd3];by_cases hw:wn1
  ·have:dn2= []:=n2 (hn1 hw).2;subst this;simp [look]
  ·have:=n1 hw;subst this;simp [look]
section
variable {R W:Nat->Prop} {rn wn:Prop}
theorem vbb {α:Type} (x:α):Loc R W rn wn (M.pure x):=trivial
theorem vdz {α:Type}:Loc R W rn wn (M.fail:M α):=trivial
theorem qio {t:Nat} (h:R t):Loc R W rn wn (getS t):=⟨h,λ_=>trivial⟩
theorem vcq {t:Nat} (h:W t) (v:TV):Loc R W rn wn (setS t v):=⟨h,trivial⟩
theorem vc5 {id:Nat} (h:rn):Loc R W rn wn (getN id):=⟨h,λ_=>trivial⟩
theorem vbk {id:Nat} (h:wn) (n:Option Node):Loc R W rn wn (setN id n):=⟨h,trivial⟩
theorem vbe {α:Type} (x:Option α):Loc R W rn wn (liftO x):=by cases x<;>trivial
theorem vcn {x:Opd} (h:∀t∈x.used,R t):Loc R W rn wn (opd x):=by
 cases x with
 |t n=>exact qio (h n (by simp [Opd.used]))
 |_=>trivial
theorem vnb:∀{xs:List Opd} (_:∀t∈xs.flatMap Opd.used,R t),Loc R W rn wn (opds xs)
 | [],_=>trivial
 |x::xs,h=>(vcn λt ht=>h t (by simp [ht])).bind λ_=>(vnb λt ht=>h t (by
   simp only [Ac,Aa];exact .inr ht)).bind λ_=>vbb _
theorem vun {x:Option Opd} (h:∀t∈(x.map Opd.used).getD [],R t):Loc R W rn wn (bound x):=by
 cases x with
 |none=>trivial
 |some y=>
  refine (vcn h).bind λu=> ?_;split<;>trivial
theorem qa6 (h:rn) (w:Option Nat) (v:TV):Loc R W rn wn (loadAt w v):=by unfold loadAt;(repeat' (first|exact vbb _|exact vdz|exact vbe _|(refine Loc.bind (vbe _) (λ_=> ?_))|(refine Loc.bind (vc5 (by assumption)) (λ_=> ?_))|(refine Loc.bind (vbk (by assumption) _) (λ_=> ?_))|exact vbk (by assumption) _|split))
theorem vrt (h:rn) (v:TV):Loc R W rn wn (elems v):=by unfold elems;(repeat' (first|exact vbb _|exact vdz|exact vbe _|(refine Loc.bind (vbe _) (λ_=> ?_))|(refine Loc.bind (vc5 (by assumption)) (λ_=> ?_))|(refine Loc.bind (vbk (by assumption) _) (λ_=> ?_))|exact vbk (by assumption) _|split))
theorem qi5 (h:rn) (e:Nat) (v:TV) (lo hi:Option Int):Loc R W rn wn (sliceAt e v lo hi):=by unfold sliceAt;(repeat' (first|exact vbb _|exact vdz|exact vbe _|(refine Loc.bind (vbe _) (λ_=> ?_))|(refine Loc.bind (vc5 (by assumption)) (λ_=> ?_))|(refine Loc.bind (vbk (by assumption) _) (λ_=> ?_))|exact vbk (by assumption) _|split))
theorem qru (v:TV) (lo hi:Option Int):Loc R W rn wn (strAt v lo hi):=by unfold strAt;(repeat' (first|exact vbb _|exact vdz|exact vbe _|(refine Loc.bind (vbe _) (λ_=> ?_))|(refine Loc.bind (vc5 (by assumption)) (λ_=> ?_))|(refine Loc.bind (vbk (by assumption) _) (λ_=> ?_))|exact vbk (by assumption) _|split))
theorem qil (h:rn) (o:Nat) (v:TV):Loc R W rn wn (fieldAt o v):=by unfold fieldAt;(repeat' (first|exact vbb _|exact vdz|exact vbe _|(refine Loc.bind (vbe _) (λ_=> ?_))|(refine Loc.bind (vc5 (by assumption)) (λ_=> ?_))|(refine Loc.bind (vbk (by assumption) _) (λ_=> ?_))|exact vbk (by assumption) _|split))
theorem qie (h:rn) (e m:Nat) (v:TV) (i:Int):Loc R W rn wn (indexAt e m v i):=by
 unfold indexAt;refine (vrt h _).bind λ_=> ?_
 (repeat' (first|exact vbb _|exact vdz|exact vbe _|(refine Loc.bind (vbe _) (λ_=> ?_))|(refine Loc.bind (vc5 (by assumption)) (λ_=> ?_))|(refine Loc.bind (vbk (by assumption) _) (λ_=> ?_))|exact vbk (by assumption) _|split))
theorem qha (h:rn) (h2:wn) (x:TV):Loc R W rn wn (toPV x):=by unfold toPV;(repeat' (first|exact vbb _|exact vdz|exact vbe _|(refine Loc.bind (vbe _) (λ_=> ?_))|(refine Loc.bind (vc5 (by assumption)) (λ_=> ?_))|(refine Loc.bind (vbk (by assumption) _) (λ_=> ?_))|exact vbk (by assumption) _|split))
theorem vxy (h:rn) (h2:wn):∀(xs:List TV),Loc R W rn wn (toPVs xs)
 | []=>trivial
 |x::xs=>(qha h h2 x).bind λ_=>(vxy h h2 xs).bind λ_=>vbb _
theorem qhl (h:rn) (h2:wn) (fl:Bool) (x:TV):Loc R W rn wn (toEl fl x):=by
 unfold toEl;split
 ·split
  ·exact (vbe _).bind λ_=>vbb _
  ·exact (vxy h h2 _).bind λ_=>vbb _
 ·split
  ·exact (vbe _).bind λ_=>vbb _
  ·exact qha h h2 _
theorem qgy (h:rn) (h2:wn) (fl:Bool) (m:Nat):∀(ps:List (Nat×Opd)) (_:∀t∈ps.flatMap (·.2.used),R t) (q:Bool) (es:List PV),Loc R W rn wn (bslM fl m ps q es)
 | [],_,q,es=>trivial
 |(i,x)::ps,hR,q,es=>by
  unfold bslM;refine (vcn λt ht=>hR t (by simp [ht])).bind λv=>(qhl h h2 fl v).bind λy=> ?_;split
  ·exact qgy h h2 fl m ps (λt ht=>hR t (by simp only [Ac,Aa];exact .inr ht)) _ _
  ·trivial
theorem qbj:∀(ps:List (Nat×Nat×Opd)) (_:∀t∈ps.flatMap (·.2.2.used),R t) (cs:List TV),Loc R W rn wn (buildM ps cs)
 | [],_,cs=>trivial
 |(o,w,x)::ps,hR,cs=>by
  unfold buildM;refine (vcn λt ht=>hR t (by simp [ht])).bind λv=> ?_;split
  ·exact qbj ps (λt ht=>hR t (by simp only [Ac,Aa];exact .inr ht)) _
  ·trivial
theorem qqb (h:rn) (h2:wn) (b:Nat) (x:TV):Loc R W rn wn (pull1 b x):=by
 unfold pull1;split
 ·refine (vc5 h).bind λ_=> ?_;split
  ·split
   ·unfold pullK;split
    ·refine Loc.bind (show Loc R W rn wn (takeIn _ _ _ _ _ _ _) from by unfold takeIn;(repeat' (first|exact vbb _|exact vdz|exact vbe _|(refine Loc.bind (vbe _) (λ_=> ?_))|(refine Loc.bind (vc5 (by assumption)) (λ_=> ?_))|(refine Loc.bind (vbk (by assumption) _) (λ_=> ?_))|exact vbk (by assumption) _|split))) λ_=> ?_
     (repeat' (first|exact vbb _|exact vdz|exact vbe _|(refine Loc.bind (vbe _) (λ_=> ?_))|(refine Loc.bind (vc5 (by assumption)) (λ_=> ?_))|(refine Loc.bind (vbk (by assumption) _) (λ_=> ?_))|exact vbk (by assumption) _|split))
    ·exact vdz
   ·exact vdz
  ·exact vdz
 ·exact vbb _
theorem qei (h:rn) (h2:wn) (b:Nat):∀(xs:List TV),Loc R W rn wn (pullL b xs)
 | []=>vbb _
 |x::xs=>by
  unfold pullL;split
  ·exact (qqb h h2 b x).bind λ_=>vbb _
  ·exact (qei h h2 b xs).bind λ_=>vbb _
theorem qa0 (h:rn) (h2:wn) (b:Nat) (u v:TV):Loc R W rn wn (pullTo b u v):=by
 unfold pullTo;split
 ·exact (qei h h2 b _).bind λ_=>vbb _
 ·exact vbb _
theorem quv (h:rn) (h2:wn) (b:Nat) (fl:Bool) (m:Nat) (ps:List (Nat×Opd)) (hR:∀t∈ps.flatMap (·.2.used),R t) (es:List PV):Loc R W rn wn (bslQ b fl m ps es):=by
 unfold bslQ;split
 ·refine (vcn λt ht=>hR t (by simp [ht])).bind λv=>(qa0 h h2 b _ v).bind λv=>(qhl h h2 _ v).bind λy=> ?_;split
  ·exact vbb _
  ·exact vdz
 ·exact qgy h h2 _ m _ hR _ _
theorem qhj (h:rn) (h2:wn) (b w:Nat) (x y:TV):Loc R W rn wn (storeAt b w x y):=by
 unfold storeAt;split
 ·unfold storeBox;(repeat' (first|exact vbb _|exact vdz|exact vbe _|(refine Loc.bind (vbe _) (λ_=> ?_))|(refine Loc.bind (vc5 (by assumption)) (λ_=> ?_))|(refine Loc.bind (vbk (by assumption) _) (λ_=> ?_))|exact vbk (by assumption) _|split))
 ·unfold storeBox;(repeat' (first|exact vbb _|exact vdz|exact vbe _|(refine Loc.bind (vbe _) (λ_=> ?_))|(refine Loc.bind (vc5 (by assumption)) (λ_=> ?_))|(refine Loc.bind (vbk (by assumption) _) (λ_=> ?_))|exact vbk (by assumption) _|split))
 ·refine (vxy h h2 _).bind λ_=> ?_
  (repeat' (first|exact vbb _|exact vdz|exact vbe _|(refine Loc.bind (vbe _) (λ_=> ?_))|(refine Loc.bind (vc5 (by assumption)) (λ_=> ?_))|(refine Loc.bind (vbk (by assumption) _) (λ_=> ?_))|exact vbk (by assumption) _|split))
 ·unfold vm1;(repeat' (first|exact vbb _|exact vdz|exact vbe _|(refine Loc.bind (vbe _) (λ_=> ?_))|(refine Loc.bind (vc5 (by assumption)) (λ_=> ?_))|(refine Loc.bind (vbk (by assumption) _) (λ_=> ?_))|exact vbk (by assumption) _|split))
 ·trivial
theorem qjp (h:rn) (h2:wn) (b e bytes:Nat) (mv:Bool) (x y:TV):Loc R W rn wn (appendM b e bytes mv x y):=by
 unfold appendM;have h1:Loc R W rn wn (appTo b e x):=by unfold appTo takeIn;(repeat' (first|exact vbb _|exact vdz|exact vbe _|(refine Loc.bind (vbe _) (λ_=> ?_))|(refine Loc.bind (vc5 (by assumption)) (λ_=> ?_))|(refine Loc.bind (vbk (by assumption) _) (λ_=> ?_))|exact vbk (by assumption) _|split))
 have h3:Loc R W rn wn (appOf e mv y):=by
  unfold appOf;split
  ·(repeat' (first|exact vbb _|exact vdz|exact vbe _|(refine Loc.bind (vbe _) (λ_=> ?_))|(refine Loc.bind (vc5 (by assumption)) (λ_=> ?_))|(refine Loc.bind (vbk (by assumption) _) (λ_=> ?_))|exact vbk (by assumption) _|split))
  ·refine (vrt h _).bind λ_=> ?_
   (repeat' (first|exact vbb _|exact vdz|exact vbe _|(refine Loc.bind (vbe _) (λ_=> ?_))|(refine Loc.bind (vc5 (by assumption)) (λ_=> ?_))|(refine Loc.bind (vbk (by assumption) _) (λ_=> ?_))|exact vbk (by assumption) _|split))
 refine h1.bind λ_=>h3.bind λ_=> ?_
 (repeat' (first|exact vbb _|exact vdz|exact vbe _|(refine Loc.bind (vbe _) (λ_=> ?_))|(refine Loc.bind (vc5 (by assumption)) (λ_=> ?_))|(refine Loc.bind (vbk (by assumption) _) (λ_=> ?_))|exact vbk (by assumption) _|split))
mutual
theorem vse (h:rn) (z:Bool):∀(k n:Nat) (x:TV),Loc R W rn wn (vba z k n x)
 |0,n,x=>by unfold vba;trivial
 |k+1,n,x=>by
  unfold vba;split
  ·trivial
  ·trivial
  ·trivial
  ·exact (vls h z k _).bind λ_=>vbb _
  ·exact (vls h z k _).bind λ_=>(vls h z k _).bind λ_=>vbb _
  ·exact (vse h z k _ _).bind λ_=>vbb _
  ·trivial
  ·refine (vc5 h).bind λ_=> ?_;split
   ·split<;>trivial
   ·split
    ·trivial
    ·exact (vls h z k _).bind λ_=>vbb _
   ·trivial
  ·(repeat' (first|exact vbb _|exact vdz|exact vbe _|(refine Loc.bind (vbe _) (λ_=> ?_))|(refine Loc.bind (vc5 (by assumption)) (λ_=> ?_))|(refine Loc.bind (vbk (by assumption) _) (λ_=> ?_))|exact vbk (by assumption) _|split))
  ·(repeat' (first|exact vbb _|exact vdz|exact vbe _|(refine Loc.bind (vbe _) (λ_=> ?_))|(refine Loc.bind (vc5 (by assumption)) (λ_=> ?_))|(refine Loc.bind (vbk (by assumption) _) (λ_=> ?_))|exact vbk (by assumption) _|split))
  ·split
   ·trivial
   ·refine (vc5 h).bind λ_=> ?_;split
    ·split
     ·exact (vls h z k _).bind λ_=>vbb _
     ·trivial
    ·trivial
  ·trivial
theorem vls (h:rn) (z:Bool):∀(k:Nat) (xs:List TV),Loc R W rn wn (vbo z k xs)
 |0,xs=>by unfold vbo;trivial
 |k+1,[]=>by unfold vbo;trivial
 |k+1,x::xs=>by
  unfold vbo;exact (vse h z k 0 x).bind λ_=>(vls h z k xs).bind λ_=>vbb _
end
mutual
theorem qae (h:rn) (h2:wn) (z:Bool):∀(k:Nat) (x:TV),Loc R W rn wn (pack z k x)
 |0,x=>by unfold pack;trivial
 |k+1,x=>by
  unfold pack;split
  ·trivial
  ·trivial
  ·split<;>trivial
  ·exact (vro h h2 z k _).bind λ_=>vbb _
  ·exact (vro h h2 z k _).bind λ_=>(vro h h2 z k _).bind λ_=>vbb _
  ·exact (qae h h2 z k _).bind λ_=>vbb _
  ·refine (vc5 h).bind λ_=> ?_;split
   ·split
    ·trivial
    ·exact (vbk h2 _).bind λ_=>vbb _
   ·split
    ·trivial
    ·exact (vbk h2 _).bind λ_=>(vro h h2 z k _).bind λ_=>vbb _
   ·trivial
  ·trivial
  ·refine (vc5 h).bind λ_=> ?_;split
   ·split
    ·trivial
    ·exact (vbk h2 _).bind λ_=>vbb _
   ·trivial
  ·trivial
theorem vro (h:rn) (h2:wn) (z:Bool):∀(k:Nat) (xs:List TV),Loc R W rn wn (vck z k xs)
 |0,xs=>by unfold vck;trivial
 |k+1,[]=>by unfold vck;trivial
 |k+1,x::xs=>by
  unfold vck;exact (qae h h2 z k x).bind λ_=>(vro h h2 z k xs).bind λ_=>vbb _
end
mutual
theorem qbc (h2:wn) (q:Bool):∀(c:CV) (b:Nat),Loc R W rn wn (vay q b c)
 | .a _,b=>by unfold vay;trivial
 | .sl z e es,b=>by
  unfold vay;split
  ·trivial
  ·exact (vbk h2 _).bind λ_=>vbb _
 | .bx z cs,b=>by unfold vay;exact (vjo h2 q cs _).bind λ_=>(vbk h2 _).bind λ_=>vbb _
 | .st cs,b=>by unfold vay;exact (vjo h2 q cs _).bind λ_=>vbb _
 | .tp cs,b=>by unfold vay;exact (vjo h2 q cs _).bind λ_=>vbb _
 | .fn f fs cs,b=>by unfold vay;exact (vjo h2 q fs _).bind λ_=>(vjo h2 q cs _).bind λ_=>vbb _
 | .ic t c,b=>by unfold vay;exact (qbc h2 q c _).bind λ_=>vbb _
 | .un,b=>by unfold vay;trivial
theorem vjo (h2:wn) (q:Bool):∀(cs:List CV) (b:Nat),Loc R W rn wn (vbg q b cs)
 | [],b=>by unfold vbg;trivial
 |c::cs,b=>by unfold vbg;exact (qbc h2 q c _).bind λ_=>(vjo h2 q cs _).bind λ_=>vbb _
end
mutual
theorem vt0 (h:rn) (h2:wn) (q:Bool) (V:Nat):∀(x:TV) (c0 y:CV) (b:Nat),Loc R W rn wn (vaf q V b x c0 y)
 | .rf id,c0,y,b=>by
  cases c0 with
  |sl z0 e0 es0=>
   cases y with
   |sl z e es=>
    cases z0<;>cases z<;>simp only [vaf]
    ·(repeat' (first|exact vbb _|exact vdz|exact vbe _|(refine Loc.bind (vbe _) (λ_=> ?_))|(refine Loc.bind (vc5 (by assumption)) (λ_=> ?_))|(refine Loc.bind (vbk (by assumption) _) (λ_=> ?_))|exact vbk (by assumption) _|split))
    all_goals trivial
   |_=>simp only [vaf];trivial
  |bx z0 cs0=>
   cases y with
   |bx z cs=>
    cases z0<;>cases z<;>simp only [vaf]
    ·refine (vc5 h).bind λ_=> ?_;split
     ·exact (vjo h2 q cs _).bind λ_=>(vbk h2 _).bind λ_=>vbb _
     ·trivial
    all_goals trivial
   |_=>simp only [vaf];trivial
  |_=>simp only [vaf];trivial
 | .fn f fs cs,c0,y,b=>by
  cases c0 with
  |fn f0 fs0 cs0=>
   cases y with
   |fn f1 fs1 cs1=>simp only [vaf];exact (vof h h2 q V fs fs0 fs1 b).bind λ_=>vof h h2 q V cs cs0 cs1 _
   |_=>simp only [vaf];trivial
  |_=>simp only [vaf];trivial
 | .st cs,c0,y,b=>by
  cases c0 with
  |st cs0=>
   cases y with
   |st cs1=>simp only [vaf];exact vof h h2 q V cs cs0 cs1 b
   |_=>simp only [vaf];trivial
  |_=>simp only [vaf];trivial
 | .ic t x,c0,y,b=>by
  cases c0 with
  |ic t0 x0=>
   cases y with
   |ic t1 x1=>simp only [vaf];exact vt0 h h2 q V x x0 x1 b
   |_=>simp only [vaf];trivial
  |_=>simp only [vaf];trivial
 | .a _,c0,y,b=>by simp only [vaf];trivial
 | .nl _,c0,y,b=>by simp only [vaf];trivial
 | .ri _ _ _,c0,y,b=>by simp only [vaf];trivial
 | .sb _ _ _,c0,y,b=>by simp only [vaf];trivial
 | .ad _ _,c0,y,b=>by simp only [vaf];trivial
 | .ea _ _ _ _,c0,y,b=>by simp only [vaf];trivial
 | .ei _ _ _ _ _ _,c0,y,b=>by simp only [vaf];trivial
 | .sz _ _,c0,y,b=>by simp only [vaf];trivial
 | .ez _ _,c0,y,b=>by simp only [vaf];trivial
 | .tp _,c0,y,b=>by simp only [vaf];trivial
 | .un,c0,y,b=>by simp only [vaf];trivial
theorem vof (h:rn) (h2:wn) (q:Bool) (V:Nat):∀(xs:List TV) (cs0 ys:List CV) (b:Nat),Loc R W rn wn (vbh q V b xs cs0 ys)
 | [],cs0,ys,b=>by simp only [vbh];trivial
 |x::xs,[],ys,b=>by simp only [vbh];trivial
 |x::xs,c0::cs0,[],b=>by simp only [vbh];trivial
 |x::xs,c0::cs0,y::ys,b=>by simp only [vbh];exact (vt0 h h2 q V x c0 y b).bind λ_=>vof h h2 q V xs cs0 ys _
end
theorem qun (h:rn) (z:Bool) (n:Nat) (x:TV):Loc R W rn wn (frz1 z n x):=by
 unfold frz1;split
 ·exact (vse h false depth 0 x).bind λy=>by
   split
   ·exact vbb _
   ·exact vdz
 ·exact vse h z depth n x
theorem vw4 (h:rn) (keeps:Bool):∀(ms:List Md) (xs:List TV) (ys:List CV),Loc R W rn wn (show_ keeps ms xs ys)
 | [],[],[]=>by unfold show_;trivial
 | .ro n::ms,x::xs,y::ys=>by unfold show_;exact (qun h keeps n x).bind λ_=>(vw4 h keeps ms xs ys).bind λ_=>vbb _
 | .mut _::ms,_::xs,y::ys=>by unfold show_;exact (vw4 h keeps ms xs ys).bind λ_=>vbb _
 | [],[],_::_=>by unfold show_;trivial
 | [],_::_,_=>by unfold show_;trivial
 | .ro _::_,[],_=>by unfold show_;trivial
 | .ro _::_,_::_,[]=>by unfold show_;trivial
 | .mut _::_,[],_=>by unfold show_;trivial
 | .mut _::_,_::_,[]=>by unfold show_;trivial
theorem qcs (h:rn) (h2:wn) (keeps:Bool):∀(ms:List Md) (xs:List TV),Loc R W rn wn (lend keeps ms xs)
 | [],[]=>by unfold lend;trivial
 | .ro n::ms,x::xs=>by unfold lend;exact (qcs h h2 keeps ms xs).bind λ_=>vbb _
 | .mut n::ms,x::xs=>by
  have h0:Loc R W rn wn (lend0 keeps x):=by
   unfold lend0;split
   ·exact vbb _
   ·exact qae h h2 keeps depth x
  unfold lend;exact h0.bind λ_=>(qcs h h2 keeps ms xs).bind λ_=>vbb _
 | [],_::_=>by unfold lend;trivial
 | .ro _::_,[]=>by unfold lend;trivial
 | .mut _::_,[]=>by unfold lend;trivial
theorem vx0 (h:rn) (h2:wn) (keeps:Bool) (v:Nat):∀(ms:List Md) (xs:List TV) (ys:List CV),Loc R W rn wn (vbs keeps v ms xs ys)
 | [],[],[]=>by unfold vbs;trivial
 | .ro n::ms,x::xs,y::ys=>by unfold vbs;exact (vx0 h h2 keeps v ms xs ys).bind λ_=>vbb _
 | .mut n::ms,x::xs,y::ys=>by
  unfold vbs;refine (?_:Loc R W rn wn (lend1 keeps v x y)).bind λ_=>(vx0 h h2 keeps v ms xs ys).bind λ_=>vbb _;unfold lend1;split
  ·refine (vc5 h).bind λ_=> ?_;split
   ·split
    ·trivial
    ·split
     ·exact (vbk h2 _).bind λ_=>vbb _
     ·trivial
   ·trivial
  ·exact vbb _
 | [],[],_::_=>by unfold vbs;trivial
 | [],_::_,_=>by unfold vbs;trivial
 | .ro _::_,[],_=>by unfold vbs;trivial
 | .ro _::_,_::_,[]=>by unfold vbs;trivial
 | .mut _::_,[],_=>by unfold vbs;trivial
 | .mut _::_,_::_,[]=>by unfold vbs;trivial
theorem qpi (h:rn) (h2:wn) (q:Bool) (V b:Nat) (x:TV) (c f:CV):Loc R W rn wn (back1 q V b x c f):=by
 unfold back1;split
 ·split
  ·refine (vc5 h).bind λ_=> ?_;split
   ·split
    ·exact (vbk h2 _).bind λ_=>vbb _
    ·trivial
   ·trivial
  ·trivial
 ·exact vt0 h h2 q V x c f b
theorem vsh (h:rn) (h2:wn) (q:Bool) (V:Nat):∀(ms:List Md) (xs:List TV) (cs fs:List CV) (b:Nat),Loc R W rn wn (van q V b ms xs cs fs)
 | [],[],[],[],b=>by simp only [van];trivial
 | .ro _::ms,x::xs,c::cs,fs,b=>by simp only [van];exact vsh h h2 q V ms xs cs fs b
 | .mut _::ms,x::xs,c::cs,f::fs,b=>by simp only [van];exact (qpi h h2 q V b x c f).bind λ_=>vsh h h2 q V ms xs cs fs _
 | [],_::_,_,_,b=>by simp only [van];trivial
 | [],[],_::_,_,b=>by simp only [van];trivial
 | [],[],[],_::_,b=>by simp only [van];trivial
 | .ro _::_,[],_,_,b=>by simp only [van];trivial
 | .ro _::_,_::_,[],_,b=>by simp only [van];trivial
 | .mut _::_,[],_,_,b=>by simp only [van];trivial
 | .mut _::_,_::_,[],_,b=>by simp only [van];trivial
 | .mut _::_,_::_,_::_,[],b=>by simp only [van];trivial
def Still (c:Callee):Prop:=(∀m∈c.modes,∃n,m= .ro n)/\c.scalar=true
theorem vyn (keeps:Bool):∀(ms:List Md) (xs:List TV),(∀m∈ms,∃n,m= .ro n)->Loc R W rn wn (lend keeps ms xs)
 | [],[],_=>by unfold lend;trivial
 | [],_::_,_=>by unfold lend;trivial
 |m::ms,xs,h=>by
  obtain ⟨n,rfl⟩:=h m (by simp);cases xs with
  |nil=>unfold lend;trivial
  |cons x xs=>unfold lend;exact (vyn keeps ms xs λm hm=>h m (by simp [hm])).bind λ_=>vbb _
theorem vwr (keeps:Bool) (v:Nat):∀(ms:List Md) (xs:List TV) (ys:List CV),(∀m∈ms,∃n,m= .ro n)->Loc R W rn wn (vbs keeps v ms xs ys)
 | [],[],[],_=>by unfold vbs;trivial
 | [],[],_::_,_=>by unfold vbs;trivial
 | [],_::_,_,_=>by unfold vbs;trivial
 |m::ms,xs,ys,h=>by
  obtain ⟨n,rfl⟩:=h m (by simp);cases xs with
  |nil=>unfold vbs;trivial
  |cons x xs=>
   cases ys with
   |nil=>unfold vbs;trivial
   |cons y ys=>unfold vbs;exact (vwr keeps v ms xs ys λm hm=>h m (by simp [hm])).bind λ_=>vbb _
theorem vs7 (q:Bool) (V:Nat):∀(ms:List Md) (xs:List TV) (cs fs:List CV) (b:Nat),(∀m∈ms,∃n,m= .ro n)->Loc R W rn wn (van q V b ms xs cs fs)
 | [],[],[],[],b,_=>by simp only [van];trivial
 | [],_::_,_,_,b,_=>by simp only [van];trivial
 | [],[],_::_,_,b,_=>by simp only [van];trivial
 | [],[],[],_::_,b,_=>by simp only [van];trivial
 |m::ms,xs,cs,fs,b,h=>by
  obtain ⟨n,rfl⟩:=h m (by simp);cases xs with
  |nil=>simp only [van];trivial
  |cons x xs=>
   cases cs with
   |nil=>simp only [van];trivial
   |cons c cs=>simp only [van];exact vs7 q V ms xs cs fs b λm hm=>h m (by simp [hm])
theorem qqa (h:rn) (h2:wn) (c:Option Callee) (vs:List TV) (tv:TV):Loc R W rn wn (alsIn c vs tv):=by
 unfold alsIn;split
 ·split
  ·refine (vc5 h).bind λn=> ?_;split
   ·exact vbk h2 _
   ·trivial
  ·trivial
 ·trivial
theorem vuv (h:rn) (c:Option Callee) (hc:∀c',c=some c'->wn\/Still c') (b:Nat) (xs:List TV):Loc R W rn wn (callM c b xs):=by
 cases c with
 |none=>trivial
 |some c=>
  unfold callM;rcases hc c rfl with h2|⟨h2,h3⟩
  ·refine ((qcs h h2 _ _ _).bind λps=>vx0 h h2 _ _ _ _ _:Loc R W rn wn (lendA _ _ _ _)).bind λps=>(vw4 h _ _ _ _).bind λcs=> ?_;split
   ·trivial
   ·refine (vsh h h2 _ _ _ _ _ _ _).bind λb'=> ?_;split
    ·split
     ·exact (vbe _).bind λ_=>vbb _
     ·trivial
    ·unfold vd5;refine (vjo h2 _ _ _).bind λr=> ?_;split<;>trivial
  ·refine ((vyn _ _ _ h2).bind λps=>vwr _ _ _ _ _ h2:Loc R W rn wn (lendA _ _ _ _)).bind λps=>(vw4 h _ _ _ _).bind λcs=> ?_;split
   ·trivial
   ·refine (vs7 _ _ _ _ _ _ _ h2).bind λb'=> ?_;rw [if_pos h3];split
    ·exact (vbe _).bind λ_=>vbb _
    ·trivial
end
theorem qoc {R W:Nat->Prop} {rn wn:Prop} (h:rn) (h2:wn) (c:Option Callee) (vs:List TV) (tv:TV):Loc R W rn wn (alsIn2 c vs tv):=by
 unfold alsIn2;split
 ·exact qqa h h2 _ _ _
 ·trivial
theorem qp3 {R W:Nat->Prop} {rd wr:Prop} (hr:rd) (hw:wr) (e:Nat) (z:Value) (v:TV):Loc R W rd wr (clrAt e z v):=by
 unfold clrAt;split
 ·refine (vc5 hr).bind λn=> ?_;split
  ·split
   ·exact vbk hw _
   ·trivial
  ·trivial
 ·trivial
theorem qt3 {Φ : Nat -> Option Callee} {writes : Nat -> Bool} (hΦ : ∀ f c, Φ f = some c -> writes f = false -> Still c) (b : Nat) (op : VOp) {R W : Nat -> Prop} (hR : ∀ t ∈ op.uses, R t) (hW : ∀ t, op.dst = some t -> W t) :
    Loc R W (1 <= op.rank writes) (op.rank writes = 2) (exec Φ b op) := by
  have puts : ∀ {rn wn : Prop} (d : Option Nat) (v : TV), (∀ t, d = some t -> W t) -> Loc R W rn wn (putO d v) := by
    intro rn wn d v h;cases d with
    | none => trivial
    | some d => exact vcq (h d rfl) v
  cases op with
  | mov d x => exact (vcn hR).bind λ_ => vcq (hW d rfl) _
  | pick d c x y =>
    simp only [VOp.uses, Aa] at hR;simp only [exec];refine (vcn λt ht => hR t (.inl (.inl ht))).bind λu => ?_;split
    · split
      · exact (vcn λt ht => hR t (.inl (.inr ht))).bind λ_ => vcq (hW d rfl) _
      · exact (vcn λt ht => hR t (.inr ht)).bind λ_ => vcq (hW d rfl) _
    · trivial
  | alloc d zs =>
    simp only [exec];split
    · trivial
    · exact (vbk rfl _).bind λ_ => vcq (hW d rfl) _
  | box d x =>
    simp only [exec];refine (vcn hR).bind λv => (vbe _).bind λcs => ?_;split
    · trivial
    · exact (vbk rfl _).bind λ_ => vcq (hW d rfl) _
  | build d zs ps => exact (qbj ps hR _).bind λ_ => vcq (hW d rfl) _
  | bsl d e m zs n ps => exact (quv (by simp [VOp.rank]) rfl _ _ _ _ hR _).bind λ_ => (vbk rfl _).bind λ_ => vcq (hW d rfl) _
  | load d w x => exact (vcn hR).bind λv => (qa6 (by simp [VOp.rank]) _ _).bind λ_ => vcq (hW d rfl) _
  | lda d x =>
    refine (vcn hR).bind λv => (qa6 (by simp [VOp.rank]) _ _).bind λu => ?_;unfold atomS;split
    · exact vcq (hW d rfl) _
    · trivial
  | store w x y =>
    simp only [VOp.uses, Aa] at hR;exact (vcn λt ht => hR t (.inl ht)).bind λ_ => (vcn λt ht => hR t (.inr ht)).bind λ_ => (qa0 (by simp [VOp.rank]) rfl _ _ _).bind λ_ => qhj (by simp [VOp.rank]) rfl _ _ _ _
  | nilck d x =>
    have hrn : 1 <= (VOp.nilck d x).rank writes := by simp [VOp.rank]
    have hd := hW d rfl;simp only [exec];refine (vcn hR).bind λv => ?_;split <;> first
      | exact vcq hd _
      | trivial
      | (refine (vc5 hrn).bind λ_ => ?_
         split <;> first | exact vcq hd _ | trivial)
  | bin d op x y =>
    simp only [VOp.uses, Aa] at hR;simp only [exec];refine (vcn λt ht => hR t (.inl ht)).bind λ_ => (vcn λt ht => hR t (.inr ht)).bind λ_ => ?_;split
    · exact (vbe _).bind λ_ => vcq (hW d rfl) _
    · trivial
  | beq d ne n x y =>
    simp only [VOp.uses, Aa] at hR;simp only [exec];refine (vcn λt ht => hR t (.inl ht)).bind λ_ => (vcn λt ht => hR t (.inr ht)).bind λ_ => ?_;split
    · exact vcq (hW d rfl) _
    · exact (vbe _).bind λ_ => vcq (hW d rfl) _
    · trivial
  | un d op x =>
    simp only [exec];refine (vcn hR).bind λ_ => ?_;split
    · exact (vbe _).bind λ_ => vcq (hW d rfl) _
    · trivial
  | cvi d k x =>
    simp only [exec];refine (vcn hR).bind λ_ => ?_;split
    · exact vcq (hW d rfl) _
    · trivial
  | cvs d x =>
    simp only [exec];refine (vcn hR).bind λ_ => ?_;split
    · exact vcq (hW d rfl) _
    · trivial
  | s2b d e x =>
    simp only [exec];refine (vcn hR).bind λ_ => ?_;split
    · split
      · exact (vbk rfl _).bind λ_ => vcq (hW d rfl) _
      · trivial
    · trivial
  | fl d => trivial
  | b2s d e x =>
    simp only [exec];refine (vcn hR).bind λ_ => (vrt (by simp [VOp.rank]) _).bind λ_ => ?_;split
    · exact (vbe _).bind λ_ => vcq (hW d rfl) _
    · trivial
  | mkf d f fs cs =>
    simp only [VOp.uses, Aa] at hR;exact (vnb λt ht => hR t (.inl ht)).bind λ_ => (vnb λt ht => hR t (.inr ht)).bind λ_ => vcq (hW d rfl) _
  | mki d t x => exact (vcn hR).bind λ_ => vcq (hW d rfl) _
  | mks d e bytes zs x =>
    simp only [exec];refine (vcn hR).bind λ_ => ?_;split
    · split
      · exact (vbk rfl _).bind λ_ => vcq (hW d rfl) _
      · trivial
    · trivial
  | slc0 d e x =>
    simp only [exec];refine (vcn hR).bind λ_ => (vrt (by simp [VOp.rank]) _).bind λ_ => ?_;split
    · exact (vbk rfl _).bind λ_ => vcq (hW d rfl) _
    · trivial
  | slc d e x lo hi =>
    simp only [VOp.uses, Aa] at hR;exact (vcn λt ht => hR t (.inl (.inl ht))).bind λ_ => (vun λt ht => hR t (.inl (.inr ht))).bind λ_ => (vun λt ht => hR t (.inr ht)).bind λ_ => (qi5 (by simp [VOp.rank]) _ _ _ _).bind λ_ => vcq (hW d rfl) _
  | sslc d x lo hi =>
    simp only [VOp.uses, Aa] at hR;exact (vcn λt ht => hR t (.inl (.inl ht))).bind λ_ => (vun λt ht => hR t (.inl (.inr ht))).bind λ_ => (vun λt ht => hR t (.inr ht)).bind λ_ => (qru _ _ _).bind λ_ => vcq (hW d rfl) _
  | fad d x off => exact (vcn hR).bind λv => (qil (by simp [VOp.rank]) _ _).bind λ_ => vcq (hW d rfl) _
  | fld d x off w =>
    simp only [exec];refine (vcn hR).bind λ_ => ?_;split
    · exact (vbe _).bind λ_ => vcq (hW d rfl) _
    · trivial
  | iad d e m x i =>
    simp only [VOp.uses, Aa] at hR;simp only [exec];refine (vcn λt ht => hR t (.inl ht)).bind λ_ => (vcn λt ht => hR t (.inr ht)).bind λ_ => ?_;split
    · exact (qie (by simp [VOp.rank]) _ _ _ _).bind λ_ => vcq (hW d rfl) _
    · trivial
  | ix d x i =>
    simp only [VOp.uses, Aa] at hR;simp only [exec];refine (vcn λt ht => hR t (.inl ht)).bind λ_ => (vcn λt ht => hR t (.inr ht)).bind λ_ => ?_;split
    · exact (vbe _).bind λ_ => vcq (hW d rfl) _
    · trivial
  | len d x => exact (vcn hR).bind λv => (vrt (by simp [VOp.rank]) _).bind λ_ => vcq (hW d rfl) _
  | slen d x =>
    simp only [exec];refine (vcn hR).bind λ_ => ?_;split
    · exact vcq (hW d rfl) _
    · trivial
  | mmx d isMax xs =>
    simp only [exec];refine (vnb hR).bind λ_ => ?_;split
    · exact (vbe _).bind λ_ => vcq (hW d rfl) _
    · trivial
  | app d e bytes mv x y =>
    simp only [VOp.uses, Aa] at hR;exact (vcn λt ht => hR t (.inl ht)).bind λ_ => (vcn λt ht => hR t (.inr ht)).bind λ_ => (qjp (by simp [VOp.rank]) rfl _ _ _ _ _ _).bind λ_ => vcq (hW d rfl) _
  | ext d x i =>
    simp only [exec];refine (vcn hR).bind λ_ => ?_;split
    · exact (vbe _).bind λ_ => vcq (hW d rfl) _
    · trivial
  | call d f xs =>
    refine (vnb hR).bind λvs => (vuv (by simp only [VOp.rank]; split <;> omega) _ (λc hc => ?_) _ _).bind λ_ => puts _ _ hW;simp only [VOp.rank];by_cases hw : writes f = true
    · rw [if_pos hw]; exact .inl rfl
    · exact .inr (hΦ f c hc (by simpa using hw))
  | cala d f xs =>
    exact (vnb hR).bind λvs => (vuv (by simp [VOp.rank]) _ (λc hc => .inl rfl) _ _).bind λtv => (qoc (by simp [VOp.rank]) rfl _ _ _).bind λ_ => puts _ _ hW
  | calv d f xs =>
    simp only [VOp.uses, Aa] at hR;simp only [exec];refine (vcn λt ht => hR t (.inl ht)).bind λg => ?_;split
    · exact (vnb λt ht => hR t (.inr ht)).bind λvs => (vuv (by simp [VOp.rank]) _ (λc hc => .inl rfl) _ _).bind λ_ => puts _ _ hW
    · trivial
  | cali d t f x xs =>
    simp only [VOp.uses, Aa] at hR;simp only [exec];refine (vcn λt ht => hR t (.inl ht)).bind λg => ?_;split
    · split
      · exact (vnb λt ht => hR t (.inr ht)).bind λvs => (vuv (by simp [VOp.rank]) _ (λc hc => .inl rfl) _ _).bind λ_ => puts _ _ hW
      · trivial
    · trivial
  | clr e z x =>
    simp only [exec];exact (vcn hR).bind λv => qp3 (by simp [VOp.rank]) rfl _ _ _
def VOper.reads (o:VOper):List Nat:=(o.guard.map (·.1)).toList++o.op.uses
theorem qdw {Φ:Nat->Option Callee} {writes:Nat->Bool} (hΦ:∀f c,Φ f=some c->writes f=false->Still c) (b:Nat) (o:VOper) (hd:o.guard=none\/o.op.dst=o.dst):
  Loc (λt=>t∈o.reads) (λt=>o.op.dst=some t) (1<=o.op.rank writes) (o.op.rank writes=2) (execG Φ b o):=by
 have hx:=qt3 hΦ b o.op (R:=λt=>t∈o.reads) (W:=λt=>o.op.dst=some t) (λt ht=>by unfold VOper.reads;exact Aa.2 (.inr ht)) λt ht=>ht;have puts:∀(v:TV),o.op.dst=o.dst->Loc (λt=>t∈o.reads) (λt=>o.op.dst=some t) (1<=o.op.rank writes) (o.op.rank writes=2) (putO o.dst v):=by
  intro v e;rw [<-e];cases hdd:o.op.dst with
  |none=>trivial
  |some d=>exact ⟨rfl,trivial⟩
 unfold execG;split
 ·exact hx
 ·rename_i t want hg;have hd':o.op.dst=o.dst:=hd.resolve_left (by rw [hg];simp);refine (qio (by unfold VOper.reads;rw [hg];simp)).bind λu=> ?_;split
  ·split
   ·exact hx
   ·exact puts _ hd'
  ·exact puts _ hd'
  ·trivial
theorem vly {α β:Type} (x:M α) {f:α->M β} {s:St}:(x.bind f).run s=(match x.run s with|some (a,s')=>(f a).run s'|none=>none):=by
 induction x generalizing s with
 |pure x=>rfl
 |fail=>rfl
 |getS t k ih=>exact ih _
 |setS t v k ih=>exact ih
 |getN id k ih=>exact ih _
 |setN id n k ih=>exact ih
def RdK {α:Type} (R U:Nat->Prop) (post:α->Prop):M α->Prop
 | .pure x=>post x
 | .fail=>True
 | .getS t k=>R t/\∀v,idsIn U v->RdK R U post (k v)
 | .getN id k=>U id/\∀n,(∀m,n=some m->m.idsIn U)->RdK R U post (k n)
 | .setS _ _ _=>False
 | .setN _ _ _=>False
def WrK {α:Type} (W B:Nat->Prop):M α->Prop
 | .pure _=>True
 | .fail=>True
 | .getS _ _=>False
 | .getN _ _=>False
 | .setS t _ k=>W t/\WrK W B k
 | .setN id _ k=>B id/\WrK W B k
abbrev any {α:Type}:α->Prop:=λ_=>True
section
variable {R W U B:Nat->Prop}
theorem RdK.bind {α β:Type} {post:α->Prop} {post':β->Prop} {m:M α} {k:α->M β} (h:RdK R U post m) (hk:∀x,post x->RdK R U post' (k x)):RdK R U post' (m.bind k):=by
 induction m with
 |pure x=>exact hk x h
 |fail=>exact trivial
 |getS t k' ih=>exact ⟨h.1,λv hv=>ih v (h.2 v hv)⟩
 |getN id k' ih=>exact ⟨h.1,λn hn=>ih n (h.2 n hn)⟩
 |setS t v k' ih=>exact h.elim
 |setN id n k' ih=>exact h.elim
theorem RdK.bindA {α β:Type} {post:α->Prop} {m:M α} {k:α->M β} (h:RdK R U post m) (hk:∀x,post x->RdK R U any (k x)):RdK R U any (m.bind k):=h.bind hk
theorem RdK.mono {α:Type} {post post':α->Prop} {m:M α} (h:RdK R U post m) (hp:∀x,post x->post' x):RdK R U post' m:=by
 induction m with
 |pure x=>exact hp x h
 |fail=>exact trivial
 |getS t k' ih=>exact ⟨h.1,λv hv=>ih v (h.2 v hv)⟩
 |getN id k' ih=>exact ⟨h.1,λn hn=>ih n (h.2 n hn)⟩
 |setS t v k' ih=>exact h.elim
 |setN id n k' ih=>exact h.elim
theorem WrK.bind {α β:Type} {m:M α} {k:α->M β} (h:WrK W B m) (hk:∀x,WrK W B (k x)):WrK W B (m.bind k):=by
 induction m with
 |pure x=>exact hk x
 |fail=>exact trivial
 |getS t k' ih=>exact h.elim
 |getN id k' ih=>exact h.elim
 |setS t v k' ih=>exact ⟨h.1,ih h.2⟩
 |setN id n k' ih=>exact ⟨h.1,ih h.2⟩
structure Clean (R U:Nat->Prop) (st:St):Prop where
 slots:∀t,R t->idsIn U (st.slot t)
 nodes:∀id n,U id->st.node id=some n->n.idsIn U
theorem vx3 {α:Type} {post:α->Prop} {st:St} (hc:Clean R U st):∀{m:M α},RdK R U post m->∀{r:α} {s:St},m.run st=some (r,s)->s=st/\post r/\
  ∀st':St,(∀t,R t->st'.slot t=st.slot t)->(∀id,U id->st'.node id=st.node id)->m.run st'=some (r,st')
 | .pure x,h,r,s,hr=>by
  cases run_pure hr;exact ⟨rfl,h,λ_ _ _=>rfl⟩
 | .fail,_,r,s,hr=>(vac hr).elim
 | .getS t k,h,r,s,hr=>by
  obtain ⟨h1,h2,h3⟩:=vx3 hc (h.2 _ (hc.slots t h.1)) hr;refine ⟨h1,h2,λst' ha hb=> ?_⟩;simp only [M.run];rw [ha t h.1];exact h3 st' ha hb
 | .getN id k,h,r,s,hr=>by
  obtain ⟨h1,h2,h3⟩:=vx3 hc (h.2 (st.node id) λm hm=>hc.nodes id m h.1 hm) hr;refine ⟨h1,h2,λst' ha hb=> ?_⟩;simp only [M.run];rw [hb id h.1];exact h3 st' ha hb
 | .setS _ _ _,h,_,_,_=>h.elim
 | .setN _ _ _,h,_,_,_=>h.elim
theorem vxz {α:Type}:∀{m:M α},WrK W B m->∀{st:St} {r:α} {s:St},m.run st=some (r,s)->∃ds dn,s=⟨ds++st.slots,dn++st.nodes,st.next⟩/\(∀x∈ds,W x.1)/\(∀x∈dn,B x.1)/\
  ∀st':St,m.run st'=some (r,⟨ds++st'.slots,dn++st'.nodes,st'.next⟩)
 | .pure x,_,st,r,s,hr=>by
  cases run_pure hr;exact ⟨[],[],rfl,by simp,by simp,λ_=>rfl⟩
 | .fail,_,st,r,s,hr=>(vac hr).elim
 | .getS _ _,h,_,_,_,_=>h.elim
 | .getN _ _,h,_,_,_,_=>h.elim
 | .setS t v k,h,st,r,s,hr=>by
  obtain ⟨ds,dn,e,h1,h2,h3⟩:=vxz h.2 hr;refine ⟨ds++ [(t,v)],dn,by simpa using e,λx hx=> ?_,h2,λst'=> ?_⟩
  ·rcases Aa.1 hx with hx|hx
   ·exact h1 x hx
   ·simp only [Ab] at hx;subst hx;exact h.1
  ·have:=h3 {st' with slots:=(t,v)::st'.slots};simpa [M.run] using this
 | .setN id n k,h,st,r,s,hr=>by
  obtain ⟨ds,dn,e,h1,h2,h3⟩:=vxz h.2 hr;refine ⟨ds,dn++ [(id,n)],by simpa using e,h1,λx hx=> ?_,λst'=> ?_⟩
  ·rcases Aa.1 hx with hx|hx
   ·exact h2 x hx
   ·simp only [Ab] at hx;subst hx;exact h.1
  ·have:=h3 {st' with nodes:=(id,n)::st'.nodes};simpa [M.run] using this
def FootK {α:Type} (R W U B:Nat->Prop) (m:M α):Prop:=∀st,Clean R U st->∀{r:α} {s:St},m.run st=some (r,s)->∃ds dn,s=⟨ds++st.slots,dn++st.nodes,st.next⟩/\(∀x∈ds,W x.1)/\(∀x∈dn,B x.1)/\
  ∀st':St,(∀t,R t->st'.slot t=st.slot t)->(∀id,U id->st'.node id=st.node id)->m.run st'=some (r,⟨ds++st'.slots,dn++st'.nodes,st'.next⟩)
theorem WrK.foot {α:Type} {m:M α} (h:WrK W B m):FootK R W U B m:=by
 intro st _ r s hr;obtain ⟨ds,dn,h1,h2,h3,h4⟩:=vxz h hr;exact ⟨ds,dn,h1,h2,h3,λst' _ _=>h4 st'⟩
theorem RdK.foot {α β:Type} {post:α->Prop} {m:M α} {k:α->M β} (h:RdK R U post m) (hk:∀x,post x->FootK R W U B (k x)):FootK R W U B (m.bind k):=by
 intro st hc r s hr;obtain ⟨x,s1,h1,h2⟩:=vaa hr;obtain ⟨rfl,hp,h3⟩:=vx3 hc h h1;obtain ⟨ds,dn,k1,k2,k3,k4⟩:=hk x hp _ hc h2;refine ⟨ds,dn,k1,k2,k3,λst' ha hb=> ?_⟩;rw [vly,h3 st' ha hb];exact k4 st' ha hb
theorem vew {α:Type}:FootK R W U B (M.fail:M α):=WrK.foot trivial
theorem qhg {α β:Type} {R1 W1 B1 R2 W2 B2:Nat->Prop} {m1:M α} {m2:M β} (h1:FootK R1 W1 U B1 m1) (h2:FootK R2 W2 U B2 m2) (hs1:∀t,W1 t->¬R2 t/\¬W2 t) (hs2:∀t,W2 t->¬R1 t)
  (hb1:∀i,B1 i->¬U i) (hb2:∀i,B2 i->¬U i) (hbb:∀i,B1 i->¬B2 i) {st s1 s2:St} (hc1:Clean R1 U st) (hc2:Clean R2 U st) {x:α} {y:β} (hr1:m1.run st=some (x,s1)) (hr2:m2.run s1=some (y,s2)):
  ∃s1' s2',m2.run st=some (y,s1')/\m1.run s1'=some (x,s2')/\Same s2' s2:=by
 obtain ⟨ds1,dn1,rfl,w1,n1,k1⟩:=h1 st hc1 hr1;have no1:∀t,R2 t->look ds1 t=none:=λt ht=>vc0 λz hz e=>(hs1 z.1 (w1 z hz)).1 (e▸ht);have nn1:∀i,U i->look dn1 i=none:=λi hi=>vc0 λz hz e=>hb1 z.1 (n1 z hz) (e▸hi);have es:∀t,R2 t->({slots:=ds1++st.slots,nodes:=dn1++st.nodes,next:=st.next}:St).slot t=st.slot t:=λt ht=>by rw [vmz,no1 t ht];simp [St.slot]
 have en:∀i,U i->({slots:=ds1++st.slots,nodes:=dn1++st.nodes,next:=st.next}:St).node i=st.node i:=λi hi=>by rw [vmu,nn1 i hi];simp [St.node]
 obtain ⟨ds2,dn2,rfl,w2,n2,k2⟩:=h2 _ ⟨λt ht=>by rw [es t ht];exact hc2.slots t ht,λi n hi hn=>hc2.nodes i n hi (by rw [<-en i hi];exact hn)⟩ hr2;have no2:∀t,R1 t->look ds2 t=none:=λt ht=>vc0 λz hz e=>hs2 z.1 (w2 z hz) (e▸ht);have nn2:∀i,U i->look dn2 i=none:=λi hi=>vc0 λz hz e=>hb2 z.1 (n2 z hz) (e▸hi);have e1:m2.run st=some (y,⟨ds2++st.slots,dn2++st.nodes,st.next⟩):=k2 st (λt ht=>(es t ht).symm) λi hi=>(en i hi).symm;have e2:=k1 ⟨ds2++st.slots,dn2++st.nodes,st.next⟩ (λt ht=>by rw [vmz,no2 t ht];simp [St.slot]) (λi hi=>by rw [vmu,nn2 i hi];simp [St.node]);refine ⟨_,_,e1,e2,λt=> ?_,λi=> ?_⟩
 ·simp only [St.slot,vd3];by_cases hw:W1 t
  ·have:look ds2 t=none:=vc0 λz hz e=>(hs1 t hw).2 (e▸w2 z hz);rw [this];simp
  ·have:look ds1 t=none:=vc0 λz hz e=>hw (e▸w1 z hz);rw [this];simp
 ·simp only [St.node,vd3];by_cases hw:B1 i
  ·have:look dn2 i=none:=vc0 λz hz e=>hbb i hw (e▸n2 z hz);rw [this];simp
  ·have:look dn1 i=none:=vc0 λz hz e=>hw (e▸n1 z hz);rw [this];simp
theorem vok {α:Type} (o:Option α):RdK R U any (liftO o):=by cases o<;>trivial
theorem vkm {id:Nat} (h:U id):RdK R U (λn=>∀m,n=some m->m.idsIn U) (getN id):=⟨h,λ_ hn=>hn⟩
theorem vj2 {x:Opd} (h:∀t∈x.used,R t):RdK R U (idsIn U) (opd x):=by
 cases x with
 |t n=>exact ⟨h n (by simp [Opd.used]),λv hv=>hv⟩
 |c v=>trivial
 |nl e=>trivial
 |f g=>exact ⟨trivial,trivial⟩
theorem qhs:∀{xs:List Opd},(∀t∈xs.flatMap (·.used),R t)->RdK R U (vap U) (opds xs)
 | [],_=>trivial
 |x::xs,h=>(vj2 λt ht=>h t (by simp [ht])).bind λv hv=>(qhs λt ht=>h t (by
   simp only [Ac,Aa];exact .inr ht)).bind λvs hvs=>⟨hv,hvs⟩
theorem qd8 {y:Option Opd} (h:∀t∈(y.map (·.used)).getD [],R t):RdK R U any (bound y):=by
 cases y with
 |none=>trivial
 |some y=>
  refine (vj2 h).bind λu _=> ?_;split<;>trivial
theorem vx5 {v : TV} (h : idsIn U v) : RdK R U any (elems v) := by
  cases v <;> first
    | trivial
    | (refine (vkm (by first | exact h | exact h.1)).bind λn _ => ?_
       repeat' split
       all_goals trivial)
theorem vz7 {w : Option Nat} {v : TV} (h : idsIn U v) : RdK R U any (loadAt w v) := by
  cases v <;> first
    | trivial
    | exact vok _
    | (refine (vkm (by first | exact h | exact h.1)).bind λn _ => ?_
       repeat' split
       all_goals first | trivial | exact vok _)
theorem qkc {o : Nat} {v : TV} (h : idsIn U v) : RdK R U any (fieldAt o v) := by
  cases v <;> first
    | trivial
    | (refine (vkm (by first | exact h | exact h.1)).bind λn _ => ?_
       repeat' split
       all_goals trivial)
theorem qjq {e:Nat} {v:TV} {lo hi:Option Int} (h:idsIn U v):RdK R U any (sliceAt e v lo hi):=by
 unfold sliceAt;split
 ·split<;>trivial
 ·split<;>trivial
 ·refine (vkm h).bindA λn _=> ?_
  repeat' split
  all_goals trivial
 ·refine (vkm h).bindA λn _=> ?_
  repeat' split
  all_goals trivial
 ·trivial
theorem qgz {e m:Nat} {v:TV} {i:Int} (h:idsIn U v):RdK R U any (indexAt e m v i):=by
 unfold indexAt;refine (vx5 h).bind λr _=> ?_
 repeat' split
 all_goals trivial
mutual
theorem vsx (z:Bool):∀(k n:Nat) {x:TV},idsIn U x->RdK R U any (vba z k n x)
 |0,n,x,_=>by unfold vba;trivial
 |k+1,n,x,h=>by
  unfold vba;split
  ·trivial
  ·trivial
  ·trivial
  ·exact RdK.bindA (vlu z k h) λ_ _=>(trivial:RdK R U any (M.pure _))
  ·exact (vlu z k h.1).bindA λ_ _=>RdK.bindA (vlu z k h.2) λ_ _=>(trivial:RdK R U any (M.pure _))
  ·exact RdK.bindA (vsx z k _ h) λ_ _=>(trivial:RdK R U any (M.pure _))
  ·trivial
  ·refine (vkm h).bindA λn hn=> ?_;split
   ·split<;>trivial
   ·split
    ·trivial
    ·exact RdK.bindA (vlu z k (hn _ rfl)) λ_ _=>(trivial:RdK R U any (M.pure _))
   ·trivial
  ·split
   ·trivial
   ·refine (vkm h).bindA λn hn=> ?_
    repeat' split
    all_goals trivial
  ·split
   ·trivial
   ·refine (vkm h.1).bindA λn hn=> ?_
    repeat' split
    all_goals trivial
  ·split
   ·trivial
   ·refine (vkm h).bindA λn hn=> ?_;split
    ·split
     ·refine RdK.bind (post:=any) (vlu z k ?_) λ_ _=>(trivial:RdK R U any (M.pure _))
      have:=hn _ rfl;exact vdc λc hc=>vco this c (List.mem_of_mem_drop (List.mem_of_mem_take hc))
     ·trivial
    ·trivial
  ·trivial
theorem vlu (z:Bool):∀(k:Nat) {xs:List TV},vap U xs->RdK R U any (vbo z k xs)
 |0,xs,_=>by unfold vbo;trivial
 |k+1,[],_=>by unfold vbo;trivial
 |k+1,x::xs,h=>by
  unfold vbo;exact (vsx z k 0 h.1).bindA λ_ _=>RdK.bindA (vlu z k h.2) λ_ _=>(trivial:RdK R U any (M.pure _))
end
theorem quj (z:Bool) (n:Nat) {x:TV} (h:idsIn U x):RdK R U any (frz1 z n x):=by
 unfold frz1;split
 ·exact (vsx false depth 0 h).bindA λy _=>by
   split
   ·exact (trivial:RdK R U any (M.pure _))
   ·exact (trivial:RdK R U any M.fail)
 ·exact vsx z depth n h
theorem qcr (keeps:Bool):∀(ms:List Md) {xs:List TV} (ys:List CV),vap U xs->RdK R U any (show_ keeps ms xs ys)
 | [],[],[],_=>by unfold show_;trivial
 | .ro n::ms,x::xs,y::ys,h=>by unfold show_;exact (quj keeps n h.1).bindA λ_ _=>RdK.bindA (qcr keeps ms ys h.2) λ_ _=>(trivial:RdK R U any (M.pure _))
 | .mut _::ms,_::xs,y::ys,h=>by unfold show_;exact (qcr keeps ms ys h.2).bindA λ_ _=>(trivial:RdK R U any (M.pure _))
 | [],[],_::_,_=>by unfold show_;trivial
 | [],_::_,_,_=>by unfold show_;trivial
 | .ro _::_,[],_,_=>by unfold show_;trivial
 | .ro _::_,_::_,[],_=>by unfold show_;trivial
 | .mut _::_,[],_,_=>by unfold show_;trivial
 | .mut _::_,_::_,[],_=>by unfold show_;trivial
def AllRo (ms:List Md):Prop:=∀m∈ms,∃n,m= .ro n
theorem qjn (keeps:Bool):∀(ms:List Md) (xs:List TV),AllRo ms->RdK R U any (lend keeps ms xs)
 | [],[],_=>by unfold lend;trivial
 | [],_::_,_=>by unfold lend;trivial
 |m::ms,xs,h=>by
  obtain ⟨n,rfl⟩:=h m (by simp);cases xs with
  |nil=>unfold lend;trivial
  |cons x xs=>unfold lend;exact (qjn keeps ms xs λm hm=>h m (by simp [hm])).bind λ_ _=>trivial
theorem qd5 (keeps:Bool) (v:Nat):∀(ms:List Md) (xs:List TV) (ys:List CV),AllRo ms->RdK R U any (vbs keeps v ms xs ys)
 | [],[],[],_=>by unfold vbs;trivial
 | [],[],_::_,_=>by unfold vbs;trivial
 | [],_::_,_,_=>by unfold vbs;trivial
 |m::ms,xs,ys,h=>by
  obtain ⟨n,rfl⟩:=h m (by simp);cases xs with
  |nil=>unfold vbs;trivial
  |cons x xs=>
   cases ys with
   |nil=>unfold vbs;trivial
   |cons y ys=>unfold vbs;exact (qd5 keeps v ms xs ys λm hm=>h m (by simp [hm])).bind λ_ _=>trivial
theorem vwq (q:Bool) (V:Nat):∀(ms:List Md) (xs:List TV) (cs fs:List CV) (b:Nat),AllRo ms->RdK R U (λb'=>b'=b) (van q V b ms xs cs fs)
 | [],[],[],[],b,_=>by simp only [van];exact rfl
 | [],_::_,_,_,b,_=>by simp only [van];trivial
 | [],[],_::_,_,b,_=>by simp only [van];trivial
 | [],[],[],_::_,b,_=>by simp only [van];trivial
 |m::ms,xs,cs,fs,b,h=>by
  obtain ⟨n,rfl⟩:=h m (by simp);cases xs with
  |nil=>simp only [van];trivial
  |cons x xs=>
   cases cs with
   |nil=>simp only [van];trivial
   |cons c cs=>simp only [van];exact vwq q V ms xs cs fs b λm hm=>h m (by simp [hm])
def Grows (b:Nat) {α:Type} (m:M (α×Nat)):Prop:=∀(st:St) (r:α×Nat) (s:St),m.run st=some (r,s)->b<=r.2/\∃dn,s=⟨st.slots,dn++st.nodes,st.next⟩/\(∀y∈dn,b<=y.1/\y.1<r.2)/\
  ∀st':St,m.run st'=some (r,⟨st'.slots,dn++st'.nodes,st'.next⟩)
theorem vl3 {α:Type} (x:α) (b:Nat):Grows b (M.pure (x,b)):=by
 intro st r s hr;cases run_pure hr;exact ⟨Nat.le_refl _,[],rfl,by simp,λ_=>rfl⟩
theorem vsj {α β:Type} {m:M (α×Nat)} {k:α×Nat->M (β×Nat)} {b:Nat} (h:Grows b m) (hk:∀x:α×Nat,b<=x.2->Grows x.2 (k x)):Grows b (m.bind k):=by
 intro st r s hr;obtain ⟨x,s1,h1,h2⟩:=vaa hr;obtain ⟨g1,dn,rfl,g3,g4⟩:=h _ _ _ h1;obtain ⟨k1,dn',rfl,k3,k4⟩:=hk x g1 _ _ _ h2;refine ⟨Nat.le_trans g1 k1,dn'++dn,by simp,λy hy=> ?_,λst'=> ?_⟩
 ·rcases Aa.1 hy with hy|hy
  ·have:=k3 y hy;omega
  ·have:=g3 y hy;omega
 ·rw [vly,g4 st'];have:=k4 ⟨st'.slots,dn++st'.nodes,st'.next⟩;simpa using this
theorem vnd {α β:Type} {m:M (α×Nat)} {f:α->β} {b:Nat} (h:Grows b m):Grows b (m.bind λr=> .pure (f r.1,r.2)):=
 vsj h λx _=>vl3 _ _
mutual
theorem vvj (q:Bool):∀(c:CV) (b:Nat),Grows b (vay q b c)
 | .a v,b=>by unfold vay;exact vl3 _ _
 | .sl z e es,b=>by
  unfold vay;split
  ·exact vl3 _ _
  ·intro st r s hr;obtain ⟨u,s1,h1,h2⟩:=vaa hr;cases vby h1;cases run_pure h2;exact ⟨Nat.le_succ _,[(b,some (.sl q 0 e es))],rfl,λy hy=>by simp only [Ab] at hy;subst hy;exact ⟨Nat.le_refl _,Nat.lt_succ_self _⟩,λ_=>rfl⟩
 | .bx z cs,b=>by
  unfold vay;intro st r s hr;obtain ⟨x,s1,h1,h2⟩:=vaa hr;obtain ⟨g1,dn,rfl,g3,g4⟩:=vjp q cs (b+1) _ _ _ h1;obtain ⟨u,s2,h3,h4⟩:=vaa h2;cases vby h3;cases run_pure h4;dsimp only;refine ⟨zo,(b,some (.bx z x.1))::dn,rfl,λy hy=> ?_,λst'=> ?_⟩
  ·rcases List.mem_cons.1 hy with rfl|hy
   ·dsimp only;omega
   ·have:=g3 y hy;omega
  ·rw [vly,g4 st'];rfl
 | .st cs,b=>by unfold vay;exact vnd (vjp q cs b)
 | .tp cs,b=>by unfold vay;exact vnd (vjp q cs b)
 | .fn f fs cs,b=>by
  unfold vay;exact vsj (vjp q fs b) λp _=>vnd (f:=λr=>TV.fn f p.1 r) (vjp q cs p.2)
 | .ic t v,b=>by unfold vay;exact vnd (vvj q v b)
 | .un,b=>by unfold vay;exact vl3 _ _
theorem vjp (q:Bool):∀(cs:List CV) (b:Nat),Grows b (vbg q b cs)
 | [],b=>by unfold vbg;exact vl3 _ _
 |c::cs,b=>by
  unfold vbg;exact vsj (vvj q c b) λr _=>vnd (f:=λp=>r.1::p) (vjp q cs r.2)
end
def ownR (b:Nat):Nat->Prop:=λi=>b<=i/\i<b+100
theorem qc5 {q:Bool} {b:Nat} {rs:List CV} {d:Option Nat} (hW:∀t,d=some t->W t):FootK R W U (ownR b) ((vd5 q (b+99) b rs).bind (putO d)):=by
 intro st hc r s hr;obtain ⟨v,s1,h1,h2⟩:=vaa hr;unfold vd5 at h1;obtain ⟨x,s2,h3,h4⟩:=vaa h1;obtain ⟨g1,dn,rfl,g3,g4⟩:=vjp q rs b _ _ _ h3;split at h4
 ·rename_i hle;cases run_pure h4;have hput:∃ds,(∀y∈ds,W y.1)/\∀st':St,(putO d (oneOf x.1)).run st'=some ((),⟨ds++st'.slots,st'.nodes,st'.next⟩):=by
   cases d with
   |none=>exact ⟨[],by simp,λ_=>rfl⟩
   |some t=>exact ⟨[(t,oneOf x.1)],λy hy=>by simp only [Ab] at hy;subst hy;exact hW t rfl,λ_=>rfl⟩
  obtain ⟨ds,e1,e2⟩:=hput;rw [e2] at h2;cases h2;refine ⟨ds,dn,rfl,e1,λy hy=> ?_,λst' _ _=> ?_⟩
  ·have:=g3 y hy;exact ⟨this.1,zo⟩
  ·rw [vly];unfold vd5;rw [vly,g4 st'];simp only [if_pos hle];exact e2 _
 ·exact (vac h4).elim
theorem qba {d:Option Nat} (hW:∀t,d=some t->W t) (v:TV):WrK W B (putO d v):=by
 cases d with
 |none=>trivial
 |some t=>exact ⟨hW t rfl,trivial⟩
theorem qiv {c:Callee} (hc:AllRo c.modes) {b:Nat} {xs:List TV} (hx:vap U xs) {d:Option Nat} (hW:∀t,d=some t->W t):FootK R W U (ownR b) ((callM (some c) b xs).bind (putO d)):=by
 have assoc:∀{α β γ:Type} (m:M α) (f:α->M β) (g:β->M γ),(m.bind f).bind g=m.bind λx=>(f x).bind g:=by
  intro α β γ m f g;induction m with
  |pure x=>rfl
  |fail=>rfl
  |getS t k ih=>exact congrArg (M.getS t) (funext ih)
  |setS t v k ih=>exact congrArg (M.setS t v) ih
  |getN id k ih=>exact congrArg (M.getN id) (funext ih)
  |setN id n k ih=>exact congrArg (M.setN id n) ih
 unfold callM lendA;rw [assoc,assoc];refine (qjn _ _ _ hc).foot λps _=> ?_;refine (qd5 _ _ _ _ _ hc).foot λps _=> ?_;rw [assoc];refine (qcr _ _ _ hx).foot λcs _=> ?_;split
 ·exact vew
 ·rw [assoc];refine (vwq _ _ _ _ _ _ _ hc).foot λb' hb=> ?_;subst hb;split
  ·rw [if_pos zo,assoc];exact (vok _).foot λts _=>WrK.foot (qba hW _)
  ·exact qc5 hW
end
theorem qg0 {Φ:Nat->Option Callee} {writes:Nat->Bool} (hΦ:∀f c,Φ f=some c->writes (f+1000000)=false->AllRo c.modes) {R W U:Nat->Prop} (b:Nat) (op:VOp) (ho:op.own writes=true) (hR:∀t∈op.uses,R t) (hW:∀t,op.dst=some t->W t):
  FootK R W U (ownR b) (exec Φ b op):=by
 have wS:∀{d:Nat} {v:TV},W d->FootK R W U (ownR b) (setS d v):=λh=>WrK.foot ⟨h,trivial⟩;have own:ownR b b:=⟨Nat.le_refl _,zo⟩
 have wN:∀{d:Nat} {v:TV} {n:Option Node},W d->FootK R W U (ownR b) ((setN b n).bind λ_=>setS d v):=λh=>WrK.foot ⟨own,h,trivial⟩;cases op with
 |load d w x=>exact (vj2 hR).foot λv hv=>(vz7 hv).foot λ_ _=>wS (hW d rfl)
 |lda d x=>
  refine (vj2 hR).foot λv hv=>(vz7 hv).foot λu _=> ?_;unfold atomS;split
  ·exact wS (hW d rfl)
  ·exact WrK.foot trivial
 |slc d e x lo hi=>
  simp only [VOp.uses,Aa] at hR;exact (vj2 λt ht=>hR t (.inl (.inl ht))).foot λv hv=>(qd8 λt ht=>hR t (.inl (.inr ht))).foot λ_ _=>(qd8 λt ht=>hR t (.inr ht)).foot λ_ _=>(qjq hv).foot λ_ _=>wS (hW d rfl)
 |iad d e m x i=>
  simp only [VOp.uses,Aa] at hR;refine (vj2 λt ht=>hR t (.inl ht)).foot λv hv=>(vj2 λt ht=>hR t (.inr ht)).foot λu _=> ?_;split
  ·exact (qgz hv).foot λ_ _=>wS (hW d rfl)
  ·exact vew
 |len d x=>exact (vj2 hR).foot λv hv=>(vx5 hv).foot λ_ _=>wS (hW d rfl)
 |fad d x off=>exact (vj2 hR).foot λv hv=>(qkc hv).foot λ_ _=>wS (hW d rfl)
 |nilck d x=>
  refine (vj2 hR).foot λv hv=> ?_;split
  ·refine (vkm hv).foot λn _=> ?_;split
   ·exact wS (hW d rfl)
   ·exact vew
  ·exact wS (hW d rfl)
  ·refine (vkm hv).foot λn _=> ?_;split
   ·exact wS (hW d rfl)
   ·exact vew
  ·exact wS (hW d rfl)
  ·exact wS (hW d rfl)
  ·exact wS (hW d rfl)
  ·exact vew
 |alloc d zs=>
  simp only [exec];split
  ·exact vew
  ·exact wN (hW d rfl)
 |box d x=>
  refine (vj2 hR).foot λv hv=>(vok _).foot λcs _=> ?_;split
  ·exact vew
  ·exact wN (hW d rfl)
 |s2b d e x=>
  refine (vj2 hR).foot λv hv=> ?_;split
  ·split
   ·exact wN (hW d rfl)
   ·exact vew
  ·exact vew
 |mks d e bytes zs x=>
  refine (vj2 hR).foot λv hv=> ?_;split
  ·split
   ·exact wN (hW d rfl)
   ·exact vew
  ·exact vew
 |slc0 d e x=>
  refine (vj2 hR).foot λv hv=>(vx5 hv).foot λ_ _=> ?_;split
  ·exact wN (hW d rfl)
  ·exact vew
 |bsl d e m zs n ps=>
  simp only [VOp.own] at ho;have key:∀(ps:List (Nat×Opd)) (q:Bool) (es:List PV),(∀t∈ps.flatMap (·.2.used),R t)->RdK R U any (bslM true m ps q es):=by
   intro ps;induction ps with
   |nil=>intro q es _;trivial
   |cons p ps ih=>
    obtain ⟨i,x⟩:=p;intro q es hR;unfold bslM;refine (vj2 λt ht=>hR t (by simp [ht])).bind λv _=> ?_;refine RdK.bind (post:=any) ?_ λy _=> ?_
    ·unfold toEl;split
     ·exact (vok _).bind λ_ _=>trivial
     ·exact (vok _).bind λ_ _=>trivial
    ·split
     ·exact ih _ _ λt ht=>hR t (by simp only [Ac,Aa];exact .inr ht)
     ·trivial
  simp only [exec,ho,bslQ];exact (key ps false _ λt ht=>hR t (by simpa [VOp.uses] using ht)).foot λes _=>wN (hW d rfl)
 |call d f xs=>
  simp only [VOp.own,Bool.not_eq_true'] at ho;refine (qhs hR).foot λvs hvs=> ?_;cases hc:Φ f with
  |none=>exact vew
  |some c=>exact qiv (hΦ f c hc ho) hvs hW
 |_=>cases ho
theorem vw8 {Φ:Nat->Option Callee} {writes:Nat->Bool} (hΦ:∀f c,Φ f=some c->writes (f+1000000)=false->AllRo c.modes) {U:Nat->Prop} (b:Nat) (o:VOper) (ho:o.op.own writes=true) (hd:o.guard=none\/o.op.dst=o.dst):
  FootK (λt=>t∈o.reads) (λt=>o.op.dst=some t) U (ownR b) (execG Φ b o):=by
 have hx:=qg0 hΦ (R:=λt=>t∈o.reads) (W:=λt=>o.op.dst=some t) (U:=U) b o.op ho (λt ht=>by unfold VOper.reads;exact Aa.2 (.inr ht)) λt ht=>ht;unfold execG;split
 ·exact hx
 ·rename_i t want hg;have hd':o.op.dst=o.dst:=hd.resolve_left (by rw [hg];simp);have puts:∀(v:TV),FootK (λt=>t∈o.reads) (λt=>o.op.dst=some t) U (ownR b) (putO o.dst v):=λv=>WrK.foot (qba (λt ht=>by rw [hd'];exact ht) v);refine RdK.foot (post:=any) ⟨by unfold VOper.reads;rw [hg];simp,λv _=>trivial⟩ λu _=> ?_;split
  ·split
   ·exact hx
   ·exact puts _
  ·exact puts _
  ·exact vew
