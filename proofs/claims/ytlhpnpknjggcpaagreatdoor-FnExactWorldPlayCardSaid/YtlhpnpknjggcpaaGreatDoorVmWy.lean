/- The interpreter 'VM': what an operation of a region reads and writes, and that such ones commute. The interpreter 'VM': operations that write nodes of their own alone commute with one another. -/
import Derived.Test.YtlhpnpknjggcpaaGreatDoorVmTu
open List renaming mem_append->Aa,mem_singleton->Ab,flatMap_cons->Ac
namespace Go.Proofs.YtlhpnpknjggcpaaGreatDoor.VM
open Go
def Loc {α:Type} (R W:Nat→Prop) (rn wn:Prop):M α→Prop
 | .pure _=>True
 | .fail=>True
 | .getS t k=>R t∧∀v,Loc R W rn wn (k v)
 | .setS t _ k=>W t∧Loc R W rn wn k
 | .getN _ k=>rn∧∀n,Loc R W rn wn (k n)
 | .setN _ _ k=>wn∧Loc R W rn wn k
theorem Loc.bind {α β:Type} {R W:Nat→Prop} {rn wn:Prop} {m:M α} (h:Loc R W rn wn m) {k:α→M β} (hk:∀x,Loc R W rn wn (k x)):Loc R W rn wn (m.bind k):=by
 induction m with
 |pure x=>exact hk x
 |fail=>exact trivial
 |getS t k' ih=>exact ⟨h.1,fun v=>ih v (h.2 v)⟩
 |setS t v k' ih=>exact ⟨h.1,ih h.2⟩
 |getN id k' ih=>exact ⟨h.1,fun v=>ih v (h.2 v)⟩
 |setN id n k' ih=>exact ⟨h.1,ih h.2⟩
theorem Loc.mono {α:Type} {R W R' W':Nat→Prop} {rn wn rn' wn':Prop} (hR:∀t,R t→R' t) (hW:∀t,W t→W' t) (hr:rn→rn') (hw:wn→wn'):∀{m:M α},Loc R W rn wn m→Loc R' W' rn' wn' m
 | .pure _,_=>trivial
 | .fail,_=>trivial
 | .getS _ _,h=>⟨hR _ h.1,fun v=>Loc.mono hR hW hr hw (h.2 v)⟩
 | .setS _ _ _,h=>⟨hW _ h.1,Loc.mono hR hW hr hw h.2⟩
 | .getN _ _,h=>⟨hr h.1,fun v=>Loc.mono hR hW hr hw (h.2 v)⟩
 | .setN _ _ _,h=>⟨hw h.1,Loc.mono hR hW hr hw h.2⟩
theorem vdz {α:Type}:∀(l r:List (Nat×α)) (k:Nat),look (l++r) k=(look l k).or (look r k)
 | [],r,k=>by simp [look]
 |(j,v)::l,r,k=>by
  simp only [List.cons_append,look];split
  ·rfl
  ·exact vdz l r k
theorem vcv {α:Type}:∀{l:List (Nat×α)} {k:Nat},(∀x∈l,x.1≠k)→look l k=none
 | [],_,_=>rfl
 |(j,v)::l,k,h=>by
  simp only [look];rw [if_neg (h (j,v) (by simp))];exact vcv fun x hx=>h x (by simp [hx])
structure Same (s s':St):Prop where
 slot:∀t,s.slot t=s'.slot t
 node:∀id,s.node id=s'.node id
theorem vq9 {α:Type} {R W:Nat→Prop} {rn wn:Prop}:∀{m:M α},Loc R W rn wn m→∀{st:St} {r:α} {s:St},m.run st=some (r,s)→
  ∃ds dn,s=⟨ds++st.slots,dn++st.nodes,st.next⟩∧(∀x∈ds,W x.1)∧(¬wn→dn= [])∧
   ∀st':St,(∀t,R t→st'.slot t=st.slot t)→(rn→∀id,st'.node id=st.node id)→m.run st'=some (r,⟨ds++st'.slots,dn++st'.nodes,st'.next⟩)
 | .pure x,_,st,r,s,h=>by
  cases run_pure h;exact ⟨[],[],rfl,by simp,fun _=>rfl,fun st' _ _=>rfl⟩
 | .fail,_,st,r,s,h=>(vac h).elim
 | .getS t k,hl,st,r,s,h=>by
  obtain ⟨ds,dn,e,h1,h2,h3⟩:=vq9 (hl.2 (st.slot t)) h;refine ⟨ds,dn,e,h1,h2,fun st' ha hb=> ?_⟩;simp only [M.run];rw [ha t hl.1];exact h3 st' ha hb
 | .setS t v k,hl,st,r,s,h=>by
  obtain ⟨ds,dn,e,h1,h2,h3⟩:=vq9 hl.2 h;refine ⟨ds++ [(t,v)],dn,by simpa using e,fun x hx=> ?_,h2,fun st' ha hb=> ?_⟩
  ·rcases Aa.1 hx with hx|hx
   ·exact h1 x hx
   ·simp only [Ab] at hx;subst hx;exact hl.1
  ·have:=h3 {st' with slots:=(t,v)::st'.slots} (fun t' ht=>by rw [vk4,vk4,ha t' ht]) hb;simpa [M.run] using this
 | .getN id k,hl,st,r,s,h=>by
  obtain ⟨ds,dn,e,h1,h2,h3⟩:=vq9 (hl.2 (st.node id)) h;refine ⟨ds,dn,e,h1,h2,fun st' ha hb=> ?_⟩;simp only [M.run];rw [hb hl.1 id];exact h3 st' ha hb
 | .setN id n k,hl,st,r,s,h=>by
  obtain ⟨ds,dn,e,h1,h2,h3⟩:=vq9 hl.2 h;refine ⟨ds,dn++ [(id,n)],by simpa using e,h1,fun hw=>absurd hl.1 hw,fun st' ha hb=> ?_⟩;have:=h3 {st' with nodes:=(id,n)::st'.nodes} ha (fun hr id'=>by rw [vgy,vgy,hb hr id']);simpa [M.run] using this
theorem vpg {ds:List (Nat×TV)} {st:St} {dn:List (Nat×Option Node)} {t:Nat}:({slots:=ds++st.slots,nodes:=dn++st.nodes,next:=st.next}:St).slot t=((look ds t).or (look st.slots t)).getD .un:=by
 simp [St.slot,vdz]
theorem vo4 {ds:List (Nat×TV)} {st:St} {dn:List (Nat×Option Node)} {id:Nat}:({slots:=ds++st.slots,nodes:=dn++st.nodes,next:=st.next}:St).node id=((look dn id).or (look st.nodes id)).getD none:=by
 simp [St.node,vdz]
theorem qsr {α β:Type} {R1 W1 R2 W2:Nat→Prop} {rn1 wn1 rn2 wn2:Prop} {m1:M α} {m2:M β} (h1:Loc R1 W1 rn1 wn1 m1) (h2:Loc R2 W2 rn2 wn2 m2) (hs1:∀t,W1 t→¬R2 t∧¬W2 t) (hs2:∀t,W2 t→¬R1 t)
  (hn1:wn1→¬rn2∧¬wn2) (hn2:wn2→¬rn1) {st s1 s2:St} {x:α} {y:β} (hr1:m1.run st=some (x,s1)) (hr2:m2.run s1=some (y,s2)):
  ∃s1' s2',m2.run st=some (y,s1')∧m1.run s1'=some (x,s2')∧Same s2' s2:=by
 obtain ⟨ds1,dn1,rfl,w1,n1,k1⟩:=vq9 h1 hr1;obtain ⟨ds2,dn2,rfl,w2,n2,k2⟩:=vq9 h2 hr2;have no1:∀t,R2 t→look ds1 t=none:=fun t ht=>vcv fun z hz e=>(hs1 z.1 (w1 z hz)).1 (e▸ht);have no2:∀t,R1 t→look ds2 t=none:=fun t ht=>vcv fun z hz e=>hs2 z.1 (w2 z hz) (e▸ht);have e1:m2.run st=some (y,⟨ds2++st.slots,dn2++st.nodes,st.next⟩):=by
  refine k2 st (fun t ht=> ?_) fun hr id=> ?_
  ·rw [vpg,no1 t ht];simp [St.slot]
  ·have:dn1= []:=n1 fun hw=>(hn1 hw).1 hr;subst this;rw [vo4];simp [look,St.node]
 have e2:=k1 ⟨ds2++st.slots,dn2++st.nodes,st.next⟩ (fun t ht=>by rw [vpg,no2 t ht];simp [St.slot]) (fun hr id=>by
  have:dn2= []:=n2 fun hw=>hn2 hw hr;subst this
  rw [vo4];simp [look,St.node])
 refine ⟨_,_,e1,e2,fun t=> ?_,fun id=> ?_⟩
 ·simp only [St.slot,vdz];by_cases hw:W1 t
  ·have:look ds2 t=none:=vcv fun z hz e=>(hs1 t hw).2 (e▸w2 z hz);rw [this];simp
  ·have:look ds1 t=none:=vcv fun z hz e=>hw (e▸w1 z hz);rw [this];simp
 ·simp only [St.node,vdz];by_cases hw:wn1
  ·have:dn2= []:=n2 (hn1 hw).2;subst this;simp [look]
  ·have:=n1 hw;subst this;simp [look]
section
variable {R W:Nat→Prop} {rn wn:Prop}
theorem vbc {α:Type} (x:α):Loc R W rn wn (M.pure x):=trivial
theorem vd6 {α:Type}:Loc R W rn wn (M.fail:M α):=trivial
theorem qq6 {t:Nat} (h:R t):Loc R W rn wn (getS t):=⟨h,fun _=>trivial⟩
theorem vco {t:Nat} (h:W t) (v:TV):Loc R W rn wn (setS t v):=⟨h,trivial⟩
theorem vc1 {id:Nat} (h:rn):Loc R W rn wn (getN id):=⟨h,fun _=>trivial⟩
theorem vbk {id:Nat} (h:wn) (n:Option Node):Loc R W rn wn (setN id n):=⟨h,trivial⟩
theorem vbf {α:Type} (x:Option α):Loc R W rn wn (liftO x):=by cases x<;>trivial
theorem vcn {x:Opd} (h:∀t∈x.used,R t):Loc R W rn wn (opd x):=by
 cases x with
 |t n=>exact qq6 (h n (by simp [Opd.used]))
 |_=>trivial
theorem vp4:∀{xs:List Opd} (_:∀t∈xs.flatMap Opd.used,R t),Loc R W rn wn (opds xs)
 | [],_=>trivial
 |x::xs,h=>(vcn fun t ht=>h t (by simp [ht])).bind fun _=>(vp4 fun t ht=>h t (by
   simp only [Ac,Aa];exact .inr ht)).bind fun _=>vbc _
theorem vxl {x:Option Opd} (h:∀t∈(x.map Opd.used).getD [],R t):Loc R W rn wn (bound x):=by
 cases x with
 |none=>trivial
 |some y=>
  refine (vcn h).bind fun u=> ?_;split<;>trivial
theorem qhi (h:rn) (w:Option Nat) (v:TV):Loc R W rn wn (loadAt w v):=by unfold loadAt;(repeat' (first|exact vbc _|exact vd6|exact vbf _|(refine Loc.bind (vbf _) (fun _=> ?_))|(refine Loc.bind (vc1 (by assumption)) (fun _=> ?_))|(refine Loc.bind (vbk (by assumption) _) (fun _=> ?_))|exact vbk (by assumption) _|split))
theorem vtz (h:rn) (v:TV):Loc R W rn wn (elems v):=by unfold elems;(repeat' (first|exact vbc _|exact vd6|exact vbf _|(refine Loc.bind (vbf _) (fun _=> ?_))|(refine Loc.bind (vc1 (by assumption)) (fun _=> ?_))|(refine Loc.bind (vbk (by assumption) _) (fun _=> ?_))|exact vbk (by assumption) _|split))
theorem qqu (h:rn) (e:Nat) (v:TV) (lo hi:Option Int):Loc R W rn wn (sliceAt e v lo hi):=by unfold sliceAt;(repeat' (first|exact vbc _|exact vd6|exact vbf _|(refine Loc.bind (vbf _) (fun _=> ?_))|(refine Loc.bind (vc1 (by assumption)) (fun _=> ?_))|(refine Loc.bind (vbk (by assumption) _) (fun _=> ?_))|exact vbk (by assumption) _|split))
theorem qwf (v:TV) (lo hi:Option Int):Loc R W rn wn (strAt v lo hi):=by unfold strAt;(repeat' (first|exact vbc _|exact vd6|exact vbf _|(refine Loc.bind (vbf _) (fun _=> ?_))|(refine Loc.bind (vc1 (by assumption)) (fun _=> ?_))|(refine Loc.bind (vbk (by assumption) _) (fun _=> ?_))|exact vbk (by assumption) _|split))
theorem qqh (h:rn) (o:Nat) (v:TV):Loc R W rn wn (fieldAt o v):=by unfold fieldAt;(repeat' (first|exact vbc _|exact vd6|exact vbf _|(refine Loc.bind (vbf _) (fun _=> ?_))|(refine Loc.bind (vc1 (by assumption)) (fun _=> ?_))|(refine Loc.bind (vbk (by assumption) _) (fun _=> ?_))|exact vbk (by assumption) _|split))
theorem qpj (h:rn) (e m:Nat) (v:TV) (i:Int):Loc R W rn wn (indexAt e m v i):=by
 unfold indexAt;refine (vtz h _).bind fun _=> ?_
 (repeat' (first|exact vbc _|exact vd6|exact vbf _|(refine Loc.bind (vbf _) (fun _=> ?_))|(refine Loc.bind (vc1 (by assumption)) (fun _=> ?_))|(refine Loc.bind (vbk (by assumption) _) (fun _=> ?_))|exact vbk (by assumption) _|split))
theorem qq3 (h:rn) (h2:wn) (x:TV):Loc R W rn wn (toPV x):=by unfold toPV;(repeat' (first|exact vbc _|exact vd6|exact vbf _|(refine Loc.bind (vbf _) (fun _=> ?_))|(refine Loc.bind (vc1 (by assumption)) (fun _=> ?_))|(refine Loc.bind (vbk (by assumption) _) (fun _=> ?_))|exact vbk (by assumption) _|split))
theorem qct (h:rn) (h2:wn):∀(xs:List TV),Loc R W rn wn (toPVs xs)
 | []=>trivial
 |x::xs=>(qq3 h h2 x).bind fun _=>(qct h h2 xs).bind fun _=>vbc _
theorem qqg (h:rn) (h2:wn) (fl:Bool) (x:TV):Loc R W rn wn (toEl fl x):=by
 unfold toEl;split
 ·split
  ·exact (vbf _).bind fun _=>vbc _
  ·exact (qct h h2 _).bind fun _=>vbc _
 ·split
  ·exact (vbf _).bind fun _=>vbc _
  ·exact qq3 h h2 _
theorem qoz (h:rn) (h2:wn) (fl:Bool) (m:Nat):∀(ps:List (Nat×Opd)) (_:∀t∈ps.flatMap (·.2.used),R t) (q:Bool) (es:List PV),Loc R W rn wn (bslM fl m ps q es)
 | [],_,q,es=>trivial
 |(i,x)::ps,hR,q,es=>by
  unfold bslM;refine (vcn fun t ht=>hR t (by simp [ht])).bind fun v=>(qqg h h2 fl v).bind fun y=> ?_;split
  ·exact qoz h h2 fl m ps (fun t ht=>hR t (by simp only [Ac,Aa];exact .inr ht)) _ _
  ·trivial
theorem qg8:∀(ps:List (Nat×Nat×Opd)) (_:∀t∈ps.flatMap (·.2.2.used),R t) (cs:List TV),Loc R W rn wn (buildM ps cs)
 | [],_,cs=>trivial
 |(o,w,x)::ps,hR,cs=>by
  unfold buildM;refine (vcn fun t ht=>hR t (by simp [ht])).bind fun v=> ?_;split
  ·exact qg8 ps (fun t ht=>hR t (by simp only [Ac,Aa];exact .inr ht)) _
  ·trivial
theorem qxx (h:rn) (h2:wn) (b:Nat) (x:TV):Loc R W rn wn (pull1 b x):=by
 unfold pull1;split
 ·refine (vc1 h).bind fun _=> ?_;split
  ·split
   ·unfold pullK;split
    ·refine Loc.bind (show Loc R W rn wn (takeIn _ _ _ _ _ _ _) from by unfold takeIn;(repeat' (first|exact vbc _|exact vd6|exact vbf _|(refine Loc.bind (vbf _) (fun _=> ?_))|(refine Loc.bind (vc1 (by assumption)) (fun _=> ?_))|(refine Loc.bind (vbk (by assumption) _) (fun _=> ?_))|exact vbk (by assumption) _|split))) fun _=> ?_
     (repeat' (first|exact vbc _|exact vd6|exact vbf _|(refine Loc.bind (vbf _) (fun _=> ?_))|(refine Loc.bind (vc1 (by assumption)) (fun _=> ?_))|(refine Loc.bind (vbk (by assumption) _) (fun _=> ?_))|exact vbk (by assumption) _|split))
    ·exact vd6
   ·exact vd6
  ·exact vd6
 ·exact vbc _
theorem qkp (h:rn) (h2:wn) (b:Nat):∀(xs:List TV),Loc R W rn wn (pullL b xs)
 | []=>vbc _
 |x::xs=>by
  unfold pullL;split
  ·exact (qxx h h2 b x).bind fun _=>vbc _
  ·exact (qkp h h2 b xs).bind fun _=>vbc _
theorem qir (h:rn) (h2:wn) (b:Nat) (u v:TV):Loc R W rn wn (pullTo b u v):=by
 unfold pullTo;split
 ·exact (qkp h h2 b _).bind fun _=>vbc _
 ·exact vbc _
theorem zal (h:rn) (h2:wn) (b:Nat) (fl:Bool) (m:Nat) (ps:List (Nat×Opd)) (hR:∀t∈ps.flatMap (·.2.used),R t) (es:List PV):Loc R W rn wn (bslQ b fl m ps es):=by
 unfold bslQ;split
 ·refine (vcn fun t ht=>hR t (by simp [ht])).bind fun v=>(qir h h2 b _ v).bind fun v=>(qqg h h2 _ v).bind fun y=> ?_;split
  ·exact vbc _
  ·exact vd6
 ·exact qoz h h2 _ m _ hR _ _
theorem qqc (h:rn) (h2:wn) (b w:Nat) (x y:TV):Loc R W rn wn (storeAt b w x y):=by
 unfold storeAt;split
 ·unfold storeBox;(repeat' (first|exact vbc _|exact vd6|exact vbf _|(refine Loc.bind (vbf _) (fun _=> ?_))|(refine Loc.bind (vc1 (by assumption)) (fun _=> ?_))|(refine Loc.bind (vbk (by assumption) _) (fun _=> ?_))|exact vbk (by assumption) _|split))
 ·unfold storeBox;(repeat' (first|exact vbc _|exact vd6|exact vbf _|(refine Loc.bind (vbf _) (fun _=> ?_))|(refine Loc.bind (vc1 (by assumption)) (fun _=> ?_))|(refine Loc.bind (vbk (by assumption) _) (fun _=> ?_))|exact vbk (by assumption) _|split))
 ·refine (qct h h2 _).bind fun _=> ?_
  (repeat' (first|exact vbc _|exact vd6|exact vbf _|(refine Loc.bind (vbf _) (fun _=> ?_))|(refine Loc.bind (vc1 (by assumption)) (fun _=> ?_))|(refine Loc.bind (vbk (by assumption) _) (fun _=> ?_))|exact vbk (by assumption) _|split))
 ·unfold vo7;(repeat' (first|exact vbc _|exact vd6|exact vbf _|(refine Loc.bind (vbf _) (fun _=> ?_))|(refine Loc.bind (vc1 (by assumption)) (fun _=> ?_))|(refine Loc.bind (vbk (by assumption) _) (fun _=> ?_))|exact vbk (by assumption) _|split))
 ·trivial
theorem qqm (h:rn) (h2:wn) (b e bytes:Nat) (mv:Bool) (x y:TV):Loc R W rn wn (appendM b e bytes mv x y):=by
 unfold appendM;have h1:Loc R W rn wn (appTo b e x):=by unfold appTo takeIn;(repeat' (first|exact vbc _|exact vd6|exact vbf _|(refine Loc.bind (vbf _) (fun _=> ?_))|(refine Loc.bind (vc1 (by assumption)) (fun _=> ?_))|(refine Loc.bind (vbk (by assumption) _) (fun _=> ?_))|exact vbk (by assumption) _|split))
 have h3:Loc R W rn wn (appOf e mv y):=by
  unfold appOf;split
  ·(repeat' (first|exact vbc _|exact vd6|exact vbf _|(refine Loc.bind (vbf _) (fun _=> ?_))|(refine Loc.bind (vc1 (by assumption)) (fun _=> ?_))|(refine Loc.bind (vbk (by assumption) _) (fun _=> ?_))|exact vbk (by assumption) _|split))
  ·refine (vtz h _).bind fun _=> ?_
   (repeat' (first|exact vbc _|exact vd6|exact vbf _|(refine Loc.bind (vbf _) (fun _=> ?_))|(refine Loc.bind (vc1 (by assumption)) (fun _=> ?_))|(refine Loc.bind (vbk (by assumption) _) (fun _=> ?_))|exact vbk (by assumption) _|split))
 refine h1.bind fun _=>h3.bind fun _=> ?_
 (repeat' (first|exact vbc _|exact vd6|exact vbf _|(refine Loc.bind (vbf _) (fun _=> ?_))|(refine Loc.bind (vc1 (by assumption)) (fun _=> ?_))|(refine Loc.bind (vbk (by assumption) _) (fun _=> ?_))|exact vbk (by assumption) _|split))
mutual
theorem vza (h:rn) (z:Bool):∀(k n:Nat) (x:TV),Loc R W rn wn (vbd z k n x)
 |0,n,x=>by unfold vbd;trivial
 |k+1,n,x=>by
  unfold vbd;split
  ·trivial
  ·trivial
  ·trivial
  ·exact (vnl h z k _).bind fun _=>vbc _
  ·exact (vnl h z k _).bind fun _=>(vnl h z k _).bind fun _=>vbc _
  ·exact (vza h z k _ _).bind fun _=>vbc _
  ·trivial
  ·refine (vc1 h).bind fun _=> ?_;split
   ·split<;>trivial
   ·split
    ·trivial
    ·exact (vnl h z k _).bind fun _=>vbc _
   ·trivial
  ·(repeat' (first|exact vbc _|exact vd6|exact vbf _|(refine Loc.bind (vbf _) (fun _=> ?_))|(refine Loc.bind (vc1 (by assumption)) (fun _=> ?_))|(refine Loc.bind (vbk (by assumption) _) (fun _=> ?_))|exact vbk (by assumption) _|split))
  ·(repeat' (first|exact vbc _|exact vd6|exact vbf _|(refine Loc.bind (vbf _) (fun _=> ?_))|(refine Loc.bind (vc1 (by assumption)) (fun _=> ?_))|(refine Loc.bind (vbk (by assumption) _) (fun _=> ?_))|exact vbk (by assumption) _|split))
  ·split
   ·trivial
   ·refine (vc1 h).bind fun _=> ?_;split
    ·split
     ·exact (vnl h z k _).bind fun _=>vbc _
     ·trivial
    ·trivial
  ·trivial
theorem vnl (h:rn) (z:Bool):∀(k:Nat) (xs:List TV),Loc R W rn wn (vbo z k xs)
 |0,xs=>by unfold vbo;trivial
 |k+1,[]=>by unfold vbo;trivial
 |k+1,x::xs=>by
  unfold vbo;exact (vza h z k 0 x).bind fun _=>(vnl h z k xs).bind fun _=>vbc _
end
mutual
theorem qia (h:rn) (h2:wn) (z:Bool):∀(k:Nat) (x:TV),Loc R W rn wn (pack z k x)
 |0,x=>by unfold pack;trivial
 |k+1,x=>by
  unfold pack;split
  ·trivial
  ·trivial
  ·split<;>trivial
  ·exact (vua h h2 z k _).bind fun _=>vbc _
  ·exact (vua h h2 z k _).bind fun _=>(vua h h2 z k _).bind fun _=>vbc _
  ·exact (qia h h2 z k _).bind fun _=>vbc _
  ·refine (vc1 h).bind fun _=> ?_;split
   ·split
    ·trivial
    ·exact (vbk h2 _).bind fun _=>vbc _
   ·split
    ·trivial
    ·exact (vbk h2 _).bind fun _=>(vua h h2 z k _).bind fun _=>vbc _
   ·trivial
  ·trivial
  ·refine (vc1 h).bind fun _=> ?_;split
   ·split
    ·trivial
    ·exact (vbk h2 _).bind fun _=>vbc _
   ·trivial
  ·trivial
theorem vua (h:rn) (h2:wn) (z:Bool):∀(k:Nat) (xs:List TV),Loc R W rn wn (vck z k xs)
 |0,xs=>by unfold vck;trivial
 |k+1,[]=>by unfold vck;trivial
 |k+1,x::xs=>by
  unfold vck;exact (qia h h2 z k x).bind fun _=>(vua h h2 z k xs).bind fun _=>vbc _
end
mutual
theorem qht (h2:wn) (q:Bool):∀(c:CV) (b:Nat),Loc R W rn wn (vaz q b c)
 | .a _,b=>by unfold vaz;trivial
 | .sl z e es,b=>by
  unfold vaz;split
  ·trivial
  ·exact (vbk h2 _).bind fun _=>vbc _
 | .bx z cs,b=>by unfold vaz;exact (vj7 h2 q cs _).bind fun _=>(vbk h2 _).bind fun _=>vbc _
 | .st cs,b=>by unfold vaz;exact (vj7 h2 q cs _).bind fun _=>vbc _
 | .tp cs,b=>by unfold vaz;exact (vj7 h2 q cs _).bind fun _=>vbc _
 | .fn f fs cs,b=>by unfold vaz;exact (vj7 h2 q fs _).bind fun _=>(vj7 h2 q cs _).bind fun _=>vbc _
 | .ic t c,b=>by unfold vaz;exact (qht h2 q c _).bind fun _=>vbc _
 | .un,b=>by unfold vaz;trivial
theorem vj7 (h2:wn) (q:Bool):∀(cs:List CV) (b:Nat),Loc R W rn wn (vbh q b cs)
 | [],b=>by unfold vbh;trivial
 |c::cs,b=>by unfold vbh;exact (qht h2 q c _).bind fun _=>(vj7 h2 q cs _).bind fun _=>vbc _
end
mutual
theorem vwu (h:rn) (h2:wn) (q:Bool) (V:Nat):∀(x:TV) (c0 y:CV) (b:Nat),Loc R W rn wn (vah q V b x c0 y)
 | .rf id,c0,y,b=>by
  cases c0 with
  |sl z0 e0 es0=>
   cases y with
   |sl z e es=>
    cases z0<;>cases z<;>simp only [vah]
    ·(repeat' (first|exact vbc _|exact vd6|exact vbf _|(refine Loc.bind (vbf _) (fun _=> ?_))|(refine Loc.bind (vc1 (by assumption)) (fun _=> ?_))|(refine Loc.bind (vbk (by assumption) _) (fun _=> ?_))|exact vbk (by assumption) _|split))
    all_goals trivial
   |_=>simp only [vah];trivial
  |bx z0 cs0=>
   cases y with
   |bx z cs=>
    cases z0<;>cases z<;>simp only [vah]
    ·refine (vc1 h).bind fun _=> ?_;split
     ·exact (vj7 h2 q cs _).bind fun _=>(vbk h2 _).bind fun _=>vbc _
     ·trivial
    all_goals trivial
   |_=>simp only [vah];trivial
  |_=>simp only [vah];trivial
 | .fn f fs cs,c0,y,b=>by
  cases c0 with
  |fn f0 fs0 cs0=>
   cases y with
   |fn f1 fs1 cs1=>simp only [vah];exact (vq5 h h2 q V fs fs0 fs1 b).bind fun _=>vq5 h h2 q V cs cs0 cs1 _
   |_=>simp only [vah];trivial
  |_=>simp only [vah];trivial
 | .st cs,c0,y,b=>by
  cases c0 with
  |st cs0=>
   cases y with
   |st cs1=>simp only [vah];exact vq5 h h2 q V cs cs0 cs1 b
   |_=>simp only [vah];trivial
  |_=>simp only [vah];trivial
 | .ic t x,c0,y,b=>by
  cases c0 with
  |ic t0 x0=>
   cases y with
   |ic t1 x1=>simp only [vah];exact vwu h h2 q V x x0 x1 b
   |_=>simp only [vah];trivial
  |_=>simp only [vah];trivial
 | .a _,c0,y,b=>by simp only [vah];trivial
 | .nl _,c0,y,b=>by simp only [vah];trivial
 | .ri _ _ _,c0,y,b=>by simp only [vah];trivial
 | .sb _ _ _,c0,y,b=>by simp only [vah];trivial
 | .ad _ _,c0,y,b=>by simp only [vah];trivial
 | .ea _ _ _ _,c0,y,b=>by simp only [vah];trivial
 | .ei _ _ _ _ _ _,c0,y,b=>by simp only [vah];trivial
 | .sz _ _,c0,y,b=>by simp only [vah];trivial
 | .ez _ _,c0,y,b=>by simp only [vah];trivial
 | .tp _,c0,y,b=>by simp only [vah];trivial
 | .un,c0,y,b=>by simp only [vah];trivial
theorem vq5 (h:rn) (h2:wn) (q:Bool) (V:Nat):∀(xs:List TV) (cs0 ys:List CV) (b:Nat),Loc R W rn wn (vbi q V b xs cs0 ys)
 | [],cs0,ys,b=>by simp only [vbi];trivial
 |x::xs,[],ys,b=>by simp only [vbi];trivial
 |x::xs,c0::cs0,[],b=>by simp only [vbi];trivial
 |x::xs,c0::cs0,y::ys,b=>by simp only [vbi];exact (vwu h h2 q V x c0 y b).bind fun _=>vq5 h h2 q V xs cs0 ys _
end
theorem qaz (h:rn) (keeps:Bool):∀(ms:List Md) (xs:List TV) (ys:List CV),Loc R W rn wn (show_ keeps ms xs ys)
 | [],[],[]=>by unfold show_;trivial
 | .ro n::ms,x::xs,y::ys=>by unfold show_;exact (vza h keeps depth n x).bind fun _=>(qaz h keeps ms xs ys).bind fun _=>vbc _
 | .mut _::ms,_::xs,y::ys=>by unfold show_;exact (qaz h keeps ms xs ys).bind fun _=>vbc _
 | [],[],_::_=>by unfold show_;trivial
 | [],_::_,_=>by unfold show_;trivial
 | .ro _::_,[],_=>by unfold show_;trivial
 | .ro _::_,_::_,[]=>by unfold show_;trivial
 | .mut _::_,[],_=>by unfold show_;trivial
 | .mut _::_,_::_,[]=>by unfold show_;trivial
theorem qhb (h:rn) (h2:wn) (keeps:Bool):∀(ms:List Md) (xs:List TV),Loc R W rn wn (lend keeps ms xs)
 | [],[]=>by unfold lend;trivial
 | .ro n::ms,x::xs=>by unfold lend;exact (qhb h h2 keeps ms xs).bind fun _=>vbc _
 | .mut n::ms,x::xs=>by
  have h0:Loc R W rn wn (lend0 keeps x):=by
   unfold lend0;split
   ·exact vbc _
   ·exact qia h h2 keeps depth x
  unfold lend;exact h0.bind fun _=>(qhb h h2 keeps ms xs).bind fun _=>vbc _
 | [],_::_=>by unfold lend;trivial
 | .ro _::_,[]=>by unfold lend;trivial
 | .mut _::_,[]=>by unfold lend;trivial
theorem qdh (h:rn) (h2:wn) (keeps:Bool) (v:Nat):∀(ms:List Md) (xs:List TV) (ys:List CV),Loc R W rn wn (vbs keeps v ms xs ys)
 | [],[],[]=>by unfold vbs;trivial
 | .ro n::ms,x::xs,y::ys=>by unfold vbs;exact (qdh h h2 keeps v ms xs ys).bind fun _=>vbc _
 | .mut n::ms,x::xs,y::ys=>by
  unfold vbs;refine (?_:Loc R W rn wn (lend1 keeps v x y)).bind fun _=>(qdh h h2 keeps v ms xs ys).bind fun _=>vbc _;unfold lend1;split
  ·refine (vc1 h).bind fun _=> ?_;split
   ·split
    ·trivial
    ·split
     ·exact (vbk h2 _).bind fun _=>vbc _
     ·trivial
   ·trivial
  ·exact vbc _
 | [],[],_::_=>by unfold vbs;trivial
 | [],_::_,_=>by unfold vbs;trivial
 | .ro _::_,[],_=>by unfold vbs;trivial
 | .ro _::_,_::_,[]=>by unfold vbs;trivial
 | .mut _::_,[],_=>by unfold vbs;trivial
 | .mut _::_,_::_,[]=>by unfold vbs;trivial
theorem qw2 (h:rn) (h2:wn) (q:Bool) (V b:Nat) (x:TV) (c f:CV):Loc R W rn wn (back1 q V b x c f):=by
 unfold back1;split
 ·split
  ·refine (vc1 h).bind fun _=> ?_;split
   ·split
    ·exact (vbk h2 _).bind fun _=>vbc _
    ·trivial
   ·trivial
  ·trivial
 ·exact vwu h h2 q V x c f b
theorem vus (h:rn) (h2:wn) (q:Bool) (V:Nat):∀(ms:List Md) (xs:List TV) (cs fs:List CV) (b:Nat),Loc R W rn wn (van q V b ms xs cs fs)
 | [],[],[],[],b=>by simp only [van];trivial
 | .ro _::ms,x::xs,c::cs,fs,b=>by simp only [van];exact vus h h2 q V ms xs cs fs b
 | .mut _::ms,x::xs,c::cs,f::fs,b=>by simp only [van];exact (qw2 h h2 q V b x c f).bind fun _=>vus h h2 q V ms xs cs fs _
 | [],_::_,_,_,b=>by simp only [van];trivial
 | [],[],_::_,_,b=>by simp only [van];trivial
 | [],[],[],_::_,b=>by simp only [van];trivial
 | .ro _::_,[],_,_,b=>by simp only [van];trivial
 | .ro _::_,_::_,[],_,b=>by simp only [van];trivial
 | .mut _::_,[],_,_,b=>by simp only [van];trivial
 | .mut _::_,_::_,[],_,b=>by simp only [van];trivial
 | .mut _::_,_::_,_::_,[],b=>by simp only [van];trivial
def Still (c:Callee):Prop:=(∀m∈c.modes,∃n,m= .ro n)∧c.scalar=true
theorem qd5 (keeps:Bool):∀(ms:List Md) (xs:List TV),(∀m∈ms,∃n,m= .ro n)→Loc R W rn wn (lend keeps ms xs)
 | [],[],_=>by unfold lend;trivial
 | [],_::_,_=>by unfold lend;trivial
 |m::ms,xs,h=>by
  obtain ⟨n,rfl⟩:=h m (by simp);cases xs with
  |nil=>unfold lend;trivial
  |cons x xs=>unfold lend;exact (qd5 keeps ms xs fun m hm=>h m (by simp [hm])).bind fun _=>vbc _
theorem qbq (keeps:Bool) (v:Nat):∀(ms:List Md) (xs:List TV) (ys:List CV),(∀m∈ms,∃n,m= .ro n)→Loc R W rn wn (vbs keeps v ms xs ys)
 | [],[],[],_=>by unfold vbs;trivial
 | [],[],_::_,_=>by unfold vbs;trivial
 | [],_::_,_,_=>by unfold vbs;trivial
 |m::ms,xs,ys,h=>by
  obtain ⟨n,rfl⟩:=h m (by simp);cases xs with
  |nil=>unfold vbs;trivial
  |cons x xs=>
   cases ys with
   |nil=>unfold vbs;trivial
   |cons y ys=>unfold vbs;exact (qbq keeps v ms xs ys fun m hm=>h m (by simp [hm])).bind fun _=>vbc _
theorem vvi (q:Bool) (V:Nat):∀(ms:List Md) (xs:List TV) (cs fs:List CV) (b:Nat),(∀m∈ms,∃n,m= .ro n)→Loc R W rn wn (van q V b ms xs cs fs)
 | [],[],[],[],b,_=>by simp only [van];trivial
 | [],_::_,_,_,b,_=>by simp only [van];trivial
 | [],[],_::_,_,b,_=>by simp only [van];trivial
 | [],[],[],_::_,b,_=>by simp only [van];trivial
 |m::ms,xs,cs,fs,b,h=>by
  obtain ⟨n,rfl⟩:=h m (by simp);cases xs with
  |nil=>simp only [van];trivial
  |cons x xs=>
   cases cs with
   |nil=>simp only [van];trivial
   |cons c cs=>simp only [van];exact vvi q V ms xs cs fs b fun m hm=>h m (by simp [hm])
theorem qv4 (h:rn) (h2:wn) (c:Option Callee) (vs:List TV) (tv:TV):Loc R W rn wn (alsIn c vs tv):=by
 unfold alsIn;split
 ·split
  ·refine (vc1 h).bind fun n=> ?_;split
   ·exact vbk h2 _
   ·trivial
  ·trivial
 ·trivial
theorem vxk (h:rn) (c:Option Callee) (hc:∀c',c=some c'→wn∨Still c') (b:Nat) (xs:List TV):Loc R W rn wn (callM c b xs):=by
 cases c with
 |none=>trivial
 |some c=>
  unfold callM;rcases hc c rfl with h2|⟨h2,h3⟩
  ·refine ((qhb h h2 _ _ _).bind fun ps=>qdh h h2 _ _ _ _ _:Loc R W rn wn (lendA _ _ _ _)).bind fun ps=>(qaz h _ _ _ _).bind fun cs=> ?_;split
   ·trivial
   ·refine (vus h h2 _ _ _ _ _ _ _).bind fun b'=> ?_;split
    ·split
     ·exact (vbf _).bind fun _=>vbc _
     ·trivial
    ·unfold vd3;refine (vj7 h2 _ _ _).bind fun r=> ?_;split<;>trivial
  ·refine ((qd5 _ _ _ h2).bind fun ps=>qbq _ _ _ _ _ h2:Loc R W rn wn (lendA _ _ _ _)).bind fun ps=>(qaz h _ _ _ _).bind fun cs=> ?_;split
   ·trivial
   ·refine (vvi _ _ _ _ _ _ _ h2).bind fun b'=> ?_;rw [if_pos h3];split
    ·exact (vbf _).bind fun _=>vbc _
    ·trivial
end
theorem quw {R W:Nat→Prop} {rn wn:Prop} (h:rn) (h2:wn) (c:Option Callee) (vs:List TV) (tv:TV):Loc R W rn wn (alsIn2 c vs tv):=by
 unfold alsIn2;split
 ·exact qv4 h h2 _ _ _
 ·trivial
theorem qvy {R W:Nat→Prop} {rd wr:Prop} (hr:rd) (hw:wr) (e:Nat) (z:Value) (v:TV):Loc R W rd wr (clrAt e z v):=by
 unfold clrAt;split
 ·refine (vc1 hr).bind fun n=> ?_;split
  ·split
   ·exact vbk hw _
   ·trivial
  ·trivial
 ·trivial
theorem za1 {Φ : Nat → Option Callee} {writes : Nat → Bool} (hΦ : ∀ f c, Φ f = some c → writes f = false → Still c) (b : Nat) (op : VOp) {R W : Nat → Prop} (hR : ∀ t ∈ op.uses, R t) (hW : ∀ t, op.dst = some t → W t) :
    Loc R W (1 ≤ op.rank writes) (op.rank writes = 2) (exec Φ b op) := by
  have puts : ∀ {rn wn : Prop} (d : Option Nat) (v : TV), (∀ t, d = some t → W t) → Loc R W rn wn (putO d v) := by
    intro rn wn d v h;cases d with
    | none => trivial
    | some d => exact vco (h d rfl) v
  cases op with
  | mov d x => exact (vcn hR).bind fun _ => vco (hW d rfl) _
  | pick d c x y =>
    simp only [VOp.uses, Aa] at hR;simp only [exec];refine (vcn fun t ht => hR t (.inl (.inl ht))).bind fun u => ?_;split
    · split
      · exact (vcn fun t ht => hR t (.inl (.inr ht))).bind fun _ => vco (hW d rfl) _
      · exact (vcn fun t ht => hR t (.inr ht)).bind fun _ => vco (hW d rfl) _
    · trivial
  | alloc d zs =>
    simp only [exec];split
    · trivial
    · exact (vbk rfl _).bind fun _ => vco (hW d rfl) _
  | box d x =>
    simp only [exec];refine (vcn hR).bind fun v => (vbf _).bind fun cs => ?_;split
    · trivial
    · exact (vbk rfl _).bind fun _ => vco (hW d rfl) _
  | build d zs ps => exact (qg8 ps hR _).bind fun _ => vco (hW d rfl) _
  | bsl d e m zs n ps => exact (zal (by simp [VOp.rank]) rfl _ _ _ _ hR _).bind fun _ => (vbk rfl _).bind fun _ => vco (hW d rfl) _
  | load d w x => exact (vcn hR).bind fun v => (qhi (by simp [VOp.rank]) _ _).bind fun _ => vco (hW d rfl) _
  | lda d x =>
    refine (vcn hR).bind fun v => (qhi (by simp [VOp.rank]) _ _).bind fun u => ?_;unfold atomS;split
    · exact vco (hW d rfl) _
    · trivial
  | store w x y =>
    simp only [VOp.uses, Aa] at hR;exact (vcn fun t ht => hR t (.inl ht)).bind fun _ => (vcn fun t ht => hR t (.inr ht)).bind fun _ => (qir (by simp [VOp.rank]) rfl _ _ _).bind fun _ => qqc (by simp [VOp.rank]) rfl _ _ _ _
  | nilck d x =>
    have hrn : 1 ≤ (VOp.nilck d x).rank writes := by simp [VOp.rank]
    have hd := hW d rfl;simp only [exec];refine (vcn hR).bind fun v => ?_;split <;> first
      | exact vco hd _
      | trivial
      | (refine (vc1 hrn).bind fun _ => ?_
         split <;> first | exact vco hd _ | trivial)
  | bin d op x y =>
    simp only [VOp.uses, Aa] at hR;simp only [exec];refine (vcn fun t ht => hR t (.inl ht)).bind fun _ => (vcn fun t ht => hR t (.inr ht)).bind fun _ => ?_;split
    · exact (vbf _).bind fun _ => vco (hW d rfl) _
    · trivial
  | beq d ne n x y =>
    simp only [VOp.uses, Aa] at hR;simp only [exec];refine (vcn fun t ht => hR t (.inl ht)).bind fun _ => (vcn fun t ht => hR t (.inr ht)).bind fun _ => ?_;split
    · exact vco (hW d rfl) _
    · exact (vbf _).bind fun _ => vco (hW d rfl) _
    · trivial
  | un d op x =>
    simp only [exec];refine (vcn hR).bind fun _ => ?_;split
    · exact (vbf _).bind fun _ => vco (hW d rfl) _
    · trivial
  | cvi d k x =>
    simp only [exec];refine (vcn hR).bind fun _ => ?_;split
    · exact vco (hW d rfl) _
    · trivial
  | cvs d x =>
    simp only [exec];refine (vcn hR).bind fun _ => ?_;split
    · exact vco (hW d rfl) _
    · trivial
  | s2b d e x =>
    simp only [exec];refine (vcn hR).bind fun _ => ?_;split
    · split
      · exact (vbk rfl _).bind fun _ => vco (hW d rfl) _
      · trivial
    · trivial
  | fl d => trivial
  | b2s d e x =>
    simp only [exec];refine (vcn hR).bind fun _ => (vtz (by simp [VOp.rank]) _).bind fun _ => ?_;split
    · exact (vbf _).bind fun _ => vco (hW d rfl) _
    · trivial
  | mkf d f fs cs =>
    simp only [VOp.uses, Aa] at hR;exact (vp4 fun t ht => hR t (.inl ht)).bind fun _ => (vp4 fun t ht => hR t (.inr ht)).bind fun _ => vco (hW d rfl) _
  | mki d t x => exact (vcn hR).bind fun _ => vco (hW d rfl) _
  | mks d e bytes zs x =>
    simp only [exec];refine (vcn hR).bind fun _ => ?_;split
    · split
      · exact (vbk rfl _).bind fun _ => vco (hW d rfl) _
      · trivial
    · trivial
  | slc0 d e x =>
    simp only [exec];refine (vcn hR).bind fun _ => (vtz (by simp [VOp.rank]) _).bind fun _ => ?_;split
    · exact (vbk rfl _).bind fun _ => vco (hW d rfl) _
    · trivial
  | slc d e x lo hi =>
    simp only [VOp.uses, Aa] at hR;exact (vcn fun t ht => hR t (.inl (.inl ht))).bind fun _ => (vxl fun t ht => hR t (.inl (.inr ht))).bind fun _ => (vxl fun t ht => hR t (.inr ht)).bind fun _ => (qqu (by simp [VOp.rank]) _ _ _ _).bind fun _ => vco (hW d rfl) _
  | sslc d x lo hi =>
    simp only [VOp.uses, Aa] at hR;exact (vcn fun t ht => hR t (.inl (.inl ht))).bind fun _ => (vxl fun t ht => hR t (.inl (.inr ht))).bind fun _ => (vxl fun t ht => hR t (.inr ht)).bind fun _ => (qwf _ _ _).bind fun _ => vco (hW d rfl) _
  | fad d x off => exact (vcn hR).bind fun v => (qqh (by simp [VOp.rank]) _ _).bind fun _ => vco (hW d rfl) _
  | fld d x off w =>
    simp only [exec];refine (vcn hR).bind fun _ => ?_;split
    · exact (vbf _).bind fun _ => vco (hW d rfl) _
    · trivial
  | iad d e m x i =>
    simp only [VOp.uses, Aa] at hR;simp only [exec];refine (vcn fun t ht => hR t (.inl ht)).bind fun _ => (vcn fun t ht => hR t (.inr ht)).bind fun _ => ?_;split
    · exact (qpj (by simp [VOp.rank]) _ _ _ _).bind fun _ => vco (hW d rfl) _
    · trivial
  | ix d x i =>
    simp only [VOp.uses, Aa] at hR;simp only [exec];refine (vcn fun t ht => hR t (.inl ht)).bind fun _ => (vcn fun t ht => hR t (.inr ht)).bind fun _ => ?_;split
    · exact (vbf _).bind fun _ => vco (hW d rfl) _
    · trivial
  | len d x => exact (vcn hR).bind fun v => (vtz (by simp [VOp.rank]) _).bind fun _ => vco (hW d rfl) _
  | slen d x =>
    simp only [exec];refine (vcn hR).bind fun _ => ?_;split
    · exact vco (hW d rfl) _
    · trivial
  | mmx d isMax xs =>
    simp only [exec];refine (vp4 hR).bind fun _ => ?_;split
    · exact (vbf _).bind fun _ => vco (hW d rfl) _
    · trivial
  | app d e bytes mv x y =>
    simp only [VOp.uses, Aa] at hR;exact (vcn fun t ht => hR t (.inl ht)).bind fun _ => (vcn fun t ht => hR t (.inr ht)).bind fun _ => (qqm (by simp [VOp.rank]) rfl _ _ _ _ _ _).bind fun _ => vco (hW d rfl) _
  | ext d x i =>
    simp only [exec];refine (vcn hR).bind fun _ => ?_;split
    · exact (vbf _).bind fun _ => vco (hW d rfl) _
    · trivial
  | call d f xs =>
    refine (vp4 hR).bind fun vs => (vxk (by simp only [VOp.rank]; split <;> omega) _ (fun c hc => ?_) _ _).bind fun _ => puts _ _ hW;simp only [VOp.rank];by_cases hw : writes f = true
    · rw [if_pos hw]; exact .inl rfl
    · exact .inr (hΦ f c hc (by simpa using hw))
  | cala d f xs =>
    exact (vp4 hR).bind fun vs => (vxk (by simp [VOp.rank]) _ (fun c hc => .inl rfl) _ _).bind fun tv => (quw (by simp [VOp.rank]) rfl _ _ _).bind fun _ => puts _ _ hW
  | calv d f xs =>
    simp only [VOp.uses, Aa] at hR;simp only [exec];refine (vcn fun t ht => hR t (.inl ht)).bind fun g => ?_;split
    · exact (vp4 fun t ht => hR t (.inr ht)).bind fun vs => (vxk (by simp [VOp.rank]) _ (fun c hc => .inl rfl) _ _).bind fun _ => puts _ _ hW
    · trivial
  | cali d t f x xs =>
    simp only [VOp.uses, Aa] at hR;simp only [exec];refine (vcn fun t ht => hR t (.inl ht)).bind fun g => ?_;split
    · split
      · exact (vp4 fun t ht => hR t (.inr ht)).bind fun vs => (vxk (by simp [VOp.rank]) _ (fun c hc => .inl rfl) _ _).bind fun _ => puts _ _ hW
      · trivial
    · trivial
  | clr e z x =>
    simp only [exec];exact (vcn hR).bind fun v => qvy (by simp [VOp.rank]) rfl _ _ _
def VOper.reads (o:VOper):List Nat:=(o.guard.map (·.1)).toList++o.op.uses
theorem qkj {Φ:Nat→Option Callee} {writes:Nat→Bool} (hΦ:∀f c,Φ f=some c→writes f=false→Still c) (b:Nat) (o:VOper) (hd:o.guard=none∨o.op.dst=o.dst):
  Loc (fun t=>t∈o.reads) (fun t=>o.op.dst=some t) (1≤o.op.rank writes) (o.op.rank writes=2) (execG Φ b o):=by
 have hx:=za1 hΦ b o.op (R:=fun t=>t∈o.reads) (W:=fun t=>o.op.dst=some t) (fun t ht=>by unfold VOper.reads;exact Aa.2 (.inr ht)) fun t ht=>ht;have puts:∀(v:TV),o.op.dst=o.dst→Loc (fun t=>t∈o.reads) (fun t=>o.op.dst=some t) (1≤o.op.rank writes) (o.op.rank writes=2) (putO o.dst v):=by
  intro v e;rw [←e];cases hdd:o.op.dst with
  |none=>trivial
  |some d=>exact ⟨rfl,trivial⟩
 unfold execG;split
 ·exact hx
 ·rename_i t want hg;have hd':o.op.dst=o.dst:=hd.resolve_left (by rw [hg];simp);refine (qq6 (by unfold VOper.reads;rw [hg];simp)).bind fun u=> ?_;split
  ·split
   ·exact hx
   ·exact puts _ hd'
  ·exact puts _ hd'
  ·trivial
end Go.Proofs.YtlhpnpknjggcpaaGreatDoor.VM
namespace Go.Proofs.YtlhpnpknjggcpaaGreatDoor.VM
open Go
theorem vnk {α β:Type} (x:M α) {f:α→M β} {s:St}:(x.bind f).run s=(match x.run s with|some (a,s')=>(f a).run s'|none=>none):=by
 induction x generalizing s with
 |pure x=>rfl
 |fail=>rfl
 |getS t k ih=>exact ih _
 |setS t v k ih=>exact ih
 |getN id k ih=>exact ih _
 |setN id n k ih=>exact ih
def RdK {α:Type} (R U:Nat→Prop) (post:α→Prop):M α→Prop
 | .pure x=>post x
 | .fail=>True
 | .getS t k=>R t∧∀v,idsIn U v→RdK R U post (k v)
 | .getN id k=>U id∧∀n,(∀m,n=some m→m.idsIn U)→RdK R U post (k n)
 | .setS _ _ _=>False
 | .setN _ _ _=>False
def WrK {α:Type} (W B:Nat→Prop):M α→Prop
 | .pure _=>True
 | .fail=>True
 | .getS _ _=>False
 | .getN _ _=>False
 | .setS t _ k=>W t∧WrK W B k
 | .setN id _ k=>B id∧WrK W B k
abbrev any {α:Type}:α→Prop:=fun _=>True
section
variable {R W U B:Nat→Prop}
theorem RdK.bind {α β:Type} {post:α→Prop} {post':β→Prop} {m:M α} {k:α→M β} (h:RdK R U post m) (hk:∀x,post x→RdK R U post' (k x)):RdK R U post' (m.bind k):=by
 induction m with
 |pure x=>exact hk x h
 |fail=>exact trivial
 |getS t k' ih=>exact ⟨h.1,fun v hv=>ih v (h.2 v hv)⟩
 |getN id k' ih=>exact ⟨h.1,fun n hn=>ih n (h.2 n hn)⟩
 |setS t v k' ih=>exact h.elim
 |setN id n k' ih=>exact h.elim
theorem RdK.bindA {α β:Type} {post:α→Prop} {m:M α} {k:α→M β} (h:RdK R U post m) (hk:∀x,post x→RdK R U any (k x)):RdK R U any (m.bind k):=h.bind hk
theorem RdK.mono {α:Type} {post post':α→Prop} {m:M α} (h:RdK R U post m) (hp:∀x,post x→post' x):RdK R U post' m:=by
 induction m with
 |pure x=>exact hp x h
 |fail=>exact trivial
 |getS t k' ih=>exact ⟨h.1,fun v hv=>ih v (h.2 v hv)⟩
 |getN id k' ih=>exact ⟨h.1,fun n hn=>ih n (h.2 n hn)⟩
 |setS t v k' ih=>exact h.elim
 |setN id n k' ih=>exact h.elim
theorem WrK.bind {α β:Type} {m:M α} {k:α→M β} (h:WrK W B m) (hk:∀x,WrK W B (k x)):WrK W B (m.bind k):=by
 induction m with
 |pure x=>exact hk x
 |fail=>exact trivial
 |getS t k' ih=>exact h.elim
 |getN id k' ih=>exact h.elim
 |setS t v k' ih=>exact ⟨h.1,ih h.2⟩
 |setN id n k' ih=>exact ⟨h.1,ih h.2⟩
structure Clean (R U:Nat→Prop) (st:St):Prop where
 slots:∀t,R t→idsIn U (st.slot t)
 nodes:∀id n,U id→st.node id=some n→n.idsIn U
theorem qdl {α:Type} {post:α→Prop} {st:St} (hc:Clean R U st):∀{m:M α},RdK R U post m→∀{r:α} {s:St},m.run st=some (r,s)→s=st∧post r∧
  ∀st':St,(∀t,R t→st'.slot t=st.slot t)→(∀id,U id→st'.node id=st.node id)→m.run st'=some (r,st')
 | .pure x,h,r,s,hr=>by
  cases run_pure hr;exact ⟨rfl,h,fun _ _ _=>rfl⟩
 | .fail,_,r,s,hr=>(vac hr).elim
 | .getS t k,h,r,s,hr=>by
  obtain ⟨h1,h2,h3⟩:=qdl hc (h.2 _ (hc.slots t h.1)) hr;refine ⟨h1,h2,fun st' ha hb=> ?_⟩;simp only [M.run];rw [ha t h.1];exact h3 st' ha hb
 | .getN id k,h,r,s,hr=>by
  obtain ⟨h1,h2,h3⟩:=qdl hc (h.2 (st.node id) fun m hm=>hc.nodes id m h.1 hm) hr;refine ⟨h1,h2,fun st' ha hb=> ?_⟩;simp only [M.run];rw [hb id h.1];exact h3 st' ha hb
 | .setS _ _ _,h,_,_,_=>h.elim
 | .setN _ _ _,h,_,_,_=>h.elim
theorem qc3 {α:Type}:∀{m:M α},WrK W B m→∀{st:St} {r:α} {s:St},m.run st=some (r,s)→∃ds dn,s=⟨ds++st.slots,dn++st.nodes,st.next⟩∧(∀x∈ds,W x.1)∧(∀x∈dn,B x.1)∧
  ∀st':St,m.run st'=some (r,⟨ds++st'.slots,dn++st'.nodes,st'.next⟩)
 | .pure x,_,st,r,s,hr=>by
  cases run_pure hr;exact ⟨[],[],rfl,by simp,by simp,fun _=>rfl⟩
 | .fail,_,st,r,s,hr=>(vac hr).elim
 | .getS _ _,h,_,_,_,_=>h.elim
 | .getN _ _,h,_,_,_,_=>h.elim
 | .setS t v k,h,st,r,s,hr=>by
  obtain ⟨ds,dn,e,h1,h2,h3⟩:=qc3 h.2 hr;refine ⟨ds++ [(t,v)],dn,by simpa using e,fun x hx=> ?_,h2,fun st'=> ?_⟩
  ·rcases Aa.1 hx with hx|hx
   ·exact h1 x hx
   ·simp only [Ab] at hx;subst hx;exact h.1
  ·have:=h3 {st' with slots:=(t,v)::st'.slots};simpa [M.run] using this
 | .setN id n k,h,st,r,s,hr=>by
  obtain ⟨ds,dn,e,h1,h2,h3⟩:=qc3 h.2 hr;refine ⟨ds,dn++ [(id,n)],by simpa using e,h1,fun x hx=> ?_,fun st'=> ?_⟩
  ·rcases Aa.1 hx with hx|hx
   ·exact h2 x hx
   ·simp only [Ab] at hx;subst hx;exact h.1
  ·have:=h3 {st' with nodes:=(id,n)::st'.nodes};simpa [M.run] using this
def FootK {α:Type} (R W U B:Nat→Prop) (m:M α):Prop:=∀st,Clean R U st→∀{r:α} {s:St},m.run st=some (r,s)→∃ds dn,s=⟨ds++st.slots,dn++st.nodes,st.next⟩∧(∀x∈ds,W x.1)∧(∀x∈dn,B x.1)∧
  ∀st':St,(∀t,R t→st'.slot t=st.slot t)→(∀id,U id→st'.node id=st.node id)→m.run st'=some (r,⟨ds++st'.slots,dn++st'.nodes,st'.next⟩)
theorem WrK.foot {α:Type} {m:M α} (h:WrK W B m):FootK R W U B m:=by
 intro st _ r s hr;obtain ⟨ds,dn,h1,h2,h3,h4⟩:=qc3 h hr;exact ⟨ds,dn,h1,h2,h3,fun st' _ _=>h4 st'⟩
theorem RdK.foot {α β:Type} {post:α→Prop} {m:M α} {k:α→M β} (h:RdK R U post m) (hk:∀x,post x→FootK R W U B (k x)):FootK R W U B (m.bind k):=by
 intro st hc r s hr;obtain ⟨x,s1,h1,h2⟩:=vaa hr;obtain ⟨rfl,hp,h3⟩:=qdl hc h h1;obtain ⟨ds,dn,k1,k2,k3,k4⟩:=hk x hp _ hc h2;refine ⟨ds,dn,k1,k2,k3,fun st' ha hb=> ?_⟩;rw [vnk,h3 st' ha hb];exact k4 st' ha hb
theorem vet {α:Type}:FootK R W U B (M.fail:M α):=WrK.foot trivial
theorem qnv {α β:Type} {R1 W1 B1 R2 W2 B2:Nat→Prop} {m1:M α} {m2:M β} (h1:FootK R1 W1 U B1 m1) (h2:FootK R2 W2 U B2 m2) (hs1:∀t,W1 t→¬R2 t∧¬W2 t) (hs2:∀t,W2 t→¬R1 t)
  (hb1:∀i,B1 i→¬U i) (hb2:∀i,B2 i→¬U i) (hbb:∀i,B1 i→¬B2 i) {st s1 s2:St} (hc1:Clean R1 U st) (hc2:Clean R2 U st) {x:α} {y:β} (hr1:m1.run st=some (x,s1)) (hr2:m2.run s1=some (y,s2)):
  ∃s1' s2',m2.run st=some (y,s1')∧m1.run s1'=some (x,s2')∧Same s2' s2:=by
 obtain ⟨ds1,dn1,rfl,w1,n1,k1⟩:=h1 st hc1 hr1;have no1:∀t,R2 t→look ds1 t=none:=fun t ht=>vcv fun z hz e=>(hs1 z.1 (w1 z hz)).1 (e▸ht);have nn1:∀i,U i→look dn1 i=none:=fun i hi=>vcv fun z hz e=>hb1 z.1 (n1 z hz) (e▸hi);have es:∀t,R2 t→({slots:=ds1++st.slots,nodes:=dn1++st.nodes,next:=st.next}:St).slot t=st.slot t:=fun t ht=>by rw [vpg,no1 t ht];simp [St.slot]
 have en:∀i,U i→({slots:=ds1++st.slots,nodes:=dn1++st.nodes,next:=st.next}:St).node i=st.node i:=fun i hi=>by rw [vo4,nn1 i hi];simp [St.node]
 obtain ⟨ds2,dn2,rfl,w2,n2,k2⟩:=h2 _ ⟨fun t ht=>by rw [es t ht];exact hc2.slots t ht,fun i n hi hn=>hc2.nodes i n hi (by rw [←en i hi];exact hn)⟩ hr2;have no2:∀t,R1 t→look ds2 t=none:=fun t ht=>vcv fun z hz e=>hs2 z.1 (w2 z hz) (e▸ht);have nn2:∀i,U i→look dn2 i=none:=fun i hi=>vcv fun z hz e=>hb2 z.1 (n2 z hz) (e▸hi);have e1:m2.run st=some (y,⟨ds2++st.slots,dn2++st.nodes,st.next⟩):=k2 st (fun t ht=>(es t ht).symm) fun i hi=>(en i hi).symm;have e2:=k1 ⟨ds2++st.slots,dn2++st.nodes,st.next⟩ (fun t ht=>by rw [vpg,no2 t ht];simp [St.slot]) (fun i hi=>by rw [vo4,nn2 i hi];simp [St.node]);refine ⟨_,_,e1,e2,fun t=> ?_,fun i=> ?_⟩
 ·simp only [St.slot,vdz];by_cases hw:W1 t
  ·have:look ds2 t=none:=vcv fun z hz e=>(hs1 t hw).2 (e▸w2 z hz);rw [this];simp
  ·have:look ds1 t=none:=vcv fun z hz e=>hw (e▸w1 z hz);rw [this];simp
 ·simp only [St.node,vdz];by_cases hw:B1 i
  ·have:look dn2 i=none:=vcv fun z hz e=>hbb i hw (e▸n2 z hz);rw [this];simp
  ·have:look dn1 i=none:=vcv fun z hz e=>hw (e▸n1 z hz);rw [this];simp
theorem vrb {α:Type} (o:Option α):RdK R U any (liftO o):=by cases o<;>trivial
theorem vlh {id:Nat} (h:U id):RdK R U (fun n=>∀m,n=some m→m.idsIn U) (getN id):=⟨h,fun _ hn=>hn⟩
theorem vj8 {x:Opd} (h:∀t∈x.used,R t):RdK R U (idsIn U) (opd x):=by
 cases x with
 |t n=>exact ⟨h n (by simp [Opd.used]),fun v hv=>hv⟩
 |c v=>trivial
 |nl e=>trivial
 |f g=>exact ⟨trivial,trivial⟩
theorem qnm:∀{xs:List Opd},(∀t∈xs.flatMap (·.used),R t)→RdK R U (vaq U) (opds xs)
 | [],_=>trivial
 |x::xs,h=>(vj8 fun t ht=>h t (by simp [ht])).bind fun v hv=>(qnm fun t ht=>h t (by
   simp only [Ac,Aa];exact .inr ht)).bind fun vs hvs=>⟨hv,hvs⟩
theorem qlg {y:Option Opd} (h:∀t∈(y.map (·.used)).getD [],R t):RdK R U any (bound y):=by
 cases y with
 |none=>trivial
 |some y=>
  refine (vj8 h).bind fun u _=> ?_;split<;>trivial
theorem qcm {v : TV} (h : idsIn U v) : RdK R U any (elems v) := by
  cases v <;> first
    | trivial
    | (refine (vlh (by first | exact h | exact h.1)).bind fun n _ => ?_
       repeat' split
       all_goals trivial)
theorem qg2 {w : Option Nat} {v : TV} (h : idsIn U v) : RdK R U any (loadAt w v) := by
  cases v <;> first
    | trivial
    | exact vrb _
    | (refine (vlh (by first | exact h | exact h.1)).bind fun n _ => ?_
       repeat' split
       all_goals first | trivial | exact vrb _)
theorem qop {o : Nat} {v : TV} (h : idsIn U v) : RdK R U any (fieldAt o v) := by
  cases v <;> first
    | trivial
    | (refine (vlh (by first | exact h | exact h.1)).bind fun n _ => ?_
       repeat' split
       all_goals trivial)
theorem qp3 {e:Nat} {v:TV} {lo hi:Option Int} (h:idsIn U v):RdK R U any (sliceAt e v lo hi):=by
 unfold sliceAt;split
 ·split<;>trivial
 ·split<;>trivial
 ·refine (vlh h).bindA fun n _=> ?_
  repeat' split
  all_goals trivial
 ·refine (vlh h).bindA fun n _=> ?_
  repeat' split
  all_goals trivial
 ·trivial
theorem qob {e m:Nat} {v:TV} {i:Int} (h:idsIn U v):RdK R U any (indexAt e m v i):=by
 unfold indexAt;refine (qcm h).bind fun r _=> ?_
 repeat' split
 all_goals trivial
mutual
theorem vy7 (z:Bool):∀(k n:Nat) {x:TV},idsIn U x→RdK R U any (vbd z k n x)
 |0,n,x,_=>by unfold vbd;trivial
 |k+1,n,x,h=>by
  unfold vbd;split
  ·trivial
  ·trivial
  ·trivial
  ·exact RdK.bindA (vng z k h) fun _ _=>(trivial:RdK R U any (M.pure _))
  ·exact (vng z k h.1).bindA fun _ _=>RdK.bindA (vng z k h.2) fun _ _=>(trivial:RdK R U any (M.pure _))
  ·exact RdK.bindA (vy7 z k _ h) fun _ _=>(trivial:RdK R U any (M.pure _))
  ·trivial
  ·refine (vlh h).bindA fun n hn=> ?_;split
   ·split<;>trivial
   ·split
    ·trivial
    ·exact RdK.bindA (vng z k (hn _ rfl)) fun _ _=>(trivial:RdK R U any (M.pure _))
   ·trivial
  ·split
   ·trivial
   ·refine (vlh h).bindA fun n hn=> ?_
    repeat' split
    all_goals trivial
  ·split
   ·trivial
   ·refine (vlh h.1).bindA fun n hn=> ?_
    repeat' split
    all_goals trivial
  ·split
   ·trivial
   ·refine (vlh h).bindA fun n hn=> ?_;split
    ·split
     ·refine RdK.bind (post:=any) (vng z k ?_) fun _ _=>(trivial:RdK R U any (M.pure _))
      have:=hn _ rfl;exact vc8 fun c hc=>vcl this c (List.mem_of_mem_drop (List.mem_of_mem_take hc))
     ·trivial
    ·trivial
  ·trivial
theorem vng (z:Bool):∀(k:Nat) {xs:List TV},vaq U xs→RdK R U any (vbo z k xs)
 |0,xs,_=>by unfold vbo;trivial
 |k+1,[],_=>by unfold vbo;trivial
 |k+1,x::xs,h=>by
  unfold vbo;exact (vy7 z k 0 h.1).bindA fun _ _=>RdK.bindA (vng z k h.2) fun _ _=>(trivial:RdK R U any (M.pure _))
end
theorem qib (keeps:Bool):∀(ms:List Md) {xs:List TV} (ys:List CV),vaq U xs→RdK R U any (show_ keeps ms xs ys)
 | [],[],[],_=>by unfold show_;trivial
 | .ro n::ms,x::xs,y::ys,h=>by unfold show_;exact (vy7 keeps depth n h.1).bindA fun _ _=>RdK.bindA (qib keeps ms ys h.2) fun _ _=>(trivial:RdK R U any (M.pure _))
 | .mut _::ms,_::xs,y::ys,h=>by unfold show_;exact (qib keeps ms ys h.2).bindA fun _ _=>(trivial:RdK R U any (M.pure _))
 | [],[],_::_,_=>by unfold show_;trivial
 | [],_::_,_,_=>by unfold show_;trivial
 | .ro _::_,[],_,_=>by unfold show_;trivial
 | .ro _::_,_::_,[],_=>by unfold show_;trivial
 | .mut _::_,[],_,_=>by unfold show_;trivial
 | .mut _::_,_::_,[],_=>by unfold show_;trivial
def AllRo (ms:List Md):Prop:=∀m∈ms,∃n,m= .ro n
theorem qpi (keeps:Bool):∀(ms:List Md) (xs:List TV),AllRo ms→RdK R U any (lend keeps ms xs)
 | [],[],_=>by unfold lend;trivial
 | [],_::_,_=>by unfold lend;trivial
 |m::ms,xs,h=>by
  obtain ⟨n,rfl⟩:=h m (by simp);cases xs with
  |nil=>unfold lend;trivial
  |cons x xs=>unfold lend;exact (qpi keeps ms xs fun m hm=>h m (by simp [hm])).bind fun _ _=>trivial
theorem qk7 (keeps:Bool) (v:Nat):∀(ms:List Md) (xs:List TV) (ys:List CV),AllRo ms→RdK R U any (vbs keeps v ms xs ys)
 | [],[],[],_=>by unfold vbs;trivial
 | [],[],_::_,_=>by unfold vbs;trivial
 | [],_::_,_,_=>by unfold vbs;trivial
 |m::ms,xs,ys,h=>by
  obtain ⟨n,rfl⟩:=h m (by simp);cases xs with
  |nil=>unfold vbs;trivial
  |cons x xs=>
   cases ys with
   |nil=>unfold vbs;trivial
   |cons y ys=>unfold vbs;exact (qk7 keeps v ms xs ys fun m hm=>h m (by simp [hm])).bind fun _ _=>trivial
theorem qa5 (q:Bool) (V:Nat):∀(ms:List Md) (xs:List TV) (cs fs:List CV) (b:Nat),AllRo ms→RdK R U (fun b'=>b'=b) (van q V b ms xs cs fs)
 | [],[],[],[],b,_=>by simp only [van];exact rfl
 | [],_::_,_,_,b,_=>by simp only [van];trivial
 | [],[],_::_,_,b,_=>by simp only [van];trivial
 | [],[],[],_::_,b,_=>by simp only [van];trivial
 |m::ms,xs,cs,fs,b,h=>by
  obtain ⟨n,rfl⟩:=h m (by simp);cases xs with
  |nil=>simp only [van];trivial
  |cons x xs=>
   cases cs with
   |nil=>simp only [van];trivial
   |cons c cs=>simp only [van];exact qa5 q V ms xs cs fs b fun m hm=>h m (by simp [hm])
def Grows (b:Nat) {α:Type} (m:M (α×Nat)):Prop:=∀(st:St) (r:α×Nat) (s:St),m.run st=some (r,s)→b≤r.2∧∃dn,s=⟨st.slots,dn++st.nodes,st.next⟩∧(∀y∈dn,b≤y.1∧y.1<r.2)∧
  ∀st':St,m.run st'=some (r,⟨st'.slots,dn++st'.nodes,st'.next⟩)
theorem vob {α:Type} (x:α) (b:Nat):Grows b (M.pure (x,b)):=by
 intro st r s hr;cases run_pure hr;exact ⟨Nat.le_refl _,[],rfl,by simp,fun _=>rfl⟩
theorem vuu {α β:Type} {m:M (α×Nat)} {k:α×Nat→M (β×Nat)} {b:Nat} (h:Grows b m) (hk:∀x:α×Nat,b≤x.2→Grows x.2 (k x)):Grows b (m.bind k):=by
 intro st r s hr;obtain ⟨x,s1,h1,h2⟩:=vaa hr;obtain ⟨g1,dn,rfl,g3,g4⟩:=h _ _ _ h1;obtain ⟨k1,dn',rfl,k3,k4⟩:=hk x g1 _ _ _ h2;refine ⟨Nat.le_trans g1 k1,dn'++dn,by simp,fun y hy=> ?_,fun st'=> ?_⟩
 ·rcases Aa.1 hy with hy|hy
  ·have:=k3 y hy;omega
  ·have:=g3 y hy;omega
 ·rw [vnk,g4 st'];have:=k4 ⟨st'.slots,dn++st'.nodes,st'.next⟩;simpa using this
theorem vp7 {α β:Type} {m:M (α×Nat)} {f:α→β} {b:Nat} (h:Grows b m):Grows b (m.bind fun r=> .pure (f r.1,r.2)):=
 vuu h fun x _=>vob _ _
mutual
theorem vzc (q:Bool):∀(c:CV) (b:Nat),Grows b (vaz q b c)
 | .a v,b=>by unfold vaz;exact vob _ _
 | .sl z e es,b=>by
  unfold vaz;split
  ·exact vob _ _
  ·intro st r s hr;obtain ⟨u,s1,h1,h2⟩:=vaa hr;cases vb1 h1;cases run_pure h2;exact ⟨Nat.le_succ _,[(b,some (.sl q 0 e es))],rfl,fun y hy=>by simp only [Ab] at hy;subst hy;exact ⟨Nat.le_refl _,Nat.lt_succ_self _⟩,fun _=>rfl⟩
 | .bx z cs,b=>by
  unfold vaz;intro st r s hr;obtain ⟨x,s1,h1,h2⟩:=vaa hr;obtain ⟨g1,dn,rfl,g3,g4⟩:=vj6 q cs (b+1) _ _ _ h1;obtain ⟨u,s2,h3,h4⟩:=vaa h2;cases vb1 h3;cases run_pure h4;dsimp only;refine ⟨by omega,(b,some (.bx z x.1))::dn,rfl,fun y hy=> ?_,fun st'=> ?_⟩
  ·rcases List.mem_cons.1 hy with rfl|hy
   ·dsimp only;omega
   ·have:=g3 y hy;omega
  ·rw [vnk,g4 st'];rfl
 | .st cs,b=>by unfold vaz;exact vp7 (vj6 q cs b)
 | .tp cs,b=>by unfold vaz;exact vp7 (vj6 q cs b)
 | .fn f fs cs,b=>by
  unfold vaz;exact vuu (vj6 q fs b) fun p _=>vp7 (f:=fun r=>TV.fn f p.1 r) (vj6 q cs p.2)
 | .ic t v,b=>by unfold vaz;exact vp7 (vzc q v b)
 | .un,b=>by unfold vaz;exact vob _ _
theorem vj6 (q:Bool):∀(cs:List CV) (b:Nat),Grows b (vbh q b cs)
 | [],b=>by unfold vbh;exact vob _ _
 |c::cs,b=>by
  unfold vbh;exact vuu (vzc q c b) fun r _=>vp7 (f:=fun p=>r.1::p) (vj6 q cs r.2)
end
def ownR (b:Nat):Nat→Prop:=fun i=>b≤i∧i<b+100
theorem qjv {q:Bool} {b:Nat} {rs:List CV} {d:Option Nat} (hW:∀t,d=some t→W t):FootK R W U (ownR b) ((vd3 q (b+99) b rs).bind (putO d)):=by
 intro st hc r s hr;obtain ⟨v,s1,h1,h2⟩:=vaa hr;unfold vd3 at h1;obtain ⟨x,s2,h3,h4⟩:=vaa h1;obtain ⟨g1,dn,rfl,g3,g4⟩:=vj6 q rs b _ _ _ h3;split at h4
 ·rename_i hle;cases run_pure h4;have hput:∃ds,(∀y∈ds,W y.1)∧∀st':St,(putO d (oneOf x.1)).run st'=some ((),⟨ds++st'.slots,st'.nodes,st'.next⟩):=by
   cases d with
   |none=>exact ⟨[],by simp,fun _=>rfl⟩
   |some t=>exact ⟨[(t,oneOf x.1)],fun y hy=>by simp only [Ab] at hy;subst hy;exact hW t rfl,fun _=>rfl⟩
  obtain ⟨ds,e1,e2⟩:=hput;rw [e2] at h2;cases h2;refine ⟨ds,dn,rfl,e1,fun y hy=> ?_,fun st' _ _=> ?_⟩
  ·have:=g3 y hy;exact ⟨this.1,by omega⟩
  ·rw [vnk];unfold vd3;rw [vnk,g4 st'];simp only [if_pos hle];exact e2 _
 ·exact (vac h4).elim
theorem qip {d:Option Nat} (hW:∀t,d=some t→W t) (v:TV):WrK W B (putO d v):=by
 cases d with
 |none=>trivial
 |some t=>exact ⟨hW t rfl,trivial⟩
theorem qpz {c:Callee} (hc:AllRo c.modes) {b:Nat} {xs:List TV} (hx:vaq U xs) {d:Option Nat} (hW:∀t,d=some t→W t):FootK R W U (ownR b) ((callM (some c) b xs).bind (putO d)):=by
 have assoc:∀{α β γ:Type} (m:M α) (f:α→M β) (g:β→M γ),(m.bind f).bind g=m.bind fun x=>(f x).bind g:=by
  intro α β γ m f g;induction m with
  |pure x=>rfl
  |fail=>rfl
  |getS t k ih=>exact congrArg (M.getS t) (funext ih)
  |setS t v k ih=>exact congrArg (M.setS t v) ih
  |getN id k ih=>exact congrArg (M.getN id) (funext ih)
  |setN id n k ih=>exact congrArg (M.setN id n) ih
 unfold callM lendA;rw [assoc,assoc];refine (qpi _ _ _ hc).foot fun ps _=> ?_;refine (qk7 _ _ _ _ _ hc).foot fun ps _=> ?_;rw [assoc];refine (qib _ _ _ hx).foot fun cs _=> ?_;split
 ·exact vet
 ·rw [assoc];refine (qa5 _ _ _ _ _ _ _ hc).foot fun b' hb=> ?_;subst hb;split
  ·rw [if_pos zo,assoc];exact (vrb _).foot fun ts _=>WrK.foot (qip hW _)
  ·exact qjv hW
end
theorem qo9 {Φ:Nat→Option Callee} {writes:Nat→Bool} (hΦ:∀f c,Φ f=some c→writes (f+1000000)=false→AllRo c.modes) {R W U:Nat→Prop} (b:Nat) (op:VOp) (ho:op.own writes=true) (hR:∀t∈op.uses,R t) (hW:∀t,op.dst=some t→W t):
  FootK R W U (ownR b) (exec Φ b op):=by
 have wS:∀{d:Nat} {v:TV},W d→FootK R W U (ownR b) (setS d v):=fun h=>WrK.foot ⟨h,trivial⟩;have own:ownR b b:=⟨Nat.le_refl _,by omega⟩
 have wN:∀{d:Nat} {v:TV} {n:Option Node},W d→FootK R W U (ownR b) ((setN b n).bind fun _=>setS d v):=fun h=>WrK.foot ⟨own,h,trivial⟩;cases op with
 |load d w x=>exact (vj8 hR).foot fun v hv=>(qg2 hv).foot fun _ _=>wS (hW d rfl)
 |lda d x=>
  refine (vj8 hR).foot fun v hv=>(qg2 hv).foot fun u _=> ?_;unfold atomS;split
  ·exact wS (hW d rfl)
  ·exact WrK.foot trivial
 |slc d e x lo hi=>
  simp only [VOp.uses,Aa] at hR;exact (vj8 fun t ht=>hR t (.inl (.inl ht))).foot fun v hv=>(qlg fun t ht=>hR t (.inl (.inr ht))).foot fun _ _=>(qlg fun t ht=>hR t (.inr ht)).foot fun _ _=>(qp3 hv).foot fun _ _=>wS (hW d rfl)
 |iad d e m x i=>
  simp only [VOp.uses,Aa] at hR;refine (vj8 fun t ht=>hR t (.inl ht)).foot fun v hv=>(vj8 fun t ht=>hR t (.inr ht)).foot fun u _=> ?_;split
  ·exact (qob hv).foot fun _ _=>wS (hW d rfl)
  ·exact vet
 |len d x=>exact (vj8 hR).foot fun v hv=>(qcm hv).foot fun _ _=>wS (hW d rfl)
 |fad d x off=>exact (vj8 hR).foot fun v hv=>(qop hv).foot fun _ _=>wS (hW d rfl)
 |nilck d x=>
  refine (vj8 hR).foot fun v hv=> ?_;split
  ·refine (vlh hv).foot fun n _=> ?_;split
   ·exact wS (hW d rfl)
   ·exact vet
  ·exact wS (hW d rfl)
  ·refine (vlh hv).foot fun n _=> ?_;split
   ·exact wS (hW d rfl)
   ·exact vet
  ·exact wS (hW d rfl)
  ·exact wS (hW d rfl)
  ·exact wS (hW d rfl)
  ·exact vet
 |alloc d zs=>
  simp only [exec];split
  ·exact vet
  ·exact wN (hW d rfl)
 |box d x=>
  refine (vj8 hR).foot fun v hv=>(vrb _).foot fun cs _=> ?_;split
  ·exact vet
  ·exact wN (hW d rfl)
 |s2b d e x=>
  refine (vj8 hR).foot fun v hv=> ?_;split
  ·split
   ·exact wN (hW d rfl)
   ·exact vet
  ·exact vet
 |mks d e bytes zs x=>
  refine (vj8 hR).foot fun v hv=> ?_;split
  ·split
   ·exact wN (hW d rfl)
   ·exact vet
  ·exact vet
 |slc0 d e x=>
  refine (vj8 hR).foot fun v hv=>(qcm hv).foot fun _ _=> ?_;split
  ·exact wN (hW d rfl)
  ·exact vet
 |bsl d e m zs n ps=>
  simp only [VOp.own] at ho;have key:∀(ps:List (Nat×Opd)) (q:Bool) (es:List PV),(∀t∈ps.flatMap (·.2.used),R t)→RdK R U any (bslM true m ps q es):=by
   intro ps;induction ps with
   |nil=>intro q es _;trivial
   |cons p ps ih=>
    obtain ⟨i,x⟩:=p;intro q es hR;unfold bslM;refine (vj8 fun t ht=>hR t (by simp [ht])).bind fun v _=> ?_;refine RdK.bind (post:=any) ?_ fun y _=> ?_
    ·unfold toEl;split
     ·exact (vrb _).bind fun _ _=>trivial
     ·exact (vrb _).bind fun _ _=>trivial
    ·split
     ·exact ih _ _ fun t ht=>hR t (by simp only [Ac,Aa];exact .inr ht)
     ·trivial
  simp only [exec,ho,bslQ];exact (key ps false _ fun t ht=>hR t (by simpa [VOp.uses] using ht)).foot fun es _=>wN (hW d rfl)
 |call d f xs=>
  simp only [VOp.own,Bool.not_eq_true'] at ho;refine (qnm hR).foot fun vs hvs=> ?_;cases hc:Φ f with
  |none=>exact vet
  |some c=>exact qpz (hΦ f c hc ho) hvs hW
 |_=>cases ho
theorem qat {Φ:Nat→Option Callee} {writes:Nat→Bool} (hΦ:∀f c,Φ f=some c→writes (f+1000000)=false→AllRo c.modes) {U:Nat→Prop} (b:Nat) (o:VOper) (ho:o.op.own writes=true) (hd:o.guard=none∨o.op.dst=o.dst):
  FootK (fun t=>t∈o.reads) (fun t=>o.op.dst=some t) U (ownR b) (execG Φ b o):=by
 have hx:=qo9 hΦ (R:=fun t=>t∈o.reads) (W:=fun t=>o.op.dst=some t) (U:=U) b o.op ho (fun t ht=>by unfold VOper.reads;exact Aa.2 (.inr ht)) fun t ht=>ht;unfold execG;split
 ·exact hx
 ·rename_i t want hg;have hd':o.op.dst=o.dst:=hd.resolve_left (by rw [hg];simp);have puts:∀(v:TV),FootK (fun t=>t∈o.reads) (fun t=>o.op.dst=some t) U (ownR b) (putO o.dst v):=fun v=>WrK.foot (qip (fun t ht=>by rw [hd'];exact ht) v);refine RdK.foot (post:=any) ⟨by unfold VOper.reads;rw [hg];simp,fun v _=>trivial⟩ fun u _=> ?_;split
  ·split
   ·exact hx
   ·exact puts _
  ·exact puts _
  ·exact vet
