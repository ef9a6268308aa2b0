/- The interpreter 'VM': what an operation of a region reads and writes, and that such ones commute. The interpreter 'VM': operations that write nodes of their own alone commute with one another. -/
import Derived.Test.YtpnnhokaehghfaaDoorVmTu
open List renaming mem_append->Aa,mem_singleton->Ab,flatMap_cons->Ac
namespace Go.Proofs.YtpnnhokaehghfaaDoor.VM
open Go
def Loc {α:Type} (R W:Nat→Prop) (rn wn:Prop):M α→Prop
 | .pure _=>True
 | .fail=>True
 | .getS t k=>R t∧∀v,Loc R W rn wn (k v)
 | .setS t _ k=>W t∧Loc R W rn wn k
 | .getN _ k=>rn∧∀n,Loc R W rn wn (k n)
 | .setN _ _ k=>wn∧Loc R W rn wn k
theorem Loc.bind {α β:Type} {R W:Nat→Prop} {rn wn:Prop} {m:M α} (h:Loc R W rn wn m) {k:α→M β} (hk:∀x,Loc R W rn wn (k x)):Loc R W rn wn (m.bind k):=by
 induction m with
 |pure x=>exact hk x
 |fail=>exact trivial
 |getS t k' ih=>exact ⟨h.1,fun v=>ih v (h.2 v)⟩
 |setS t v k' ih=>exact ⟨h.1,ih h.2⟩
 |getN id k' ih=>exact ⟨h.1,fun v=>ih v (h.2 v)⟩
 |setN id n k' ih=>exact ⟨h.1,ih h.2⟩
theorem Loc.mono {α:Type} {R W R' W':Nat→Prop} {rn wn rn' wn':Prop} (hR:∀t,R t→R' t) (hW:∀t,W t→W' t) (hr:rn→rn') (hw:wn→wn'):∀{m:M α},Loc R W rn wn m→Loc R' W' rn' wn' m
 | .pure _,_=>trivial
 | .fail,_=>trivial
 | .getS _ _,h=>⟨hR _ h.1,fun v=>Loc.mono hR hW hr hw (h.2 v)⟩
 | .setS _ _ _,h=>⟨hW _ h.1,Loc.mono hR hW hr hw h.2⟩
 | .getN _ _,h=>⟨hr h.1,fun v=>Loc.mono hR hW hr hw (h.2 v)⟩
 | .setN _ _ _,h=>⟨hw h.1,Loc.mono hR hW hr hw h.2⟩
theorem vca {α:Type}:∀(l r:List (Nat×α)) (k:Nat),look (l++r) k=(look l k).or (look r k)
 | [],r,k=>by simp [look]
 |(j,v)::l,r,k=>by
  simp only [List.cons_append,look];split
  ·rfl
  ·exact vca l r k
theorem vbo {α:Type}:∀{l:List (Nat×α)} {k:Nat},(∀x∈l,x.1≠k)→look l k=none
 | [],_,_=>rfl
 |(j,v)::l,k,h=>by
  simp only [look];rw [if_neg (h (j,v) (by simp))];exact vbo fun x hx=>h x (by simp [hx])
structure Same (s s':St):Prop where
 slot:∀t,s.slot t=s'.slot t
 node:∀id,s.node id=s'.node id
theorem vja {α:Type} {R W:Nat→Prop} {rn wn:Prop}:∀{m:M α},Loc R W rn wn m→∀{st:St} {r:α} {s:St},m.run st=some (r,s)→
  ∃ds dn,s=⟨ds++st.slots,dn++st.nodes,st.next⟩∧(∀x∈ds,W x.1)∧(¬wn→dn= [])∧
   ∀st':St,(∀t,R t→st'.slot t=st.slot t)→(rn→∀id,st'.node id=st.node id)→m.run st'=some (r,⟨ds++st'.slots,dn++st'.nodes,st'.next⟩)
 | .pure x,_,st,r,s,h=>by
  cases run_pure h;exact ⟨[],[],rfl,by simp,fun _=>rfl,fun st' _ _=>rfl⟩
 | .fail,_,st,r,s,h=>(vab h).elim
 | .getS t k,hl,st,r,s,h=>by
  obtain ⟨ds,dn,e,h1,h2,h3⟩:=vja (hl.2 (st.slot t)) h;refine ⟨ds,dn,e,h1,h2,fun st' ha hb=> ?_⟩;simp only [M.run];rw [ha t hl.1];exact h3 st' ha hb
 | .setS t v k,hl,st,r,s,h=>by
  obtain ⟨ds,dn,e,h1,h2,h3⟩:=vja hl.2 h;refine ⟨ds++ [(t,v)],dn,by simpa using e,fun x hx=> ?_,h2,fun st' ha hb=> ?_⟩
  ·rcases Aa.1 hx with hx|hx
   ·exact h1 x hx
   ·simp only [Ab] at hx;subst hx;exact hl.1
  ·have:=h3 {st' with slots:=(t,v)::st'.slots} (fun t' ht=>by rw [vft,vft,ha t' ht]) hb;simpa [M.run] using this
 | .getN id k,hl,st,r,s,h=>by
  obtain ⟨ds,dn,e,h1,h2,h3⟩:=vja (hl.2 (st.node id)) h;refine ⟨ds,dn,e,h1,h2,fun st' ha hb=> ?_⟩;simp only [M.run];rw [hb hl.1 id];exact h3 st' ha hb
 | .setN id n k,hl,st,r,s,h=>by
  obtain ⟨ds,dn,e,h1,h2,h3⟩:=vja hl.2 h;refine ⟨ds,dn++ [(id,n)],by simpa using e,h1,fun hw=>absurd hl.1 hw,fun st' ha hb=> ?_⟩;have:=h3 {st' with nodes:=(id,n)::st'.nodes} ha (fun hr id'=>by rw [vc8,vc8,hb hr id']);simpa [M.run] using this
theorem vh5 {ds:List (Nat×TV)} {st:St} {dn:List (Nat×Option Node)} {t:Nat}:({slots:=ds++st.slots,nodes:=dn++st.nodes,next:=st.next}:St).slot t=((look ds t).or (look st.slots t)).getD .un:=by
 simp [St.slot,vca]
theorem via {ds:List (Nat×TV)} {st:St} {dn:List (Nat×Option Node)} {id:Nat}:({slots:=ds++st.slots,nodes:=dn++st.nodes,next:=st.next}:St).node id=((look dn id).or (look st.nodes id)).getD none:=by
 simp [St.node,vca]
theorem qat {α β:Type} {R1 W1 R2 W2:Nat→Prop} {rn1 wn1 rn2 wn2:Prop} {m1:M α} {m2:M β} (h1:Loc R1 W1 rn1 wn1 m1) (h2:Loc R2 W2 rn2 wn2 m2) (hs1:∀t,W1 t→¬R2 t∧¬W2 t) (hs2:∀t,W2 t→¬R1 t)
  (hn1:wn1→¬rn2∧¬wn2) (hn2:wn2→¬rn1) {st s1 s2:St} {x:α} {y:β} (hr1:m1.run st=some (x,s1)) (hr2:m2.run s1=some (y,s2)):
  ∃s1' s2',m2.run st=some (y,s1')∧m1.run s1'=some (x,s2')∧Same s2' s2:=by
 obtain ⟨ds1,dn1,rfl,w1,n1,k1⟩:=vja h1 hr1;obtain ⟨ds2,dn2,rfl,w2,n2,k2⟩:=vja h2 hr2;have no1:∀t,R2 t→look ds1 t=none:=fun t ht=>vbo fun z hz e=>(hs1 z.1 (w1 z hz)).1 (e▸ht);have no2:∀t,R1 t→look ds2 t=none:=fun t ht=>vbo fun z hz e=>hs2 z.1 (w2 z hz) (e▸ht);have e1:m2.run st=some (y,⟨ds2++st.slots,dn2++st.nodes,st.next⟩):=by
  refine k2 st (fun t ht=> ?_) fun hr id=> ?_
  ·rw [vh5,no1 t ht];simp [St.slot]
  ·have:dn1= []:=n1 fun hw=>(hn1 hw).1 hr;subst this;rw [via];simp [look,St.node]
 have e2:=k1 ⟨ds2++st.slots,dn2++st.nodes,st.next⟩ (fun t ht=>by rw [vh5,no2 t ht];simp [St.slot]) (fun hr id=>by
  have:dn2= []:=n2 fun hw=>hn2 hw hr;subst this
  rw [via];simp [look,St.node])
 refine ⟨_,_,e1,e2,fun t=> ?_,fun id=> ?_⟩
 ·simp only [St.slot,vca];by_cases hw:W1 t
  ·have:look ds2 t=none:=vbo fun z hz e=>(hs1 t hw).2 (e▸w2 z hz);rw [this];simp
  ·have:look ds1 t=none:=vbo fun z hz e=>hw (e▸w1 z hz);rw [this];simp
 ·simp only [St.node,vca];by_cases hw:wn1
  ·have:dn2= []:=n2 (hn1 hw).2;subst this;simp [look]
  ·have:=n1 hw;subst this;simp [look]
section
variable {R W:Nat→Prop} {rn wn:Prop}
theorem vap {α:Type} (x:α):Loc R W rn wn (M.pure x):=trivial
theorem vcd {α:Type}:Loc R W rn wn (M.fail:M α):=trivial
theorem vxx {t:Nat} (h:R t):Loc R W rn wn (getS t):=⟨h,fun _=>trivial⟩
theorem vbl {t:Nat} (h:W t) (v:TV):Loc R W rn wn (setS t v):=⟨h,trivial⟩
theorem vbr {id:Nat} (h:rn):Loc R W rn wn (getN id):=⟨h,fun _=>trivial⟩
theorem vaw {id:Nat} (h:wn) (n:Option Node):Loc R W rn wn (setN id n):=⟨h,trivial⟩
theorem vas {α:Type} (x:Option α):Loc R W rn wn (liftO x):=by cases x<;>trivial
theorem vbk {x:Opd} (h:∀t∈x.used,R t):Loc R W rn wn (opd x):=by
 cases x with
 |t n=>exact vxx (h n (by simp [Opd.used]))
 |_=>trivial
theorem vis:∀{xs:List Opd} (_:∀t∈xs.flatMap Opd.used,R t),Loc R W rn wn (opds xs)
 | [],_=>trivial
 |x::xs,h=>(vbk fun t ht=>h t (by simp [ht])).bind fun _=>(vis fun t ht=>h t (by
   simp only [Ac,Aa];exact .inr ht)).bind fun _=>vap _
theorem vnr {x:Option Opd} (h:∀t∈(x.map Opd.used).getD [],R t):Loc R W rn wn (bound x):=by
 cases x with
 |none=>trivial
 |some y=>
  refine (vbk h).bind fun u=> ?_;split<;>trivial
theorem vtr (h:rn) (w:Option Nat) (v:TV):Loc R W rn wn (loadAt w v):=by unfold loadAt;(repeat' (first|exact vap _|exact vcd|exact vas _|(refine Loc.bind (vas _) (fun _=> ?_))|(refine Loc.bind (vbr (by assumption)) (fun _=> ?_))|(refine Loc.bind (vaw (by assumption) _) (fun _=> ?_))|exact vaw (by assumption) _|split))
theorem vks (h:rn) (v:TV):Loc R W rn wn (elems v):=by unfold elems;(repeat' (first|exact vap _|exact vcd|exact vas _|(refine Loc.bind (vas _) (fun _=> ?_))|(refine Loc.bind (vbr (by assumption)) (fun _=> ?_))|(refine Loc.bind (vaw (by assumption) _) (fun _=> ?_))|exact vaw (by assumption) _|split))
theorem vzv (h:rn) (e:Nat) (v:TV) (lo hi:Option Int):Loc R W rn wn (sliceAt e v lo hi):=by unfold sliceAt;(repeat' (first|exact vap _|exact vcd|exact vas _|(refine Loc.bind (vas _) (fun _=> ?_))|(refine Loc.bind (vbr (by assumption)) (fun _=> ?_))|(refine Loc.bind (vaw (by assumption) _) (fun _=> ?_))|exact vaw (by assumption) _|split))
theorem qcv (v:TV) (lo hi:Option Int):Loc R W rn wn (strAt v lo hi):=by unfold strAt;(repeat' (first|exact vap _|exact vcd|exact vas _|(refine Loc.bind (vas _) (fun _=> ?_))|(refine Loc.bind (vbr (by assumption)) (fun _=> ?_))|(refine Loc.bind (vaw (by assumption) _) (fun _=> ?_))|exact vaw (by assumption) _|split))
theorem vyj (h:rn) (o:Nat) (v:TV):Loc R W rn wn (fieldAt o v):=by unfold fieldAt;(repeat' (first|exact vap _|exact vcd|exact vas _|(refine Loc.bind (vas _) (fun _=> ?_))|(refine Loc.bind (vbr (by assumption)) (fun _=> ?_))|(refine Loc.bind (vaw (by assumption) _) (fun _=> ?_))|exact vaw (by assumption) _|split))
theorem vzk (h:rn) (e m:Nat) (v:TV) (i:Int):Loc R W rn wn (indexAt e m v i):=by
 unfold indexAt;refine (vks h _).bind fun _=> ?_
 (repeat' (first|exact vap _|exact vcd|exact vas _|(refine Loc.bind (vas _) (fun _=> ?_))|(refine Loc.bind (vbr (by assumption)) (fun _=> ?_))|(refine Loc.bind (vaw (by assumption) _) (fun _=> ?_))|exact vaw (by assumption) _|split))
theorem vx8 (h:rn) (h2:wn) (x:TV):Loc R W rn wn (toPV x):=by unfold toPV;(repeat' (first|exact vap _|exact vcd|exact vas _|(refine Loc.bind (vas _) (fun _=> ?_))|(refine Loc.bind (vbr (by assumption)) (fun _=> ?_))|(refine Loc.bind (vaw (by assumption) _) (fun _=> ?_))|exact vaw (by assumption) _|split))
theorem vqw (h:rn) (h2:wn):∀(xs:List TV),Loc R W rn wn (toPVs xs)
 | []=>trivial
 |x::xs=>(vx8 h h2 x).bind fun _=>(vqw h h2 xs).bind fun _=>vap _
theorem vxo (h:rn) (h2:wn) (fl:Bool) (x:TV):Loc R W rn wn (toEl fl x):=by
 unfold toEl;split
 ·split
  ·exact (vas _).bind fun _=>vap _
  ·exact (vqw h h2 _).bind fun _=>vap _
 ·split
  ·exact (vas _).bind fun _=>vap _
  ·exact vx8 h h2 _
theorem vzy (h:rn) (h2:wn) (fl:Bool) (m:Nat):∀(ps:List (Nat×Opd)) (_:∀t∈ps.flatMap (·.2.used),R t) (q:Bool) (es:List PV),Loc R W rn wn (bslM fl m ps q es)
 | [],_,q,es=>trivial
 |(i,x)::ps,hR,q,es=>by
  unfold bslM;refine (vbk fun t ht=>hR t (by simp [ht])).bind fun v=>(vxo h h2 fl v).bind fun y=> ?_;split
  ·exact vzy h h2 fl m ps (fun t ht=>hR t (by simp only [Ac,Aa];exact .inr ht)) _ _
  ·trivial
theorem vtl:∀(ps:List (Nat×Nat×Opd)) (_:∀t∈ps.flatMap (·.2.2.used),R t) (cs:List TV),Loc R W rn wn (buildM ps cs)
 | [],_,cs=>trivial
 |(o,w,x)::ps,hR,cs=>by
  unfold buildM;refine (vbk fun t ht=>hR t (by simp [ht])).bind fun v=> ?_;split
  ·exact vtl ps (fun t ht=>hR t (by simp only [Ac,Aa];exact .inr ht)) _
  ·trivial
theorem qc9 (h:rn) (h2:wn) (b:Nat) (x:TV):Loc R W rn wn (pull1 b x):=by
 unfold pull1;split
 ·refine (vbr h).bind fun _=> ?_;split
  ·split
   ·unfold pullK;split
    ·refine Loc.bind (show Loc R W rn wn (takeIn _ _ _ _ _ _ _) from by unfold takeIn;(repeat' (first|exact vap _|exact vcd|exact vas _|(refine Loc.bind (vas _) (fun _=> ?_))|(refine Loc.bind (vbr (by assumption)) (fun _=> ?_))|(refine Loc.bind (vaw (by assumption) _) (fun _=> ?_))|exact vaw (by assumption) _|split))) fun _=> ?_
     (repeat' (first|exact vap _|exact vcd|exact vas _|(refine Loc.bind (vas _) (fun _=> ?_))|(refine Loc.bind (vbr (by assumption)) (fun _=> ?_))|(refine Loc.bind (vaw (by assumption) _) (fun _=> ?_))|exact vaw (by assumption) _|split))
    ·exact vcd
   ·exact vcd
  ·exact vcd
 ·exact vap _
theorem vvc (h:rn) (h2:wn) (b:Nat):∀(xs:List TV),Loc R W rn wn (pullL b xs)
 | []=>vap _
 |x::xs=>by
  unfold pullL;split
  ·exact (qc9 h h2 b x).bind fun _=>vap _
  ·exact (vvc h h2 b xs).bind fun _=>vap _
theorem vt7 (h:rn) (h2:wn) (b:Nat) (u v:TV):Loc R W rn wn (pullTo b u v):=by
 unfold pullTo;split
 ·exact (vvc h h2 b _).bind fun _=>vap _
 ·exact vap _
theorem qd5 (h:rn) (h2:wn) (b:Nat) (fl:Bool) (m:Nat) (ps:List (Nat×Opd)) (hR:∀t∈ps.flatMap (·.2.used),R t) (es:List PV):Loc R W rn wn (bslQ b fl m ps es):=by
 unfold bslQ;split
 ·refine (vbk fun t ht=>hR t (by simp [ht])).bind fun v=>(vt7 h h2 b _ v).bind fun v=>(vxo h h2 _ v).bind fun y=> ?_;split
  ·exact vap _
  ·exact vcd
 ·exact vzy h h2 _ m _ hR _ _
theorem vyd (h:rn) (h2:wn) (b w:Nat) (x y:TV):Loc R W rn wn (storeAt b w x y):=by
 unfold storeAt;split
 ·unfold storeBox;(repeat' (first|exact vap _|exact vcd|exact vas _|(refine Loc.bind (vas _) (fun _=> ?_))|(refine Loc.bind (vbr (by assumption)) (fun _=> ?_))|(refine Loc.bind (vaw (by assumption) _) (fun _=> ?_))|exact vaw (by assumption) _|split))
 ·unfold storeBox;(repeat' (first|exact vap _|exact vcd|exact vas _|(refine Loc.bind (vas _) (fun _=> ?_))|(refine Loc.bind (vbr (by assumption)) (fun _=> ?_))|(refine Loc.bind (vaw (by assumption) _) (fun _=> ?_))|exact vaw (by assumption) _|split))
 ·refine (vqw h h2 _).bind fun _=> ?_
  (repeat' (first|exact vap _|exact vcd|exact vas _|(refine Loc.bind (vas _) (fun _=> ?_))|(refine Loc.bind (vbr (by assumption)) (fun _=> ?_))|(refine Loc.bind (vaw (by assumption) _) (fun _=> ?_))|exact vaw (by assumption) _|split))
 ·unfold vh8;(repeat' (first|exact vap _|exact vcd|exact vas _|(refine Loc.bind (vas _) (fun _=> ?_))|(refine Loc.bind (vbr (by assumption)) (fun _=> ?_))|(refine Loc.bind (vaw (by assumption) _) (fun _=> ?_))|exact vaw (by assumption) _|split))
 ·trivial
theorem vxh (h:rn) (h2:wn) (b e bytes:Nat) (mv:Bool) (x y:TV):Loc R W rn wn (appendM b e bytes mv x y):=by
 unfold appendM;have h1:Loc R W rn wn (appTo b e x):=by unfold appTo takeIn;(repeat' (first|exact vap _|exact vcd|exact vas _|(refine Loc.bind (vas _) (fun _=> ?_))|(refine Loc.bind (vbr (by assumption)) (fun _=> ?_))|(refine Loc.bind (vaw (by assumption) _) (fun _=> ?_))|exact vaw (by assumption) _|split))
 have h3:Loc R W rn wn (appOf e mv y):=by
  unfold appOf;split
  ·(repeat' (first|exact vap _|exact vcd|exact vas _|(refine Loc.bind (vas _) (fun _=> ?_))|(refine Loc.bind (vbr (by assumption)) (fun _=> ?_))|(refine Loc.bind (vaw (by assumption) _) (fun _=> ?_))|exact vaw (by assumption) _|split))
  ·refine (vks h _).bind fun _=> ?_
   (repeat' (first|exact vap _|exact vcd|exact vas _|(refine Loc.bind (vas _) (fun _=> ?_))|(refine Loc.bind (vbr (by assumption)) (fun _=> ?_))|(refine Loc.bind (vaw (by assumption) _) (fun _=> ?_))|exact vaw (by assumption) _|split))
 refine h1.bind fun _=>h3.bind fun _=> ?_
 (repeat' (first|exact vap _|exact vcd|exact vas _|(refine Loc.bind (vas _) (fun _=> ?_))|(refine Loc.bind (vbr (by assumption)) (fun _=> ?_))|(refine Loc.bind (vaw (by assumption) _) (fun _=> ?_))|exact vaw (by assumption) _|split))
mutual
theorem vor (h:rn) (z:Bool):∀(k n:Nat) (x:TV),Loc R W rn wn (vat z k n x)
 |0,n,x=>by unfold vat;trivial
 |k+1,n,x=>by
  unfold vat;split
  ·trivial
  ·trivial
  ·trivial
  ·exact (vg7 h z k _).bind fun _=>vap _
  ·exact (vg7 h z k _).bind fun _=>(vg7 h z k _).bind fun _=>vap _
  ·exact (vor h z k _ _).bind fun _=>vap _
  ·trivial
  ·refine (vbr h).bind fun _=> ?_;split
   ·split<;>trivial
   ·split
    ·trivial
    ·exact (vg7 h z k _).bind fun _=>vap _
   ·trivial
  ·(repeat' (first|exact vap _|exact vcd|exact vas _|(refine Loc.bind (vas _) (fun _=> ?_))|(refine Loc.bind (vbr (by assumption)) (fun _=> ?_))|(refine Loc.bind (vaw (by assumption) _) (fun _=> ?_))|exact vaw (by assumption) _|split))
  ·(repeat' (first|exact vap _|exact vcd|exact vas _|(refine Loc.bind (vas _) (fun _=> ?_))|(refine Loc.bind (vbr (by assumption)) (fun _=> ?_))|(refine Loc.bind (vaw (by assumption) _) (fun _=> ?_))|exact vaw (by assumption) _|split))
  ·split
   ·trivial
   ·refine (vbr h).bind fun _=> ?_;split
    ·split
     ·exact (vg7 h z k _).bind fun _=>vap _
     ·trivial
    ·trivial
  ·trivial
theorem vg7 (h:rn) (z:Bool):∀(k:Nat) (xs:List TV),Loc R W rn wn (va3 z k xs)
 |0,xs=>by unfold va3;trivial
 |k+1,[]=>by unfold va3;trivial
 |k+1,x::xs=>by
  unfold va3;exact (vor h z k 0 x).bind fun _=>(vg7 h z k xs).bind fun _=>vap _
end
mutual
theorem vte (h:rn) (h2:wn) (z:Bool):∀(k:Nat) (x:TV),Loc R W rn wn (pack z k x)
 |0,x=>by unfold pack;trivial
 |k+1,x=>by
  unfold pack;split
  ·trivial
  ·trivial
  ·split<;>trivial
  ·exact (vkm h h2 z k _).bind fun _=>vap _
  ·exact (vkm h h2 z k _).bind fun _=>(vkm h h2 z k _).bind fun _=>vap _
  ·exact (vte h h2 z k _).bind fun _=>vap _
  ·refine (vbr h).bind fun _=> ?_;split
   ·split
    ·trivial
    ·exact (vaw h2 _).bind fun _=>vap _
   ·split
    ·trivial
    ·exact (vaw h2 _).bind fun _=>(vkm h h2 z k _).bind fun _=>vap _
   ·trivial
  ·trivial
  ·refine (vbr h).bind fun _=> ?_;split
   ·split
    ·trivial
    ·exact (vaw h2 _).bind fun _=>vap _
   ·trivial
  ·trivial
theorem vkm (h:rn) (h2:wn) (z:Bool):∀(k:Nat) (xs:List TV),Loc R W rn wn (vbm z k xs)
 |0,xs=>by unfold vbm;trivial
 |k+1,[]=>by unfold vbm;trivial
 |k+1,x::xs=>by
  unfold vbm;exact (vte h h2 z k x).bind fun _=>(vkm h h2 z k xs).bind fun _=>vap _
end
mutual
theorem vtb (h2:wn) (q:Bool):∀(c:CV) (b:Nat),Loc R W rn wn (vai q b c)
 | .a _,b=>by unfold vai;trivial
 | .sl z e es,b=>by
  unfold vai;split
  ·trivial
  ·exact (vaw h2 _).bind fun _=>vap _
 | .bx z cs,b=>by unfold vai;exact (vex h2 q cs _).bind fun _=>(vaw h2 _).bind fun _=>vap _
 | .st cs,b=>by unfold vai;exact (vex h2 q cs _).bind fun _=>vap _
 | .tp cs,b=>by unfold vai;exact (vex h2 q cs _).bind fun _=>vap _
 | .fn f fs cs,b=>by unfold vai;exact (vex h2 q fs _).bind fun _=>(vex h2 q cs _).bind fun _=>vap _
 | .ic t c,b=>by unfold vai;exact (vtb h2 q c _).bind fun _=>vap _
 | .un,b=>by unfold vai;trivial
theorem vex (h2:wn) (q:Bool):∀(cs:List CV) (b:Nat),Loc R W rn wn (vav q b cs)
 | [],b=>by unfold vav;trivial
 |c::cs,b=>by unfold vav;exact (vtb h2 q c _).bind fun _=>(vex h2 q cs _).bind fun _=>vap _
end
mutual
theorem vnh (h:rn) (h2:wn) (q:Bool) (V:Nat):∀(x:TV) (c0 y:CV) (b:Nat),Loc R W rn wn (vad q V b x c0 y)
 | .rf id,c0,y,b=>by
  cases c0 with
  |sl z0 e0 es0=>
   cases y with
   |sl z e es=>
    cases z0<;>cases z<;>simp only [vad]
    ·(repeat' (first|exact vap _|exact vcd|exact vas _|(refine Loc.bind (vas _) (fun _=> ?_))|(refine Loc.bind (vbr (by assumption)) (fun _=> ?_))|(refine Loc.bind (vaw (by assumption) _) (fun _=> ?_))|exact vaw (by assumption) _|split))
    all_goals trivial
   |_=>simp only [vad];trivial
  |bx z0 cs0=>
   cases y with
   |bx z cs=>
    cases z0<;>cases z<;>simp only [vad]
    ·refine (vbr h).bind fun _=> ?_;split
     ·exact (vex h2 q cs _).bind fun _=>(vaw h2 _).bind fun _=>vap _
     ·trivial
    all_goals trivial
   |_=>simp only [vad];trivial
  |_=>simp only [vad];trivial
 | .fn f fs cs,c0,y,b=>by
  cases c0 with
  |fn f0 fs0 cs0=>
   cases y with
   |fn f1 fs1 cs1=>simp only [vad];exact (vi3 h h2 q V fs fs0 fs1 b).bind fun _=>vi3 h h2 q V cs cs0 cs1 _
   |_=>simp only [vad];trivial
  |_=>simp only [vad];trivial
 | .st cs,c0,y,b=>by
  cases c0 with
  |st cs0=>
   cases y with
   |st cs1=>simp only [vad];exact vi3 h h2 q V cs cs0 cs1 b
   |_=>simp only [vad];trivial
  |_=>simp only [vad];trivial
 | .ic t x,c0,y,b=>by
  cases c0 with
  |ic t0 x0=>
   cases y with
   |ic t1 x1=>simp only [vad];exact vnh h h2 q V x x0 x1 b
   |_=>simp only [vad];trivial
  |_=>simp only [vad];trivial
 | .a _,c0,y,b=>by simp only [vad];trivial
 | .nl _,c0,y,b=>by simp only [vad];trivial
 | .ri _ _ _,c0,y,b=>by simp only [vad];trivial
 | .sb _ _ _,c0,y,b=>by simp only [vad];trivial
 | .ad _ _,c0,y,b=>by simp only [vad];trivial
 | .ea _ _ _ _,c0,y,b=>by simp only [vad];trivial
 | .ei _ _ _ _ _ _,c0,y,b=>by simp only [vad];trivial
 | .sz _ _,c0,y,b=>by simp only [vad];trivial
 | .ez _ _,c0,y,b=>by simp only [vad];trivial
 | .tp _,c0,y,b=>by simp only [vad];trivial
 | .un,c0,y,b=>by simp only [vad];trivial
theorem vi3 (h:rn) (h2:wn) (q:Bool) (V:Nat):∀(xs:List TV) (cs0 ys:List CV) (b:Nat),Loc R W rn wn (vaz q V b xs cs0 ys)
 | [],cs0,ys,b=>by simp only [vaz];trivial
 |x::xs,[],ys,b=>by simp only [vaz];trivial
 |x::xs,c0::cs0,[],b=>by simp only [vaz];trivial
 |x::xs,c0::cs0,y::ys,b=>by simp only [vaz];exact (vnh h h2 q V x c0 y b).bind fun _=>vi3 h h2 q V xs cs0 ys _
end
theorem vqe (h:rn) (keeps:Bool):∀(ms:List Md) (xs:List TV) (ys:List CV),Loc R W rn wn (show_ keeps ms xs ys)
 | [],[],[]=>by unfold show_;trivial
 | .ro n::ms,x::xs,y::ys=>by unfold show_;exact (vor h keeps depth n x).bind fun _=>(vqe h keeps ms xs ys).bind fun _=>vap _
 | .mut _::ms,_::xs,y::ys=>by unfold show_;exact (vqe h keeps ms xs ys).bind fun _=>vap _
 | [],[],_::_=>by unfold show_;trivial
 | [],_::_,_=>by unfold show_;trivial
 | .ro _::_,[],_=>by unfold show_;trivial
 | .ro _::_,_::_,[]=>by unfold show_;trivial
 | .mut _::_,[],_=>by unfold show_;trivial
 | .mut _::_,_::_,[]=>by unfold show_;trivial
theorem vs5 (h:rn) (h2:wn) (keeps:Bool):∀(ms:List Md) (xs:List TV),Loc R W rn wn (lend keeps ms xs)
 | [],[]=>by unfold lend;trivial
 | .ro n::ms,x::xs=>by unfold lend;exact (vs5 h h2 keeps ms xs).bind fun _=>vap _
 | .mut n::ms,x::xs=>by
  have h0:Loc R W rn wn (lend0 keeps x):=by
   unfold lend0;split
   ·exact vap _
   ·exact vte h h2 keeps depth x
  unfold lend;exact h0.bind fun _=>(vs5 h h2 keeps ms xs).bind fun _=>vap _
 | [],_::_=>by unfold lend;trivial
 | .ro _::_,[]=>by unfold lend;trivial
 | .mut _::_,[]=>by unfold lend;trivial
theorem vqm (h:rn) (h2:wn) (keeps:Bool) (v:Nat):∀(ms:List Md) (xs:List TV) (ys:List CV),Loc R W rn wn (va4 keeps v ms xs ys)
 | [],[],[]=>by unfold va4;trivial
 | .ro n::ms,x::xs,y::ys=>by unfold va4;exact (vqm h h2 keeps v ms xs ys).bind fun _=>vap _
 | .mut n::ms,x::xs,y::ys=>by
  unfold va4;refine (?_:Loc R W rn wn (lend1 keeps v x y)).bind fun _=>(vqm h h2 keeps v ms xs ys).bind fun _=>vap _;unfold lend1;split
  ·refine (vbr h).bind fun _=> ?_;split
   ·split
    ·trivial
    ·split
     ·exact (vaw h2 _).bind fun _=>vap _
     ·trivial
   ·trivial
  ·exact vap _
 | [],[],_::_=>by unfold va4;trivial
 | [],_::_,_=>by unfold va4;trivial
 | .ro _::_,[],_=>by unfold va4;trivial
 | .ro _::_,_::_,[]=>by unfold va4;trivial
 | .mut _::_,[],_=>by unfold va4;trivial
 | .mut _::_,_::_,[]=>by unfold va4;trivial
theorem qdg (h:rn) (h2:wn) (q:Bool) (V b:Nat) (x:TV) (c f:CV):Loc R W rn wn (back1 q V b x c f):=by
 unfold back1;split
 ·split
  ·refine (vbr h).bind fun _=> ?_;split
   ·split
    ·exact (vaw h2 _).bind fun _=>vap _
    ·trivial
   ·trivial
  ·trivial
 ·exact vnh h h2 q V x c f b
theorem vlo (h:rn) (h2:wn) (q:Bool) (V:Nat):∀(ms:List Md) (xs:List TV) (cs fs:List CV) (b:Nat),Loc R W rn wn (vaf q V b ms xs cs fs)
 | [],[],[],[],b=>by simp only [vaf];trivial
 | .ro _::ms,x::xs,c::cs,fs,b=>by simp only [vaf];exact vlo h h2 q V ms xs cs fs b
 | .mut _::ms,x::xs,c::cs,f::fs,b=>by simp only [vaf];exact (qdg h h2 q V b x c f).bind fun _=>vlo h h2 q V ms xs cs fs _
 | [],_::_,_,_,b=>by simp only [vaf];trivial
 | [],[],_::_,_,b=>by simp only [vaf];trivial
 | [],[],[],_::_,b=>by simp only [vaf];trivial
 | .ro _::_,[],_,_,b=>by simp only [vaf];trivial
 | .ro _::_,_::_,[],_,b=>by simp only [vaf];trivial
 | .mut _::_,[],_,_,b=>by simp only [vaf];trivial
 | .mut _::_,_::_,[],_,b=>by simp only [vaf];trivial
 | .mut _::_,_::_,_::_,[],b=>by simp only [vaf];trivial
def Still (c:Callee):Prop:=(∀m∈c.modes,∃n,m= .ro n)∧c.scalar=true
theorem vr5 (keeps:Bool):∀(ms:List Md) (xs:List TV),(∀m∈ms,∃n,m= .ro n)→Loc R W rn wn (lend keeps ms xs)
 | [],[],_=>by unfold lend;trivial
 | [],_::_,_=>by unfold lend;trivial
 |m::ms,xs,h=>by
  obtain ⟨n,rfl⟩:=h m (by simp);cases xs with
  |nil=>unfold lend;trivial
  |cons x xs=>unfold lend;exact (vr5 keeps ms xs fun m hm=>h m (by simp [hm])).bind fun _=>vap _
theorem vqd (keeps:Bool) (v:Nat):∀(ms:List Md) (xs:List TV) (ys:List CV),(∀m∈ms,∃n,m= .ro n)→Loc R W rn wn (va4 keeps v ms xs ys)
 | [],[],[],_=>by unfold va4;trivial
 | [],[],_::_,_=>by unfold va4;trivial
 | [],_::_,_,_=>by unfold va4;trivial
 |m::ms,xs,ys,h=>by
  obtain ⟨n,rfl⟩:=h m (by simp);cases xs with
  |nil=>unfold va4;trivial
  |cons x xs=>
   cases ys with
   |nil=>unfold va4;trivial
   |cons y ys=>unfold va4;exact (vqd keeps v ms xs ys fun m hm=>h m (by simp [hm])).bind fun _=>vap _
theorem vmb (q:Bool) (V:Nat):∀(ms:List Md) (xs:List TV) (cs fs:List CV) (b:Nat),(∀m∈ms,∃n,m= .ro n)→Loc R W rn wn (vaf q V b ms xs cs fs)
 | [],[],[],[],b,_=>by simp only [vaf];trivial
 | [],_::_,_,_,b,_=>by simp only [vaf];trivial
 | [],[],_::_,_,b,_=>by simp only [vaf];trivial
 | [],[],[],_::_,b,_=>by simp only [vaf];trivial
 |m::ms,xs,cs,fs,b,h=>by
  obtain ⟨n,rfl⟩:=h m (by simp);cases xs with
  |nil=>simp only [vaf];trivial
  |cons x xs=>
   cases cs with
   |nil=>simp only [vaf];trivial
   |cons c cs=>simp only [vaf];exact vmb q V ms xs cs fs b fun m hm=>h m (by simp [hm])
theorem qcs (h:rn) (h2:wn) (c:Option Callee) (vs:List TV) (tv:TV):Loc R W rn wn (alsIn c vs tv):=by
 unfold alsIn;split
 ·split
  ·refine (vbr h).bind fun n=> ?_;split
   ·exact vaw h2 _
   ·trivial
  ·trivial
 ·trivial
theorem vnn (h:rn) (c:Option Callee) (hc:∀c',c=some c'→wn∨Still c') (b:Nat) (xs:List TV):Loc R W rn wn (callM c b xs):=by
 cases c with
 |none=>trivial
 |some c=>
  unfold callM;rcases hc c rfl with h2|⟨h2,h3⟩
  ·refine ((vs5 h h2 _ _ _).bind fun ps=>vqm h h2 _ _ _ _ _:Loc R W rn wn (lendA _ _ _ _)).bind fun ps=>(vqe h _ _ _ _).bind fun cs=> ?_;split
   ·trivial
   ·refine (vlo h h2 _ _ _ _ _ _ _).bind fun b'=> ?_;split
    ·split
     ·exact (vas _).bind fun _=>vap _
     ·trivial
    ·unfold vcc;refine (vex h2 _ _ _).bind fun r=> ?_;split<;>trivial
  ·refine ((vr5 _ _ _ h2).bind fun ps=>vqd _ _ _ _ _ h2:Loc R W rn wn (lendA _ _ _ _)).bind fun ps=>(vqe h _ _ _ _).bind fun cs=> ?_;split
   ·trivial
   ·refine (vmb _ _ _ _ _ _ _ h2).bind fun b'=> ?_;rw [if_pos h3];split
    ·exact (vas _).bind fun _=>vap _
    ·trivial
end
theorem qaz {R W:Nat→Prop} {rn wn:Prop} (h:rn) (h2:wn) (c:Option Callee) (vs:List TV) (tv:TV):Loc R W rn wn (alsIn2 c vs tv):=by
 unfold alsIn2;split
 ·exact qcs h h2 _ _ _
 ·trivial
theorem qca {R W:Nat→Prop} {rd wr:Prop} (hr:rd) (hw:wr) (e:Nat) (z:Value) (v:TV):Loc R W rd wr (clrAt e z v):=by
 unfold clrAt;split
 ·refine (vbr hr).bind fun n=> ?_;split
  ·split
   ·exact vaw hw _
   ·trivial
  ·trivial
 ·trivial
theorem qel {Φ : Nat → Option Callee} {writes : Nat → Bool} (hΦ : ∀ f c, Φ f = some c → writes f = false → Still c) (b : Nat) (op : VOp) {R W : Nat → Prop} (hR : ∀ t ∈ op.uses, R t) (hW : ∀ t, op.dst = some t → W t) :
    Loc R W (1 ≤ op.rank writes) (op.rank writes = 2) (exec Φ b op) := by
  have puts : ∀ {rn wn : Prop} (d : Option Nat) (v : TV), (∀ t, d = some t → W t) → Loc R W rn wn (putO d v) := by
    intro rn wn d v h;cases d with
    | none => trivial
    | some d => exact vbl (h d rfl) v
  cases op with
  | mov d x => exact (vbk hR).bind fun _ => vbl (hW d rfl) _
  | pick d c x y =>
    simp only [VOp.uses, Aa] at hR;simp only [exec];refine (vbk fun t ht => hR t (.inl (.inl ht))).bind fun u => ?_;split
    · split
      · exact (vbk fun t ht => hR t (.inl (.inr ht))).bind fun _ => vbl (hW d rfl) _
      · exact (vbk fun t ht => hR t (.inr ht)).bind fun _ => vbl (hW d rfl) _
    · trivial
  | alloc d zs =>
    simp only [exec];split
    · trivial
    · exact (vaw rfl _).bind fun _ => vbl (hW d rfl) _
  | box d x =>
    simp only [exec];refine (vbk hR).bind fun v => (vas _).bind fun cs => ?_;split
    · trivial
    · exact (vaw rfl _).bind fun _ => vbl (hW d rfl) _
  | build d zs ps => exact (vtl ps hR _).bind fun _ => vbl (hW d rfl) _
  | bsl d e m zs n ps => exact (qd5 (by simp [VOp.rank]) rfl _ _ _ _ hR _).bind fun _ => (vaw rfl _).bind fun _ => vbl (hW d rfl) _
  | load d w x => exact (vbk hR).bind fun v => (vtr (by simp [VOp.rank]) _ _).bind fun _ => vbl (hW d rfl) _
  | lda d x =>
    refine (vbk hR).bind fun v => (vtr (by simp [VOp.rank]) _ _).bind fun u => ?_;unfold atomS;split
    · exact vbl (hW d rfl) _
    · trivial
  | store w x y =>
    simp only [VOp.uses, Aa] at hR;exact (vbk fun t ht => hR t (.inl ht)).bind fun _ => (vbk fun t ht => hR t (.inr ht)).bind fun _ => (vt7 (by simp [VOp.rank]) rfl _ _ _).bind fun _ => vyd (by simp [VOp.rank]) rfl _ _ _ _
  | nilck d x =>
    have hrn : 1 ≤ (VOp.nilck d x).rank writes := by simp [VOp.rank]
    have hd := hW d rfl;simp only [exec];refine (vbk hR).bind fun v => ?_;split <;> first
      | exact vbl hd _
      | trivial
      | (refine (vbr hrn).bind fun _ => ?_
         split <;> first | exact vbl hd _ | trivial)
  | bin d op x y =>
    simp only [VOp.uses, Aa] at hR;simp only [exec];refine (vbk fun t ht => hR t (.inl ht)).bind fun _ => (vbk fun t ht => hR t (.inr ht)).bind fun _ => ?_;split
    · exact (vas _).bind fun _ => vbl (hW d rfl) _
    · trivial
  | beq d ne n x y =>
    simp only [VOp.uses, Aa] at hR;simp only [exec];refine (vbk fun t ht => hR t (.inl ht)).bind fun _ => (vbk fun t ht => hR t (.inr ht)).bind fun _ => ?_;split
    · exact vbl (hW d rfl) _
    · exact (vas _).bind fun _ => vbl (hW d rfl) _
    · trivial
  | un d op x =>
    simp only [exec];refine (vbk hR).bind fun _ => ?_;split
    · exact (vas _).bind fun _ => vbl (hW d rfl) _
    · trivial
  | cvi d k x =>
    simp only [exec];refine (vbk hR).bind fun _ => ?_;split
    · exact vbl (hW d rfl) _
    · trivial
  | cvs d x =>
    simp only [exec];refine (vbk hR).bind fun _ => ?_;split
    · exact vbl (hW d rfl) _
    · trivial
  | s2b d e x =>
    simp only [exec];refine (vbk hR).bind fun _ => ?_;split
    · split
      · exact (vaw rfl _).bind fun _ => vbl (hW d rfl) _
      · trivial
    · trivial
  | fl d => trivial
  | b2s d e x =>
    simp only [exec];refine (vbk hR).bind fun _ => (vks (by simp [VOp.rank]) _).bind fun _ => ?_;split
    · exact (vas _).bind fun _ => vbl (hW d rfl) _
    · trivial
  | mkf d f fs cs =>
    simp only [VOp.uses, Aa] at hR;exact (vis fun t ht => hR t (.inl ht)).bind fun _ => (vis fun t ht => hR t (.inr ht)).bind fun _ => vbl (hW d rfl) _
  | mki d t x => exact (vbk hR).bind fun _ => vbl (hW d rfl) _
  | mks d e bytes zs x =>
    simp only [exec];refine (vbk hR).bind fun _ => ?_;split
    · split
      · exact (vaw rfl _).bind fun _ => vbl (hW d rfl) _
      · trivial
    · trivial
  | slc0 d e x =>
    simp only [exec];refine (vbk hR).bind fun _ => (vks (by simp [VOp.rank]) _).bind fun _ => ?_;split
    · exact (vaw rfl _).bind fun _ => vbl (hW d rfl) _
    · trivial
  | slc d e x lo hi =>
    simp only [VOp.uses, Aa] at hR;exact (vbk fun t ht => hR t (.inl (.inl ht))).bind fun _ => (vnr fun t ht => hR t (.inl (.inr ht))).bind fun _ => (vnr fun t ht => hR t (.inr ht)).bind fun _ => (vzv (by simp [VOp.rank]) _ _ _ _).bind fun _ => vbl (hW d rfl) _
  | sslc d x lo hi =>
    simp only [VOp.uses, Aa] at hR;exact (vbk fun t ht => hR t (.inl (.inl ht))).bind fun _ => (vnr fun t ht => hR t (.inl (.inr ht))).bind fun _ => (vnr fun t ht => hR t (.inr ht)).bind fun _ => (qcv _ _ _).bind fun _ => vbl (hW d rfl) _
  | fad d x off => exact (vbk hR).bind fun v => (vyj (by simp [VOp.rank]) _ _).bind fun _ => vbl (hW d rfl) _
  | fld d x off w =>
    simp only [exec];refine (vbk hR).bind fun _ => ?_;split
    · exact (vas _).bind fun _ => vbl (hW d rfl) _
    · trivial
  | iad d e m x i =>
    simp only [VOp.uses, Aa] at hR;simp only [exec];refine (vbk fun t ht => hR t (.inl ht)).bind fun _ => (vbk fun t ht => hR t (.inr ht)).bind fun _ => ?_;split
    · exact (vzk (by simp [VOp.rank]) _ _ _ _).bind fun _ => vbl (hW d rfl) _
    · trivial
  | ix d x i =>
    simp only [VOp.uses, Aa] at hR;simp only [exec];refine (vbk fun t ht => hR t (.inl ht)).bind fun _ => (vbk fun t ht => hR t (.inr ht)).bind fun _ => ?_;split
    · exact (vas _).bind fun _ => vbl (hW d rfl) _
    · trivial
  | len d x => exact (vbk hR).bind fun v => (vks (by simp [VOp.rank]) _).bind fun _ => vbl (hW d rfl) _
  | slen d x =>
    simp only [exec];refine (vbk hR).bind fun _ => ?_;split
    · exact vbl (hW d rfl) _
    · trivial
  | mmx d isMax xs =>
    simp only [exec];refine (vis hR).bind fun _ => ?_;split
    · exact (vas _).bind fun _ => vbl (hW d rfl) _
    · trivial
  | app d e bytes mv x y =>
    simp only [VOp.uses, Aa] at hR;exact (vbk fun t ht => hR t (.inl ht)).bind fun _ => (vbk fun t ht => hR t (.inr ht)).bind fun _ => (vxh (by simp [VOp.rank]) rfl _ _ _ _ _ _).bind fun _ => vbl (hW d rfl) _
  | ext d x i =>
    simp only [exec];refine (vbk hR).bind fun _ => ?_;split
    · exact (vas _).bind fun _ => vbl (hW d rfl) _
    · trivial
  | call d f xs =>
    refine (vis hR).bind fun vs => (vnn (by simp only [VOp.rank]; split <;> omega) _ (fun c hc => ?_) _ _).bind fun _ => puts _ _ hW;simp only [VOp.rank];by_cases hw : writes f = true
    · rw [if_pos hw]; exact .inl rfl
    · exact .inr (hΦ f c hc (by simpa using hw))
  | cala d f xs =>
    exact (vis hR).bind fun vs => (vnn (by simp [VOp.rank]) _ (fun c hc => .inl rfl) _ _).bind fun tv => (qaz (by simp [VOp.rank]) rfl _ _ _).bind fun _ => puts _ _ hW
  | calv d f xs =>
    simp only [VOp.uses, Aa] at hR;simp only [exec];refine (vbk fun t ht => hR t (.inl ht)).bind fun g => ?_;split
    · exact (vis fun t ht => hR t (.inr ht)).bind fun vs => (vnn (by simp [VOp.rank]) _ (fun c hc => .inl rfl) _ _).bind fun _ => puts _ _ hW
    · trivial
  | cali d t f x xs =>
    simp only [VOp.uses, Aa] at hR;simp only [exec];refine (vbk fun t ht => hR t (.inl ht)).bind fun g => ?_;split
    · split
      · exact (vis fun t ht => hR t (.inr ht)).bind fun vs => (vnn (by simp [VOp.rank]) _ (fun c hc => .inl rfl) _ _).bind fun _ => puts _ _ hW
      · trivial
    · trivial
  | clr e z x =>
    simp only [exec];exact (vbk hR).bind fun v => qca (by simp [VOp.rank]) rfl _ _ _
def VOper.reads (o:VOper):List Nat:=(o.guard.map (·.1)).toList++o.op.uses
theorem vu5 {Φ:Nat→Option Callee} {writes:Nat→Bool} (hΦ:∀f c,Φ f=some c→writes f=false→Still c) (b:Nat) (o:VOper) (hd:o.guard=none∨o.op.dst=o.dst):
  Loc (fun t=>t∈o.reads) (fun t=>o.op.dst=some t) (1≤o.op.rank writes) (o.op.rank writes=2) (execG Φ b o):=by
 have hx:=qel hΦ b o.op (R:=fun t=>t∈o.reads) (W:=fun t=>o.op.dst=some t) (fun t ht=>by unfold VOper.reads;exact Aa.2 (.inr ht)) fun t ht=>ht;have puts:∀(v:TV),o.op.dst=o.dst→Loc (fun t=>t∈o.reads) (fun t=>o.op.dst=some t) (1≤o.op.rank writes) (o.op.rank writes=2) (putO o.dst v):=by
  intro v e;rw [←e];cases hdd:o.op.dst with
  |none=>trivial
  |some d=>exact ⟨rfl,trivial⟩
 unfold execG;split
 ·exact hx
 ·rename_i t want hg;have hd':o.op.dst=o.dst:=hd.resolve_left (by rw [hg];simp);refine (vxx (by unfold VOper.reads;rw [hg];simp)).bind fun u=> ?_;split
  ·split
   ·exact hx
   ·exact puts _ hd'
  ·exact puts _ hd'
  ·trivial
end Go.Proofs.YtpnnhokaehghfaaDoor.VM
namespace Go.Proofs.YtpnnhokaehghfaaDoor.VM
open Go
theorem vha {α β:Type} (x:M α) {f:α→M β} {s:St}:(x.bind f).run s=(match x.run s with|some (a,s')=>(f a).run s'|none=>none):=by
 induction x generalizing s with
 |pure x=>rfl
 |fail=>rfl
 |getS t k ih=>exact ih _
 |setS t v k ih=>exact ih
 |getN id k ih=>exact ih _
 |setN id n k ih=>exact ih
def RdK {α:Type} (R U:Nat→Prop) (post:α→Prop):M α→Prop
 | .pure x=>post x
 | .fail=>True
 | .getS t k=>R t∧∀v,idsIn U v→RdK R U post (k v)
 | .getN id k=>U id∧∀n,(∀m,n=some m→m.idsIn U)→RdK R U post (k n)
 | .setS _ _ _=>False
 | .setN _ _ _=>False
def WrK {α:Type} (W B:Nat→Prop):M α→Prop
 | .pure _=>True
 | .fail=>True
 | .getS _ _=>False
 | .getN _ _=>False
 | .setS t _ k=>W t∧WrK W B k
 | .setN id _ k=>B id∧WrK W B k
abbrev any {α:Type}:α→Prop:=fun _=>True
section
variable {R W U B:Nat→Prop}
theorem RdK.bind {α β:Type} {post:α→Prop} {post':β→Prop} {m:M α} {k:α→M β} (h:RdK R U post m) (hk:∀x,post x→RdK R U post' (k x)):RdK R U post' (m.bind k):=by
 induction m with
 |pure x=>exact hk x h
 |fail=>exact trivial
 |getS t k' ih=>exact ⟨h.1,fun v hv=>ih v (h.2 v hv)⟩
 |getN id k' ih=>exact ⟨h.1,fun n hn=>ih n (h.2 n hn)⟩
 |setS t v k' ih=>exact h.elim
 |setN id n k' ih=>exact h.elim
theorem RdK.bindA {α β:Type} {post:α→Prop} {m:M α} {k:α→M β} (h:RdK R U post m) (hk:∀x,post x→RdK R U any (k x)):RdK R U any (m.bind k):=h.bind hk
theorem RdK.mono {α:Type} {post post':α→Prop} {m:M α} (h:RdK R U post m) (hp:∀x,post x→post' x):RdK R U post' m:=by
 induction m with
 |pure x=>exact hp x h
 |fail=>exact trivial
 |getS t k' ih=>exact ⟨h.1,fun v hv=>ih v (h.2 v hv)⟩
 |getN id k' ih=>exact ⟨h.1,fun n hn=>ih n (h.2 n hn)⟩
 |setS t v k' ih=>exact h.elim
 |setN id n k' ih=>exact h.elim
theorem WrK.bind {α β:Type} {m:M α} {k:α→M β} (h:WrK W B m) (hk:∀x,WrK W B (k x)):WrK W B (m.bind k):=by
 induction m with
 |pure x=>exact hk x
 |fail=>exact trivial
 |getS t k' ih=>exact h.elim
 |getN id k' ih=>exact h.elim
 |setS t v k' ih=>exact ⟨h.1,ih h.2⟩
 |setN id n k' ih=>exact ⟨h.1,ih h.2⟩
structure Clean (R U:Nat→Prop) (st:St):Prop where
 slots:∀t,R t→idsIn U (st.slot t)
 nodes:∀id n,U id→st.node id=some n→n.idsIn U
theorem vrh {α:Type} {post:α→Prop} {st:St} (hc:Clean R U st):∀{m:M α},RdK R U post m→∀{r:α} {s:St},m.run st=some (r,s)→s=st∧post r∧
  ∀st':St,(∀t,R t→st'.slot t=st.slot t)→(∀id,U id→st'.node id=st.node id)→m.run st'=some (r,st')
 | .pure x,h,r,s,hr=>by
  cases run_pure hr;exact ⟨rfl,h,fun _ _ _=>rfl⟩
 | .fail,_,r,s,hr=>(vab hr).elim
 | .getS t k,h,r,s,hr=>by
  obtain ⟨h1,h2,h3⟩:=vrh hc (h.2 _ (hc.slots t h.1)) hr;refine ⟨h1,h2,fun st' ha hb=> ?_⟩;simp only [M.run];rw [ha t h.1];exact h3 st' ha hb
 | .getN id k,h,r,s,hr=>by
  obtain ⟨h1,h2,h3⟩:=vrh hc (h.2 (st.node id) fun m hm=>hc.nodes id m h.1 hm) hr;refine ⟨h1,h2,fun st' ha hb=> ?_⟩;simp only [M.run];rw [hb id h.1];exact h3 st' ha hb
 | .setS _ _ _,h,_,_,_=>h.elim
 | .setN _ _ _,h,_,_,_=>h.elim
theorem vrb {α:Type}:∀{m:M α},WrK W B m→∀{st:St} {r:α} {s:St},m.run st=some (r,s)→∃ds dn,s=⟨ds++st.slots,dn++st.nodes,st.next⟩∧(∀x∈ds,W x.1)∧(∀x∈dn,B x.1)∧
  ∀st':St,m.run st'=some (r,⟨ds++st'.slots,dn++st'.nodes,st'.next⟩)
 | .pure x,_,st,r,s,hr=>by
  cases run_pure hr;exact ⟨[],[],rfl,by simp,by simp,fun _=>rfl⟩
 | .fail,_,st,r,s,hr=>(vab hr).elim
 | .getS _ _,h,_,_,_,_=>h.elim
 | .getN _ _,h,_,_,_,_=>h.elim
 | .setS t v k,h,st,r,s,hr=>by
  obtain ⟨ds,dn,e,h1,h2,h3⟩:=vrb h.2 hr;refine ⟨ds++ [(t,v)],dn,by simpa using e,fun x hx=> ?_,h2,fun st'=> ?_⟩
  ·rcases Aa.1 hx with hx|hx
   ·exact h1 x hx
   ·simp only [Ab] at hx;subst hx;exact h.1
  ·have:=h3 {st' with slots:=(t,v)::st'.slots};simpa [M.run] using this
 | .setN id n k,h,st,r,s,hr=>by
  obtain ⟨ds,dn,e,h1,h2,h3⟩:=vrb h.2 hr;refine ⟨ds,dn++ [(id,n)],by simpa using e,h1,fun x hx=> ?_,fun st'=> ?_⟩
  ·rcases Aa.1 hx with hx|hx
   ·exact h2 x hx
   ·simp only [Ab] at hx;subst hx;exact h.1
  ·have:=h3 {st' with nodes:=(id,n)::st'.nodes};simpa [M.run] using this
def FootK {α:Type} (R W U B:Nat→Prop) (m:M α):Prop:=∀st,Clean R U st→∀{r:α} {s:St},m.run st=some (r,s)→∃ds dn,s=⟨ds++st.slots,dn++st.nodes,st.next⟩∧(∀x∈ds,W x.1)∧(∀x∈dn,B x.1)∧
  ∀st':St,(∀t,R t→st'.slot t=st.slot t)→(∀id,U id→st'.node id=st.node id)→m.run st'=some (r,⟨ds++st'.slots,dn++st'.nodes,st'.next⟩)
theorem WrK.foot {α:Type} {m:M α} (h:WrK W B m):FootK R W U B m:=by
 intro st _ r s hr;obtain ⟨ds,dn,h1,h2,h3,h4⟩:=vrb h hr;exact ⟨ds,dn,h1,h2,h3,fun st' _ _=>h4 st'⟩
theorem RdK.foot {α β:Type} {post:α→Prop} {m:M α} {k:α→M β} (h:RdK R U post m) (hk:∀x,post x→FootK R W U B (k x)):FootK R W U B (m.bind k):=by
 intro st hc r s hr;obtain ⟨x,s1,h1,h2⟩:=vaa hr;obtain ⟨rfl,hp,h3⟩:=vrh hc h h1;obtain ⟨ds,dn,k1,k2,k3,k4⟩:=hk x hp _ hc h2;refine ⟨ds,dn,k1,k2,k3,fun st' ha hb=> ?_⟩;rw [vha,h3 st' ha hb];exact k4 st' ha hb
theorem vcq {α:Type}:FootK R W U B (M.fail:M α):=WrK.foot trivial
theorem vx4 {α β:Type} {R1 W1 B1 R2 W2 B2:Nat→Prop} {m1:M α} {m2:M β} (h1:FootK R1 W1 U B1 m1) (h2:FootK R2 W2 U B2 m2) (hs1:∀t,W1 t→¬R2 t∧¬W2 t) (hs2:∀t,W2 t→¬R1 t)
  (hb1:∀i,B1 i→¬U i) (hb2:∀i,B2 i→¬U i) (hbb:∀i,B1 i→¬B2 i) {st s1 s2:St} (hc1:Clean R1 U st) (hc2:Clean R2 U st) {x:α} {y:β} (hr1:m1.run st=some (x,s1)) (hr2:m2.run s1=some (y,s2)):
  ∃s1' s2',m2.run st=some (y,s1')∧m1.run s1'=some (x,s2')∧Same s2' s2:=by
 obtain ⟨ds1,dn1,rfl,w1,n1,k1⟩:=h1 st hc1 hr1;have no1:∀t,R2 t→look ds1 t=none:=fun t ht=>vbo fun z hz e=>(hs1 z.1 (w1 z hz)).1 (e▸ht);have nn1:∀i,U i→look dn1 i=none:=fun i hi=>vbo fun z hz e=>hb1 z.1 (n1 z hz) (e▸hi);have es:∀t,R2 t→({slots:=ds1++st.slots,nodes:=dn1++st.nodes,next:=st.next}:St).slot t=st.slot t:=fun t ht=>by rw [vh5,no1 t ht];simp [St.slot]
 have en:∀i,U i→({slots:=ds1++st.slots,nodes:=dn1++st.nodes,next:=st.next}:St).node i=st.node i:=fun i hi=>by rw [via,nn1 i hi];simp [St.node]
 obtain ⟨ds2,dn2,rfl,w2,n2,k2⟩:=h2 _ ⟨fun t ht=>by rw [es t ht];exact hc2.slots t ht,fun i n hi hn=>hc2.nodes i n hi (by rw [←en i hi];exact hn)⟩ hr2;have no2:∀t,R1 t→look ds2 t=none:=fun t ht=>vbo fun z hz e=>hs2 z.1 (w2 z hz) (e▸ht);have nn2:∀i,U i→look dn2 i=none:=fun i hi=>vbo fun z hz e=>hb2 z.1 (n2 z hz) (e▸hi);have e1:m2.run st=some (y,⟨ds2++st.slots,dn2++st.nodes,st.next⟩):=k2 st (fun t ht=>(es t ht).symm) fun i hi=>(en i hi).symm;have e2:=k1 ⟨ds2++st.slots,dn2++st.nodes,st.next⟩ (fun t ht=>by rw [vh5,no2 t ht];simp [St.slot]) (fun i hi=>by rw [via,nn2 i hi];simp [St.node]);refine ⟨_,_,e1,e2,fun t=> ?_,fun i=> ?_⟩
 ·simp only [St.slot,vca];by_cases hw:W1 t
  ·have:look ds2 t=none:=vbo fun z hz e=>(hs1 t hw).2 (e▸w2 z hz);rw [this];simp
  ·have:look ds1 t=none:=vbo fun z hz e=>hw (e▸w1 z hz);rw [this];simp
 ·simp only [St.node,vca];by_cases hw:B1 i
  ·have:look dn2 i=none:=vbo fun z hz e=>hbb i hw (e▸n2 z hz);rw [this];simp
  ·have:look dn1 i=none:=vbo fun z hz e=>hw (e▸n1 z hz);rw [this];simp
theorem vi7 {α:Type} (o:Option α):RdK R U any (liftO o):=by cases o<;>trivial
theorem vfu {id:Nat} (h:U id):RdK R U (fun n=>∀m,n=some m→m.idsIn U) (getN id):=⟨h,fun _ hn=>hn⟩
theorem vfd {x:Opd} (h:∀t∈x.used,R t):RdK R U (idsIn U) (opd x):=by
 cases x with
 |t n=>exact ⟨h n (by simp [Opd.used]),fun v hv=>hv⟩
 |c v=>trivial
 |nl e=>trivial
 |f g=>exact ⟨trivial,trivial⟩
theorem vzj:∀{xs:List Opd},(∀t∈xs.flatMap (·.used),R t)→RdK R U (vag U) (opds xs)
 | [],_=>trivial
 |x::xs,h=>(vfd fun t ht=>h t (by simp [ht])).bind fun v hv=>(vzj fun t ht=>h t (by
   simp only [Ac,Aa];exact .inr ht)).bind fun vs hvs=>⟨hv,hvs⟩
theorem vve {y:Option Opd} (h:∀t∈(y.map (·.used)).getD [],R t):RdK R U any (bound y):=by
 cases y with
 |none=>trivial
 |some y=>
  refine (vfd h).bind fun u _=> ?_;split<;>trivial
theorem vq0 {v : TV} (h : idsIn U v) : RdK R U any (elems v) := by
  cases v <;> first
    | trivial
    | (refine (vfu (by first | exact h | exact h.1)).bind fun n _ => ?_
       repeat' split
       all_goals trivial)
theorem vt3 {w : Option Nat} {v : TV} (h : idsIn U v) : RdK R U any (loadAt w v) := by
  cases v <;> first
    | trivial
    | exact vi7 _
    | (refine (vfu (by first | exact h | exact h.1)).bind fun n _ => ?_
       repeat' split
       all_goals first | trivial | exact vi7 _)
theorem vyy {o : Nat} {v : TV} (h : idsIn U v) : RdK R U any (fieldAt o v) := by
  cases v <;> first
    | trivial
    | (refine (vfu (by first | exact h | exact h.1)).bind fun n _ => ?_
       repeat' split
       all_goals trivial)
theorem vxn {e:Nat} {v:TV} {lo hi:Option Int} (h:idsIn U v):RdK R U any (sliceAt e v lo hi):=by
 unfold sliceAt;split
 ·split<;>trivial
 ·split<;>trivial
 ·refine (vfu h).bindA fun n _=> ?_
  repeat' split
  all_goals trivial
 ·refine (vfu h).bindA fun n _=> ?_
  repeat' split
  all_goals trivial
 ·trivial
theorem vxl {e m:Nat} {v:TV} {i:Int} (h:idsIn U v):RdK R U any (indexAt e m v i):=by
 unfold indexAt;refine (vq0 h).bind fun r _=> ?_
 repeat' split
 all_goals trivial
mutual
theorem vop (z:Bool):∀(k n:Nat) {x:TV},idsIn U x→RdK R U any (vat z k n x)
 |0,n,x,_=>by unfold vat;trivial
 |k+1,n,x,h=>by
  unfold vat;split
  ·trivial
  ·trivial
  ·trivial
  ·exact RdK.bindA (vg8 z k h) fun _ _=>(trivial:RdK R U any (M.pure _))
  ·exact (vg8 z k h.1).bindA fun _ _=>RdK.bindA (vg8 z k h.2) fun _ _=>(trivial:RdK R U any (M.pure _))
  ·exact RdK.bindA (vop z k _ h) fun _ _=>(trivial:RdK R U any (M.pure _))
  ·trivial
  ·refine (vfu h).bindA fun n hn=> ?_;split
   ·split<;>trivial
   ·split
    ·trivial
    ·exact RdK.bindA (vg8 z k (hn _ rfl)) fun _ _=>(trivial:RdK R U any (M.pure _))
   ·trivial
  ·split
   ·trivial
   ·refine (vfu h).bindA fun n hn=> ?_
    repeat' split
    all_goals trivial
  ·split
   ·trivial
   ·refine (vfu h.1).bindA fun n hn=> ?_
    repeat' split
    all_goals trivial
  ·split
   ·trivial
   ·refine (vfu h).bindA fun n hn=> ?_;split
    ·split
     ·refine RdK.bind (post:=any) (vg8 z k ?_) fun _ _=>(trivial:RdK R U any (M.pure _))
      have:=hn _ rfl;exact vbu fun c hc=>vbj this c (List.mem_of_mem_drop (List.mem_of_mem_take hc))
     ·trivial
    ·trivial
  ·trivial
theorem vg8 (z:Bool):∀(k:Nat) {xs:List TV},vag U xs→RdK R U any (va3 z k xs)
 |0,xs,_=>by unfold va3;trivial
 |k+1,[],_=>by unfold va3;trivial
 |k+1,x::xs,h=>by
  unfold va3;exact (vop z k 0 h.1).bindA fun _ _=>RdK.bindA (vg8 z k h.2) fun _ _=>(trivial:RdK R U any (M.pure _))
end
theorem vtn (keeps:Bool):∀(ms:List Md) {xs:List TV} (ys:List CV),vag U xs→RdK R U any (show_ keeps ms xs ys)
 | [],[],[],_=>by unfold show_;trivial
 | .ro n::ms,x::xs,y::ys,h=>by unfold show_;exact (vop keeps depth n h.1).bindA fun _ _=>RdK.bindA (vtn keeps ms ys h.2) fun _ _=>(trivial:RdK R U any (M.pure _))
 | .mut _::ms,_::xs,y::ys,h=>by unfold show_;exact (vtn keeps ms ys h.2).bindA fun _ _=>(trivial:RdK R U any (M.pure _))
 | [],[],_::_,_=>by unfold show_;trivial
 | [],_::_,_,_=>by unfold show_;trivial
 | .ro _::_,[],_,_=>by unfold show_;trivial
 | .ro _::_,_::_,[],_=>by unfold show_;trivial
 | .mut _::_,[],_,_=>by unfold show_;trivial
 | .mut _::_,_::_,[],_=>by unfold show_;trivial
def AllRo (ms:List Md):Prop:=∀m∈ms,∃n,m= .ro n
theorem vxw (keeps:Bool):∀(ms:List Md) (xs:List TV),AllRo ms→RdK R U any (lend keeps ms xs)
 | [],[],_=>by unfold lend;trivial
 | [],_::_,_=>by unfold lend;trivial
 |m::ms,xs,h=>by
  obtain ⟨n,rfl⟩:=h m (by simp);cases xs with
  |nil=>unfold lend;trivial
  |cons x xs=>unfold lend;exact (vxw keeps ms xs fun m hm=>h m (by simp [hm])).bind fun _ _=>trivial
theorem vvz (keeps:Bool) (v:Nat):∀(ms:List Md) (xs:List TV) (ys:List CV),AllRo ms→RdK R U any (va4 keeps v ms xs ys)
 | [],[],[],_=>by unfold va4;trivial
 | [],[],_::_,_=>by unfold va4;trivial
 | [],_::_,_,_=>by unfold va4;trivial
 |m::ms,xs,ys,h=>by
  obtain ⟨n,rfl⟩:=h m (by simp);cases xs with
  |nil=>unfold va4;trivial
  |cons x xs=>
   cases ys with
   |nil=>unfold va4;trivial
   |cons y ys=>unfold va4;exact (vvz keeps v ms xs ys fun m hm=>h m (by simp [hm])).bind fun _ _=>trivial
theorem vp4 (q:Bool) (V:Nat):∀(ms:List Md) (xs:List TV) (cs fs:List CV) (b:Nat),AllRo ms→RdK R U (fun b'=>b'=b) (vaf q V b ms xs cs fs)
 | [],[],[],[],b,_=>by simp only [vaf];exact rfl
 | [],_::_,_,_,b,_=>by simp only [vaf];trivial
 | [],[],_::_,_,b,_=>by simp only [vaf];trivial
 | [],[],[],_::_,b,_=>by simp only [vaf];trivial
 |m::ms,xs,cs,fs,b,h=>by
  obtain ⟨n,rfl⟩:=h m (by simp);cases xs with
  |nil=>simp only [vaf];trivial
  |cons x xs=>
   cases cs with
   |nil=>simp only [vaf];trivial
   |cons c cs=>simp only [vaf];exact vp4 q V ms xs cs fs b fun m hm=>h m (by simp [hm])
def Grows (b:Nat) {α:Type} (m:M (α×Nat)):Prop:=∀(st:St) (r:α×Nat) (s:St),m.run st=some (r,s)→b≤r.2∧∃dn,s=⟨st.slots,dn++st.nodes,st.next⟩∧(∀y∈dn,b≤y.1∧y.1<r.2)∧
  ∀st':St,m.run st'=some (r,⟨st'.slots,dn++st'.nodes,st'.next⟩)
theorem vhn {α:Type} (x:α) (b:Nat):Grows b (M.pure (x,b)):=by
 intro st r s hr;cases run_pure hr;exact ⟨Nat.le_refl _,[],rfl,by simp,fun _=>rfl⟩
theorem vli {α β:Type} {m:M (α×Nat)} {k:α×Nat→M (β×Nat)} {b:Nat} (h:Grows b m) (hk:∀x:α×Nat,b≤x.2→Grows x.2 (k x)):Grows b (m.bind k):=by
 intro st r s hr;obtain ⟨x,s1,h1,h2⟩:=vaa hr;obtain ⟨g1,dn,rfl,g3,g4⟩:=h _ _ _ h1;obtain ⟨k1,dn',rfl,k3,k4⟩:=hk x g1 _ _ _ h2;refine ⟨Nat.le_trans g1 k1,dn'++dn,by simp,fun y hy=> ?_,fun st'=> ?_⟩
 ·rcases Aa.1 hy with hy|hy
  ·have:=k3 y hy;omega
  ·have:=g3 y hy;omega
 ·rw [vha,g4 st'];have:=k4 ⟨st'.slots,dn++st'.nodes,st'.next⟩;simpa using this
theorem vit {α β:Type} {m:M (α×Nat)} {f:α→β} {b:Nat} (h:Grows b m):Grows b (m.bind fun r=> .pure (f r.1,r.2)):=
 vli h fun x _=>vhn _ _
mutual
theorem vo3 (q:Bool):∀(c:CV) (b:Nat),Grows b (vai q b c)
 | .a v,b=>by unfold vai;exact vhn _ _
 | .sl z e es,b=>by
  unfold vai;split
  ·exact vhn _ _
  ·intro st r s hr;obtain ⟨u,s1,h1,h2⟩:=vaa hr;cases va8 h1;cases run_pure h2;exact ⟨Nat.le_succ _,[(b,some (.sl q 0 e es))],rfl,fun y hy=>by simp only [Ab] at hy;subst hy;exact ⟨Nat.le_refl _,Nat.lt_succ_self _⟩,fun _=>rfl⟩
 | .bx z cs,b=>by
  unfold vai;intro st r s hr;obtain ⟨x,s1,h1,h2⟩:=vaa hr;obtain ⟨g1,dn,rfl,g3,g4⟩:=vew q cs (b+1) _ _ _ h1;obtain ⟨u,s2,h3,h4⟩:=vaa h2;cases va8 h3;cases run_pure h4;dsimp only;refine ⟨by omega,(b,some (.bx z x.1))::dn,rfl,fun y hy=> ?_,fun st'=> ?_⟩
  ·rcases List.mem_cons.1 hy with rfl|hy
   ·dsimp only;omega
   ·have:=g3 y hy;omega
  ·rw [vha,g4 st'];rfl
 | .st cs,b=>by unfold vai;exact vit (vew q cs b)
 | .tp cs,b=>by unfold vai;exact vit (vew q cs b)
 | .fn f fs cs,b=>by
  unfold vai;exact vli (vew q fs b) fun p _=>vit (f:=fun r=>TV.fn f p.1 r) (vew q cs p.2)
 | .ic t v,b=>by unfold vai;exact vit (vo3 q v b)
 | .un,b=>by unfold vai;exact vhn _ _
theorem vew (q:Bool):∀(cs:List CV) (b:Nat),Grows b (vav q b cs)
 | [],b=>by unfold vav;exact vhn _ _
 |c::cs,b=>by
  unfold vav;exact vli (vo3 q c b) fun r _=>vit (f:=fun p=>r.1::p) (vew q cs r.2)
end
def ownR (b:Nat):Nat→Prop:=fun i=>b≤i∧i<b+100
theorem vuz {q:Bool} {b:Nat} {rs:List CV} {d:Option Nat} (hW:∀t,d=some t→W t):FootK R W U (ownR b) ((vcc q (b+99) b rs).bind (putO d)):=by
 intro st hc r s hr;obtain ⟨v,s1,h1,h2⟩:=vaa hr;unfold vcc at h1;obtain ⟨x,s2,h3,h4⟩:=vaa h1;obtain ⟨g1,dn,rfl,g3,g4⟩:=vew q rs b _ _ _ h3;split at h4
 ·rename_i hle;cases run_pure h4;have hput:∃ds,(∀y∈ds,W y.1)∧∀st':St,(putO d (oneOf x.1)).run st'=some ((),⟨ds++st'.slots,st'.nodes,st'.next⟩):=by
   cases d with
   |none=>exact ⟨[],by simp,fun _=>rfl⟩
   |some t=>exact ⟨[(t,oneOf x.1)],fun y hy=>by simp only [Ab] at hy;subst hy;exact hW t rfl,fun _=>rfl⟩
  obtain ⟨ds,e1,e2⟩:=hput;rw [e2] at h2;cases h2;refine ⟨ds,dn,rfl,e1,fun y hy=> ?_,fun st' _ _=> ?_⟩
  ·have:=g3 y hy;exact ⟨this.1,by omega⟩
  ·rw [vha];unfold vcc;rw [vha,g4 st'];simp only [if_pos hle];exact e2 _
 ·exact (vab h4).elim
theorem vs8 {d:Option Nat} (hW:∀t,d=some t→W t) (v:TV):WrK W B (putO d v):=by
 cases d with
 |none=>trivial
 |some t=>exact ⟨hW t rfl,trivial⟩
theorem vy1 {c:Callee} (hc:AllRo c.modes) {b:Nat} {xs:List TV} (hx:vag U xs) {d:Option Nat} (hW:∀t,d=some t→W t):FootK R W U (ownR b) ((callM (some c) b xs).bind (putO d)):=by
 have assoc:∀{α β γ:Type} (m:M α) (f:α→M β) (g:β→M γ),(m.bind f).bind g=m.bind fun x=>(f x).bind g:=by
  intro α β γ m f g;induction m with
  |pure x=>rfl
  |fail=>rfl
  |getS t k ih=>exact congrArg (M.getS t) (funext ih)
  |setS t v k ih=>exact congrArg (M.setS t v) ih
  |getN id k ih=>exact congrArg (M.getN id) (funext ih)
  |setN id n k ih=>exact congrArg (M.setN id n) ih
 unfold callM lendA;rw [assoc,assoc];refine (vxw _ _ _ hc).foot fun ps _=> ?_;refine (vvz _ _ _ _ _ hc).foot fun ps _=> ?_;rw [assoc];refine (vtn _ _ _ hx).foot fun cs _=> ?_;split
 ·exact vcq
 ·rw [assoc];refine (vp4 _ _ _ _ _ _ _ hc).foot fun b' hb=> ?_;subst hb;split
  ·rw [if_pos zo,assoc];exact (vi7 _).foot fun ts _=>WrK.foot (vs8 hW _)
  ·exact vuz hW
end
theorem vzh {Φ:Nat→Option Callee} {writes:Nat→Bool} (hΦ:∀f c,Φ f=some c→writes (f+1000000)=false→AllRo c.modes) {R W U:Nat→Prop} (b:Nat) (op:VOp) (ho:op.own writes=true) (hR:∀t∈op.uses,R t) (hW:∀t,op.dst=some t→W t):
  FootK R W U (ownR b) (exec Φ b op):=by
 have wS:∀{d:Nat} {v:TV},W d→FootK R W U (ownR b) (setS d v):=fun h=>WrK.foot ⟨h,trivial⟩;have own:ownR b b:=⟨Nat.le_refl _,by omega⟩
 have wN:∀{d:Nat} {v:TV} {n:Option Node},W d→FootK R W U (ownR b) ((setN b n).bind fun _=>setS d v):=fun h=>WrK.foot ⟨own,h,trivial⟩;cases op with
 |load d w x=>exact (vfd hR).foot fun v hv=>(vt3 hv).foot fun _ _=>wS (hW d rfl)
 |lda d x=>
  refine (vfd hR).foot fun v hv=>(vt3 hv).foot fun u _=> ?_;unfold atomS;split
  ·exact wS (hW d rfl)
  ·exact WrK.foot trivial
 |slc d e x lo hi=>
  simp only [VOp.uses,Aa] at hR;exact (vfd fun t ht=>hR t (.inl (.inl ht))).foot fun v hv=>(vve fun t ht=>hR t (.inl (.inr ht))).foot fun _ _=>(vve fun t ht=>hR t (.inr ht)).foot fun _ _=>(vxn hv).foot fun _ _=>wS (hW d rfl)
 |iad d e m x i=>
  simp only [VOp.uses,Aa] at hR;refine (vfd fun t ht=>hR t (.inl ht)).foot fun v hv=>(vfd fun t ht=>hR t (.inr ht)).foot fun u _=> ?_;split
  ·exact (vxl hv).foot fun _ _=>wS (hW d rfl)
  ·exact vcq
 |len d x=>exact (vfd hR).foot fun v hv=>(vq0 hv).foot fun _ _=>wS (hW d rfl)
 |fad d x off=>exact (vfd hR).foot fun v hv=>(vyy hv).foot fun _ _=>wS (hW d rfl)
 |nilck d x=>
  refine (vfd hR).foot fun v hv=> ?_;split
  ·refine (vfu hv).foot fun n _=> ?_;split
   ·exact wS (hW d rfl)
   ·exact vcq
  ·exact wS (hW d rfl)
  ·refine (vfu hv).foot fun n _=> ?_;split
   ·exact wS (hW d rfl)
   ·exact vcq
  ·exact wS (hW d rfl)
  ·exact wS (hW d rfl)
  ·exact wS (hW d rfl)
  ·exact vcq
 |alloc d zs=>
  simp only [exec];split
  ·exact vcq
  ·exact wN (hW d rfl)
 |box d x=>
  refine (vfd hR).foot fun v hv=>(vi7 _).foot fun cs _=> ?_;split
  ·exact vcq
  ·exact wN (hW d rfl)
 |s2b d e x=>
  refine (vfd hR).foot fun v hv=> ?_;split
  ·split
   ·exact wN (hW d rfl)
   ·exact vcq
  ·exact vcq
 |mks d e bytes zs x=>
  refine (vfd hR).foot fun v hv=> ?_;split
  ·split
   ·exact wN (hW d rfl)
   ·exact vcq
  ·exact vcq
 |slc0 d e x=>
  refine (vfd hR).foot fun v hv=>(vq0 hv).foot fun _ _=> ?_;split
  ·exact wN (hW d rfl)
  ·exact vcq
 |bsl d e m zs n ps=>
  simp only [VOp.own] at ho;have key:∀(ps:List (Nat×Opd)) (q:Bool) (es:List PV),(∀t∈ps.flatMap (·.2.used),R t)→RdK R U any (bslM true m ps q es):=by
   intro ps;induction ps with
   |nil=>intro q es _;trivial
   |cons p ps ih=>
    obtain ⟨i,x⟩:=p;intro q es hR;unfold bslM;refine (vfd fun t ht=>hR t (by simp [ht])).bind fun v _=> ?_;refine RdK.bind (post:=any) ?_ fun y _=> ?_
    ·unfold toEl;split
     ·exact (vi7 _).bind fun _ _=>trivial
     ·exact (vi7 _).bind fun _ _=>trivial
    ·split
     ·exact ih _ _ fun t ht=>hR t (by simp only [Ac,Aa];exact .inr ht)
     ·trivial
  simp only [exec,ho,bslQ];exact (key ps false _ fun t ht=>hR t (by simpa [VOp.uses] using ht)).foot fun es _=>wN (hW d rfl)
 |call d f xs=>
  simp only [VOp.own,Bool.not_eq_true'] at ho;refine (vzj hR).foot fun vs hvs=> ?_;cases hc:Φ f with
  |none=>exact vcq
  |some c=>exact vy1 (hΦ f c hc ho) hvs hW
 |_=>cases ho
theorem vp8 {Φ:Nat→Option Callee} {writes:Nat→Bool} (hΦ:∀f c,Φ f=some c→writes (f+1000000)=false→AllRo c.modes) {U:Nat→Prop} (b:Nat) (o:VOper) (ho:o.op.own writes=true) (hd:o.guard=none∨o.op.dst=o.dst):
  FootK (fun t=>t∈o.reads) (fun t=>o.op.dst=some t) U (ownR b) (execG Φ b o):=by
 have hx:=vzh hΦ (R:=fun t=>t∈o.reads) (W:=fun t=>o.op.dst=some t) (U:=U) b o.op ho (fun t ht=>by unfold VOper.reads;exact Aa.2 (.inr ht)) fun t ht=>ht;unfold execG;split
 ·exact hx
 ·rename_i t want hg;have hd':o.op.dst=o.dst:=hd.resolve_left (by rw [hg];simp);have puts:∀(v:TV),FootK (fun t=>t∈o.reads) (fun t=>o.op.dst=some t) U (ownR b) (putO o.dst v):=fun v=>WrK.foot (vs8 (fun t ht=>by rw [hd'];exact ht) v);refine RdK.foot (post:=any) ⟨by unfold VOper.reads;rw [hg];simp,fun v _=>trivial⟩ fun u _=> ?_;split
  ·split
   ·exact hx
   ·exact puts _
  ·exact puts _
  ·exact vcq
