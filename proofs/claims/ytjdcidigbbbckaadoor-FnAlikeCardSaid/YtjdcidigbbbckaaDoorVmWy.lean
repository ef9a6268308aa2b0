/- The interpreter 'VM': what an operation of a region reads and kz, and that such ones commute. The interpreter 'VM': operations that write nodes of their own alone commute with one another. -/
import Derived.Test.YtjdcidigbbbckaaDoorVmTu
namespace Go.Proofs.YtjdcidigbbbckaaDoor.VM
open Go
def Loc {α:Type} (R W:Nat→Prop) (rn wn:Prop):M α→Prop
 | .pure _=>True
 | .fail=>True
 | .getS t k=>R t∧ ∀v,Loc R W rn wn (k v)
 | .setS t _ k=>W t∧Loc R W rn wn k
 | .getN _ k=>rn∧ ∀n,Loc R W rn wn (k n)
 | .setN _ _ k=>wn∧Loc R W rn wn k
theorem Loc.bind {α β:Type} {R W:Nat→Prop} {rn wn:Prop} {m:M α} (h:Loc R W rn wn m) {k:α→M β} (hk: ∀x,Loc R W rn wn (k x)):Loc R W rn wn (m.bind k):=by
 induction m with
 |pure x=>exact hk x
 |fail=>exact trivial
 |getS t k' ih=>exact ⟨h.1,fun v=>ih v (h.2 v)⟩
 |setS t v k' ih=>exact ⟨h.1,ih h.2⟩
 |getN id k' ih=>exact ⟨h.1,fun v=>ih v (h.2 v)⟩
 |setN id n k' ih=>exact ⟨h.1,ih h.2⟩
theorem Loc.mono {α:Type} {R W R' W':Nat→Prop} {rn wn rn' wn':Prop} (hR: ∀t,R t→R' t) (hW: ∀t,W t→W' t) (hr:rn→rn') (hw:wn→wn'): ∀{m:M α},Loc R W rn wn m→Loc R' W' rn' wn' m
 | .pure _,_=>trivial
 | .fail,_=>trivial
 | .getS _ _,h=>⟨hR _ h.1,fun v=>Loc.mono hR hW hr hw (h.2 v)⟩
 | .setS _ _ _,h=>⟨hW _ h.1,Loc.mono hR hW hr hw h.2⟩
 | .getN _ _,h=>⟨hr h.1,fun v=>Loc.mono hR hW hr hw (h.2 v)⟩
 | .setN _ _ _,h=>⟨hw h.1,Loc.mono hR hW hr hw h.2⟩
theorem ejb {α:Type}: ∀(l r:List (Nat×α)) (k:Nat),look (l++r) k=(look l k).or (look r k)
 | [],r,k=>by simp [look]
 |(j,v)::l,r,k=>by
  simp only [List.cons_append,look]
  split
  ·rfl
  ·exact ejb l r k
theorem rx {α:Type}: ∀{l:List (Nat×α)} {k:Nat},(∀x∈l,x.1≠k)→look l k=none
 | [],_,_=>rfl
 |(j,v)::l,k,h=>by
  simp only [look]
  rw [if_neg (h (j,v) (by simp))]
  exact rx fun x hx=>h x (by simp [hx])
structure Same (s s':St):Prop where
 slot: ∀t,s.slot t=s'.slot t
 node: ∀id,s.node id=s'.node id
theorem aje {α:Type} {R W:Nat→Prop} {rn wn:Prop}: ∀{m:M α},Loc R W rn wn m→ ∀{st:St} {r:α} {s:St},m.run st=some (r,s)→
 ∃ds dn,s=⟨ds++st.slots,dn++st.nodes,st.next⟩∧(∀x∈ds,W x.1)∧(¬wn→dn= [])∧
  ∀st':St,(∀t,R t→st'.slot t=st.slot t)→(rn→ ∀id,st'.node id=st.node id)→m.run st'=some (r,⟨ds++st'.slots,dn++st'.nodes,st'.next⟩)
 | .pure x,_,st,r,s,h=>by
   cases run_pure h
   exact ⟨[],[],rfl,by simp,fun _=>rfl,fun st' _ _=>rfl⟩
 | .fail,_,st,r,s,h=>(cz h).elim
 | .getS t k,hl,st,r,s,h=>by
   obtain ⟨ds,dn,e,h1,h2,h3⟩:=aje (hl.2 (st.slot t)) h
   refine ⟨ds,dn,e,h1,h2,fun st' ha hb=> ?_⟩
   simp only [M.run]
   rw [ha t hl.1]
   exact h3 st' ha hb
 | .setS t v k,hl,st,r,s,h=>by
   obtain ⟨ds,dn,e,h1,h2,h3⟩:=aje hl.2 h
   refine ⟨ds++ [(t,v)],dn,by simpa using e,fun x hx=> ?_,h2,fun st' ha hb=> ?_⟩
   ·rcases List.mem_append.1 hx with hx|hx
    ·exact h1 x hx
    ·simp only [List.mem_singleton] at hx;subst hx;exact hl.1
   ·have:=h3 {st' with slots:=(t,v)::st'.slots} (fun t' ht=>by rw [dkc,dkc,ha t' ht]) hb
    simpa [M.run] using this
 | .getN id k,hl,st,r,s,h=>by
   obtain ⟨ds,dn,e,h1,h2,h3⟩:=aje (hl.2 (st.node id)) h
   refine ⟨ds,dn,e,h1,h2,fun st' ha hb=> ?_⟩
   simp only [M.run]
   rw [hb hl.1 id]
   exact h3 st' ha hb
 | .setN id n k,hl,st,r,s,h=>by
   obtain ⟨ds,dn,e,h1,h2,h3⟩:=aje hl.2 h
   refine ⟨ds,dn++ [(id,n)],by simpa using e,h1,fun hw=>absurd hl.1 hw,fun st' ha hb=> ?_⟩
   have:=h3 {st' with nodes:=(id,n)::st'.nodes} ha (fun hr id'=>by rw [kkb,kkb,hb hr id'])
   simpa [M.run] using this
theorem cqd {ds:List (Nat×TV)} {st:St} {dn:List (Nat×Option Node)} {t:Nat}:({slots:=ds++st.slots,nodes:=dn++st.nodes,next:=st.next}:St).slot t=((look ds t).or (look st.slots t)).getD .un:=by
 simp [St.slot,ejb]
theorem iqd {ds:List (Nat×TV)} {st:St} {dn:List (Nat×Option Node)} {id:Nat}:({slots:=ds++st.slots,nodes:=dn++st.nodes,next:=st.next}:St).node id=((look dn id).or (look st.nodes id)).getD none:=by
 simp [St.node,ejb]
theorem zxi {α β:Type} {R1 W1 R2 W2:Nat→Prop} {rn1 wn1 rn2 wn2:Prop} {m1:M α} {m2:M β} (h1:Loc R1 W1 rn1 wn1 m1) (h2:Loc R2 W2 rn2 wn2 m2) (hs1: ∀t,W1 t→ ¬R2 t∧ ¬W2 t) (hs2: ∀t,W2 t→ ¬R1 t)
 (hn1:wn1→ ¬rn2∧ ¬wn2) (hn2:wn2→ ¬rn1) {st s1 s2:St} {x:α} {y:β} (hr1:m1.run st=some (x,s1)) (hr2:m2.run s1=some (y,s2)):
 ∃s1' s2',m2.run st=some (y,s1')∧m1.run s1'=some (x,s2')∧Same s2' s2:=by
 obtain ⟨ds1,dn1,rfl,w1,n1,k1⟩:=aje h1 hr1
 obtain ⟨ds2,dn2,rfl,w2,n2,k2⟩:=aje h2 hr2
 have no1: ∀t,R2 t→look ds1 t=none:=fun t ht=>rx fun z hz e=>(hs1 z.1 (w1 z hz)).1 (e▸ht)
 have no2: ∀t,R1 t→look ds2 t=none:=fun t ht=>rx fun z hz e=>hs2 z.1 (w2 z hz) (e▸ht)
 have e1:m2.run st=some (y,⟨ds2++st.slots,dn2++st.nodes,st.next⟩):=by
  refine k2 st (fun t ht=> ?_) fun hr id=> ?_
  ·rw [cqd,no1 t ht];simp [St.slot]
  ·have:dn1= []:=n1 fun hw=>(hn1 hw).1 hr
   subst this
   rw [iqd];simp [look,St.node]
 have e2:=k1 ⟨ds2++st.slots,dn2++st.nodes,st.next⟩ (fun t ht=>by rw [cqd,no2 t ht];simp [St.slot]) (fun hr id=>by
  have:dn2= []:=n2 fun hw=>hn2 hw hr
  subst this
  rw [iqd];simp [look,St.node])
 refine ⟨_,_,e1,e2,fun t=> ?_,fun id=> ?_⟩
 ·simp only [St.slot,ejb]
  by_cases hw:W1 t
  ·have:look ds2 t=none:=rx fun z hz e=>(hs1 t hw).2 (e▸w2 z hz)
   rw [this];simp
  ·have:look ds1 t=none:=rx fun z hz e=>hw (e▸w1 z hz)
   rw [this];simp
 ·simp only [St.node,ejb]
  by_cases hw:wn1
  ·have:dn2= []:=n2 (hn1 hw).2
   subst this
   simp [look]
  ·have:=n1 hw
   subst this
   simp [look]
section
variable {R W:Nat→Prop} {rn wn:Prop}
theorem kq {α:Type} (x:α):Loc R W rn wn (M.pure x):=trivial
theorem bqc {α:Type}:Loc R W rn wn (M.fail:M α):=trivial
theorem sjj {t:Nat} (h:R t):Loc R W rn wn (getS t):=⟨h,fun _=>trivial⟩
theorem vzb {t:Nat} (h:W t) (v:TV):Loc R W rn wn (setS t v):=⟨h,trivial⟩
theorem lxb {id:Nat} (h:rn):Loc R W rn wn (getN id):=⟨h,fun _=>trivial⟩
theorem ax {id:Nat} (h:wn) (n:Option Node):Loc R W rn wn (setN id n):=⟨h,trivial⟩
theorem zj {α:Type} (x:Option α):Loc R W rn wn (liftO x):=by cases x<;>trivial
theorem kxb {x:Opd} (h: ∀t∈x.used,R t):Loc R W rn wn (opd x):=by
 cases x with
 |t n=>exact sjj (h n (by simp [Opd.used]))
 |_=>trivial
theorem qjf: ∀{xs:List Opd} (_: ∀t∈xs.flatMap Opd.used,R t),Loc R W rn wn (opds xs)
 | [],_=>trivial
 |x::xs,h=>(kxb fun t ht=>h t (by simp [ht])).bind fun _=>(qjf fun t ht=>h t (by
   simp only [List.flatMap_cons,List.mem_append];exact .inr ht)).bind fun _=>kq _
theorem kxf {x:Option Opd} (h: ∀t∈(x.map Opd.used).getD [],R t):Loc R W rn wn (sxd x):=by
 cases x with
 |none=>trivial
 |some y=>
  refine (kxb h).bind fun u=> ?_
  split<;>trivial
theorem eki (h:rn) (w:Option Nat) (v:TV):Loc R W rn wn (loadAt w v):=by unfold loadAt;(repeat' (first|exact kq _|exact bqc|exact zj _|(refine Loc.bind (zj _) (fun _=> ?_))|(refine Loc.bind (lxb (by assumption)) (fun _=> ?_))|(refine Loc.bind (ax (by assumption) _) (fun _=> ?_))|exact ax (by assumption) _|split))
theorem mke (h:rn) (v:TV):Loc R W rn wn (oxb v):=by unfold oxb;(repeat' (first|exact kq _|exact bqc|exact zj _|(refine Loc.bind (zj _) (fun _=> ?_))|(refine Loc.bind (lxb (by assumption)) (fun _=> ?_))|(refine Loc.bind (ax (by assumption) _) (fun _=> ?_))|exact ax (by assumption) _|split))
theorem hzi (h:rn) (e:Nat) (v:TV) (lo hi:Option Int):Loc R W rn wn (sliceAt e v lo hi):=by unfold sliceAt;(repeat' (first|exact kq _|exact bqc|exact zj _|(refine Loc.bind (zj _) (fun _=> ?_))|(refine Loc.bind (lxb (by assumption)) (fun _=> ?_))|(refine Loc.bind (ax (by assumption) _) (fun _=> ?_))|exact ax (by assumption) _|split))
theorem hkj (v:TV) (lo hi:Option Int):Loc R W rn wn (kzf v lo hi):=by unfold kzf;(repeat' (first|exact kq _|exact bqc|exact zj _|(refine Loc.bind (zj _) (fun _=> ?_))|(refine Loc.bind (lxb (by assumption)) (fun _=> ?_))|(refine Loc.bind (ax (by assumption) _) (fun _=> ?_))|exact ax (by assumption) _|split))
theorem lzi (h:rn) (o:Nat) (v:TV):Loc R W rn wn (fieldAt o v):=by unfold fieldAt;(repeat' (first|exact kq _|exact bqc|exact zj _|(refine Loc.bind (zj _) (fun _=> ?_))|(refine Loc.bind (lxb (by assumption)) (fun _=> ?_))|(refine Loc.bind (ax (by assumption) _) (fun _=> ?_))|exact ax (by assumption) _|split))
theorem kzi (h:rn) (e m:Nat) (v:TV) (i:Int):Loc R W rn wn (indexAt e m v i):=by
 unfold indexAt
 refine (mke h _).bind fun _=> ?_
 (repeat' (first|exact kq _|exact bqc|exact zj _|(refine Loc.bind (zj _) (fun _=> ?_))|(refine Loc.bind (lxb (by assumption)) (fun _=> ?_))|(refine Loc.bind (ax (by assumption) _) (fun _=> ?_))|exact ax (by assumption) _|split))
theorem rjj (h:rn) (h2:wn) (x:TV):Loc R W rn wn (toPV x):=by unfold toPV;(repeat' (first|exact kq _|exact bqc|exact zj _|(refine Loc.bind (zj _) (fun _=> ?_))|(refine Loc.bind (lxb (by assumption)) (fun _=> ?_))|(refine Loc.bind (ax (by assumption) _) (fun _=> ?_))|exact ax (by assumption) _|split))
theorem jqg (h:rn) (h2:wn): ∀(xs:List TV),Loc R W rn wn (pzd xs)
 | []=>trivial
 |x::xs=>(rjj h h2 x).bind fun _=>(jqg h h2 xs).bind fun _=>kq _
theorem njl (h:rn) (h2:wn) (fl:Bool) (x:TV):Loc R W rn wn (toEl fl x):=by
 unfold toEl
 split
 ·split
  ·exact (zj _).bind fun _=>kq _
  ·exact (jqg h h2 _).bind fun _=>kq _
 ·split
  ·exact (zj _).bind fun _=>kq _
  ·exact rjj h h2 _
theorem tjj (h:rn) (h2:wn) (fl:Bool) (m:Nat): ∀(ps:List (Nat×Opd)) (_: ∀t∈ps.flatMap (·.2.used),R t) (q:Bool) (es:List PV),Loc R W rn wn (bslM fl m ps q es)
 | [],_,q,es=>trivial
 |(i,x)::ps,hR,q,es=>by
  unfold bslM
  refine (kxb fun t ht=>hR t (by simp [ht])).bind fun v=>(njl h h2 fl v).bind fun y=> ?_
  split
  ·exact tjj h h2 fl m ps (fun t ht=>hR t (by simp only [List.flatMap_cons,List.mem_append];exact .inr ht)) _ _
  ·trivial
theorem lkg: ∀(ps:List (Nat×Nat×Opd)) (_: ∀t∈ps.flatMap (·.2.2.used),R t) (cs:List TV),Loc R W rn wn (okc ps cs)
 | [],_,cs=>trivial
 |(o,w,x)::ps,hR,cs=>by
  unfold okc
  refine (kxb fun t ht=>hR t (by simp [ht])).bind fun v=> ?_
  split
  ·exact lkg ps (fun t ht=>hR t (by simp only [List.flatMap_cons,List.mem_append];exact .inr ht)) _
  ·trivial
theorem gzi (h:rn) (h2:wn) (b w:Nat) (x y:TV):Loc R W rn wn (storeAt b w x y):=by
 unfold storeAt
 split
 ·unfold jjc;(repeat' (first|exact kq _|exact bqc|exact zj _|(refine Loc.bind (zj _) (fun _=> ?_))|(refine Loc.bind (lxb (by assumption)) (fun _=> ?_))|(refine Loc.bind (ax (by assumption) _) (fun _=> ?_))|exact ax (by assumption) _|split))
 ·unfold jjc;(repeat' (first|exact kq _|exact bqc|exact zj _|(refine Loc.bind (zj _) (fun _=> ?_))|(refine Loc.bind (lxb (by assumption)) (fun _=> ?_))|(refine Loc.bind (ax (by assumption) _) (fun _=> ?_))|exact ax (by assumption) _|split))
 ·refine (jqg h h2 _).bind fun _=> ?_
  (repeat' (first|exact kq _|exact bqc|exact zj _|(refine Loc.bind (zj _) (fun _=> ?_))|(refine Loc.bind (lxb (by assumption)) (fun _=> ?_))|(refine Loc.bind (ax (by assumption) _) (fun _=> ?_))|exact ax (by assumption) _|split))
 ·unfold gxd;(repeat' (first|exact kq _|exact bqc|exact zj _|(refine Loc.bind (zj _) (fun _=> ?_))|(refine Loc.bind (lxb (by assumption)) (fun _=> ?_))|(refine Loc.bind (ax (by assumption) _) (fun _=> ?_))|exact ax (by assumption) _|split))
 ·trivial
theorem ozi (h:rn) (h2:wn) (b e bytes:Nat) (mv:Bool) (x y:TV):Loc R W rn wn (zqc b e bytes mv x y):=by
 unfold zqc
 have h1:Loc R W rn wn (uqd b e x):=by unfold uqd xxd;(repeat' (first|exact kq _|exact bqc|exact zj _|(refine Loc.bind (zj _) (fun _=> ?_))|(refine Loc.bind (lxb (by assumption)) (fun _=> ?_))|(refine Loc.bind (ax (by assumption) _) (fun _=> ?_))|exact ax (by assumption) _|split))
 have h3:Loc R W rn wn (ckc e mv y):=by
  unfold ckc
  split
  ·(repeat' (first|exact kq _|exact bqc|exact zj _|(refine Loc.bind (zj _) (fun _=> ?_))|(refine Loc.bind (lxb (by assumption)) (fun _=> ?_))|(refine Loc.bind (ax (by assumption) _) (fun _=> ?_))|exact ax (by assumption) _|split))
  ·refine (mke h _).bind fun _=> ?_
   (repeat' (first|exact kq _|exact bqc|exact zj _|(refine Loc.bind (zj _) (fun _=> ?_))|(refine Loc.bind (lxb (by assumption)) (fun _=> ?_))|(refine Loc.bind (ax (by assumption) _) (fun _=> ?_))|exact ax (by assumption) _|split))
 refine h1.bind fun _=>h3.bind fun _=> ?_
 (repeat' (first|exact kq _|exact bqc|exact zj _|(refine Loc.bind (zj _) (fun _=> ?_))|(refine Loc.bind (lxb (by assumption)) (fun _=> ?_))|(refine Loc.bind (ax (by assumption) _) (fun _=> ?_))|exact ax (by assumption) _|split))
mutual
theorem jxf (h:rn) (z:Bool): ∀(k n:Nat) (x:TV),Loc R W rn wn (dq z k n x)
 |0,n,x=>by unfold dq;trivial
 |k+1,n,x=>by
  unfold dq
  split
  ·trivial
  ·trivial
  ·trivial
  ·exact (ezd h z k _).bind fun _=>kq _
  ·exact (ezd h z k _).bind fun _=>(ezd h z k _).bind fun _=>kq _
  ·exact (jxf h z k _ _).bind fun _=>kq _
  ·trivial
  ·split
   ·trivial
   ·refine (lxb h).bind fun _=> ?_
    split
    ·trivial
    ·exact (ezd h z k _).bind fun _=>kq _
    ·trivial
  ·(repeat' (first|exact kq _|exact bqc|exact zj _|(refine Loc.bind (zj _) (fun _=> ?_))|(refine Loc.bind (lxb (by assumption)) (fun _=> ?_))|(refine Loc.bind (ax (by assumption) _) (fun _=> ?_))|exact ax (by assumption) _|split))
  ·(repeat' (first|exact kq _|exact bqc|exact zj _|(refine Loc.bind (zj _) (fun _=> ?_))|(refine Loc.bind (lxb (by assumption)) (fun _=> ?_))|(refine Loc.bind (ax (by assumption) _) (fun _=> ?_))|exact ax (by assumption) _|split))
  ·split
   ·trivial
   ·refine (lxb h).bind fun _=> ?_
    split
    ·split
     ·exact (ezd h z k _).bind fun _=>kq _
     ·trivial
    ·trivial
  ·trivial
theorem ezd (h:rn) (z:Bool): ∀(k:Nat) (xs:List TV),Loc R W rn wn (gq z k xs)
 |0,xs=>by unfold gq;trivial
 |k+1,[]=>by unfold gq;trivial
 |k+1,x::xs=>by
  unfold gq
  exact (jxf h z k 0 x).bind fun _=>(ezd h z k xs).bind fun _=>kq _
end
mutual
theorem izi (h:rn) (h2:wn) (z:Bool): ∀(k:Nat) (x:TV),Loc R W rn wn (pack z k x)
 |0,x=>by unfold pack;trivial
 |k+1,x=>by
  unfold pack
  split
  ·trivial
  ·trivial
  ·split<;>trivial
  ·exact (lke h h2 z k _).bind fun _=>kq _
  ·exact (lke h h2 z k _).bind fun _=>(lke h h2 z k _).bind fun _=>kq _
  ·exact (izi h h2 z k _).bind fun _=>kq _
  ·refine (lxb h).bind fun _=> ?_
   split
   ·split
    ·trivial
    ·exact (ax h2 _).bind fun _=>kq _
   ·split
    ·trivial
    ·exact (ax h2 _).bind fun _=>(lke h h2 z k _).bind fun _=>kq _
   ·trivial
  ·trivial
  ·trivial
theorem lke (h:rn) (h2:wn) (z:Bool): ∀(k:Nat) (xs:List TV),Loc R W rn wn (wjb z k xs)
 |0,xs=>by unfold wjb;trivial
 |k+1,[]=>by unfold wjb;trivial
 |k+1,x::xs=>by
  unfold wjb
  exact (izi h h2 z k x).bind fun _=>(lke h h2 z k xs).bind fun _=>kq _
end
mutual
theorem jkg (h2:wn) (q:Bool): ∀(c:CV) (b:Nat),Loc R W rn wn (xz q b c)
 | .a _,b=>by unfold xz;trivial
 | .sl z e es,b=>by
   unfold xz
   split
   ·trivial
   ·exact (ax h2 _).bind fun _=>kq _
 | .bx z cs,b=>by unfold xz;exact (pqc h2 q cs _).bind fun _=>(ax h2 _).bind fun _=>kq _
 | .st cs,b=>by unfold xz;exact (pqc h2 q cs _).bind fun _=>kq _
 | .tp cs,b=>by unfold xz;exact (pqc h2 q cs _).bind fun _=>kq _
 | .fn f fs cs,b=>by unfold xz;exact (pqc h2 q fs _).bind fun _=>(pqc h2 q cs _).bind fun _=>kq _
 | .ic t c,b=>by unfold xz;exact (jkg h2 q c _).bind fun _=>kq _
 | .un,b=>by unfold xz;trivial
theorem pqc (h2:wn) (q:Bool): ∀(cs:List CV) (b:Nat),Loc R W rn wn (yj q b cs)
 | [],b=>by unfold yj;trivial
 |c::cs,b=>by unfold yj;exact (jkg h2 q c _).bind fun _=>(pqc h2 q cs _).bind fun _=>kq _
end
mutual
theorem kke (h:rn) (h2:wn) (q:Bool) (V:Nat): ∀(x:TV) (c0 y:CV) (b:Nat),Loc R W rn wn (dz q V b x c0 y)
 | .rf id,c0,y,b=>by
   cases c0 with
   |sl z0 e0 es0=>
    cases y with
    |sl z e es=>
     cases z0<;>cases z<;>simp only [dz]
     ·(repeat' (first|exact kq _|exact bqc|exact zj _|(refine Loc.bind (zj _) (fun _=> ?_))|(refine Loc.bind (lxb (by assumption)) (fun _=> ?_))|(refine Loc.bind (ax (by assumption) _) (fun _=> ?_))|exact ax (by assumption) _|split))
     all_goals trivial
    |_=>simp only [dz];trivial
   |bx z0 cs0=>
    cases y with
    |bx z cs=>
     cases z0<;>cases z<;>simp only [dz]
     ·refine (lxb h).bind fun _=> ?_
      split
      ·exact (pqc h2 q cs _).bind fun _=>(ax h2 _).bind fun _=>kq _
      ·trivial
     all_goals trivial
    |_=>simp only [dz];trivial
   |_=>simp only [dz];trivial
 | .fn f fs cs,c0,y,b=>by
   cases c0 with
   |fn f0 fs0 cs0=>
    cases y with
    |fn f1 fs1 cs1=>simp only [dz];exact (oqd h h2 q V fs fs0 fs1 b).bind fun _=>oqd h h2 q V cs cs0 cs1 _
    |_=>simp only [dz];trivial
   |_=>simp only [dz];trivial
 | .st cs,c0,y,b=>by
   cases c0 with
   |st cs0=>
    cases y with
    |st cs1=>simp only [dz];exact oqd h h2 q V cs cs0 cs1 b
    |_=>simp only [dz];trivial
   |_=>simp only [dz];trivial
 | .ic t x,c0,y,b=>by
   cases c0 with
   |ic t0 x0=>
    cases y with
    |ic t1 x1=>simp only [dz];exact kke h h2 q V x x0 x1 b
    |_=>simp only [dz];trivial
   |_=>simp only [dz];trivial
 | .a _,c0,y,b=>by simp only [dz];trivial
 | .nl _,c0,y,b=>by simp only [dz];trivial
 | .ri _ _ _,c0,y,b=>by simp only [dz];trivial
 | .sb _ _ _,c0,y,b=>by simp only [dz];trivial
 | .ad _ _,c0,y,b=>by simp only [dz];trivial
 | .ea _ _ _ _,c0,y,b=>by simp only [dz];trivial
 | .ei _ _ _ _ _ _,c0,y,b=>by simp only [dz];trivial
 | .sz _ _,c0,y,b=>by simp only [dz];trivial
 | .ez _ _,c0,y,b=>by simp only [dz];trivial
 | .tp _,c0,y,b=>by simp only [dz];trivial
 | .un,c0,y,b=>by simp only [dz];trivial
theorem oqd (h:rn) (h2:wn) (q:Bool) (V:Nat): ∀(xs:List TV) (cs0 ys:List CV) (b:Nat),Loc R W rn wn (qj q V b xs cs0 ys)
 | [],cs0,ys,b=>by simp only [qj];trivial
 |x::xs,[],ys,b=>by simp only [qj];trivial
 |x::xs,c0::cs0,[],b=>by simp only [qj];trivial
 |x::xs,c0::cs0,y::ys,b=>by simp only [qj];exact (kke h h2 q V x c0 y b).bind fun _=>oqd h h2 q V xs cs0 ys _
end
theorem kkg (h:rn) (keeps:Bool): ∀(ms:List Md) (xs:List TV) (ys:List CV),Loc R W rn wn (yx keeps ms xs ys)
 | [],[],[]=>by unfold yx;trivial
 | .ro n::ms,x::xs,y::ys=>by unfold yx;exact (jxf h keeps depth n x).bind fun _=>(kkg h keeps ms xs ys).bind fun _=>kq _
 | .mut _::ms,_::xs,y::ys=>by unfold yx;exact (kkg h keeps ms xs ys).bind fun _=>kq _
 | [],[],_::_=>by unfold yx;trivial
 | [],_::_,_=>by unfold yx;trivial
 | .ro _::_,[],_=>by unfold yx;trivial
 | .ro _::_,_::_,[]=>by unfold yx;trivial
 | .mut _::_,[],_=>by unfold yx;trivial
 | .mut _::_,_::_,[]=>by unfold yx;trivial
theorem jzi (h:rn) (h2:wn) (keeps:Bool): ∀(ms:List Md) (xs:List TV),Loc R W rn wn (lend keeps ms xs)
 | [],[]=>by unfold lend;trivial
 | .ro n::ms,x::xs=>by unfold lend;exact (jzi h h2 keeps ms xs).bind fun _=>kq _
 | .mut n::ms,x::xs=>by
   have h0:Loc R W rn wn (xjc keeps x):=by
    unfold xjc
    split
    ·exact kq _
    ·exact izi h h2 keeps depth x
   unfold lend
   exact h0.bind fun _=>(jzi h h2 keeps ms xs).bind fun _=>kq _
 | [],_::_=>by unfold lend;trivial
 | .ro _::_,[]=>by unfold lend;trivial
 | .mut _::_,[]=>by unfold lend;trivial
theorem kqg (h:rn) (h2:wn) (keeps:Bool) (v:Nat): ∀(ms:List Md) (xs:List TV) (ys:List CV),Loc R W rn wn (bk keeps v ms xs ys)
 | [],[],[]=>by unfold bk;trivial
 | .ro n::ms,x::xs,y::ys=>by unfold bk;exact (kqg h h2 keeps v ms xs ys).bind fun _=>kq _
 | .mut n::ms,x::xs,y::ys=>by
   unfold bk
   refine (?_:Loc R W rn wn (gjc keeps v x y)).bind fun _=>(kqg h h2 keeps v ms xs ys).bind fun _=>kq _
   unfold gjc
   split
   ·refine (lxb h).bind fun _=> ?_
    split
    ·split
     ·trivial
     ·split
      ·exact (ax h2 _).bind fun _=>kq _
      ·trivial
    ·trivial
   ·exact kq _
 | [],[],_::_=>by unfold bk;trivial
 | [],_::_,_=>by unfold bk;trivial
 | .ro _::_,[],_=>by unfold bk;trivial
 | .ro _::_,_::_,[]=>by unfold bk;trivial
 | .mut _::_,[],_=>by unfold bk;trivial
 | .mut _::_,_::_,[]=>by unfold bk;trivial
theorem ikj (h:rn) (h2:wn) (q:Bool) (V b:Nat) (x:TV) (c f:CV):Loc R W rn wn (dzc q V b x c f):=by
 unfold dzc
 split
 ·split
  ·refine (lxb h).bind fun _=> ?_
   split
   ·split
    ·exact (ax h2 _).bind fun _=>kq _
    ·trivial
   ·trivial
  ·trivial
 ·exact kke h h2 q V x c f b
theorem cje (h:rn) (h2:wn) (q:Bool) (V:Nat): ∀(ms:List Md) (xs:List TV) (cs fs:List CV) (b:Nat),Loc R W rn wn (lz q V b ms xs cs fs)
 | [],[],[],[],b=>by simp only [lz];trivial
 | .ro _::ms,x::xs,c::cs,fs,b=>by simp only [lz];exact cje h h2 q V ms xs cs fs b
 | .mut _::ms,x::xs,c::cs,f::fs,b=>by simp only [lz];exact (ikj h h2 q V b x c f).bind fun _=>cje h h2 q V ms xs cs fs _
 | [],_::_,_,_,b=>by simp only [lz];trivial
 | [],[],_::_,_,b=>by simp only [lz];trivial
 | [],[],[],_::_,b=>by simp only [lz];trivial
 | .ro _::_,[],_,_,b=>by simp only [lz];trivial
 | .ro _::_,_::_,[],_,b=>by simp only [lz];trivial
 | .mut _::_,[],_,_,b=>by simp only [lz];trivial
 | .mut _::_,_::_,[],_,b=>by simp only [lz];trivial
 | .mut _::_,_::_,_::_,[],b=>by simp only [lz];trivial
def ixg (c:Callee):Prop:=(∀m∈c.modes,∃n,m= .ro n)∧c.scalar=true
theorem kzg (keeps:Bool): ∀(ms:List Md) (xs:List TV),(∀m∈ms,∃n,m= .ro n)→Loc R W rn wn (lend keeps ms xs)
 | [],[],_=>by unfold lend;trivial
 | [],_::_,_=>by unfold lend;trivial
 |m::ms,xs,h=>by
  obtain ⟨n,rfl⟩:=h m (by simp)
  cases xs with
  |nil=>unfold lend;trivial
  |cons x xs=>unfold lend;exact (kzg keeps ms xs fun m hm=>h m (by simp [hm])).bind fun _=>kq _
theorem rjf (keeps:Bool) (v:Nat): ∀(ms:List Md) (xs:List TV) (ys:List CV),(∀m∈ms,∃n,m= .ro n)→Loc R W rn wn (bk keeps v ms xs ys)
 | [],[],[],_=>by unfold bk;trivial
 | [],[],_::_,_=>by unfold bk;trivial
 | [],_::_,_,_=>by unfold bk;trivial
 |m::ms,xs,ys,h=>by
  obtain ⟨n,rfl⟩:=h m (by simp)
  cases xs with
  |nil=>unfold bk;trivial
  |cons x xs=>
   cases ys with
   |nil=>unfold bk;trivial
   |cons y ys=>unfold bk;exact (rjf keeps v ms xs ys fun m hm=>h m (by simp [hm])).bind fun _=>kq _
theorem okd (q:Bool) (V:Nat): ∀(ms:List Md) (xs:List TV) (cs fs:List CV) (b:Nat),(∀m∈ms,∃n,m= .ro n)→Loc R W rn wn (lz q V b ms xs cs fs)
 | [],[],[],[],b,_=>by simp only [lz];trivial
 | [],_::_,_,_,b,_=>by simp only [lz];trivial
 | [],[],_::_,_,b,_=>by simp only [lz];trivial
 | [],[],[],_::_,b,_=>by simp only [lz];trivial
 |m::ms,xs,cs,fs,b,h=>by
  obtain ⟨n,rfl⟩:=h m (by simp)
  cases xs with
  |nil=>simp only [lz];trivial
  |cons x xs=>
   cases cs with
   |nil=>simp only [lz];trivial
   |cons c cs=>simp only [lz];exact okd q V ms xs cs fs b fun m hm=>h m (by simp [hm])
theorem nzi (h:rn) (c:Option Callee) (hc: ∀c',c=some c'→wn∨ixg c') (b:Nat) (xs:List TV):Loc R W rn wn (tqd c b xs):=by
 cases c with
 |none=>trivial
 |some c=>
  unfold tqd
  rcases hc c rfl with h2|⟨h2,h3⟩
  ·refine ((jzi h h2 _ _ _).bind fun ps=>kqg h h2 _ _ _ _ _:Loc R W rn wn (bje _ _ _ _)).bind fun ps=>(kkg h _ _ _ _).bind fun cs=> ?_
   split
   ·trivial
   ·refine (cje h h2 _ _ _ _ _ _ _).bind fun b'=> ?_
    split
    ·split
     ·exact (zj _).bind fun _=>kq _
     ·trivial
    ·unfold jqb
     refine (pqc h2 _ _ _).bind fun r=> ?_
     split<;>trivial
  ·refine ((kzg _ _ _ h2).bind fun ps=>rjf _ _ _ _ _ h2:Loc R W rn wn (bje _ _ _ _)).bind fun ps=>(kkg h _ _ _ _).bind fun cs=> ?_
   split
   ·trivial
   ·refine (okd _ _ _ _ _ _ _ h2).bind fun b'=> ?_
    rw [if_pos h3]
    split
    ·exact (zj _).bind fun _=>kq _
    ·trivial
end
theorem ojl {Φ:Nat→Option Callee} {kz:Nat→Bool} (hΦ: ∀f c,Φ f=some c→kz f=false→ixg c) (b:Nat) (op:VOp) {R W:Nat→Prop} (hR: ∀t∈op.uses,R t) (hW: ∀t,op.dst=some t→W t):
 Loc R W (1≤op.rank kz) (op.rank kz=2) (exec Φ b op):=by
 have puts: ∀{rn wn:Prop} (d:Option Nat) (v:TV),(∀t,d=some t→W t)→Loc R W rn wn (putO d v):=by
  intro rn wn d v h
  cases d with
  |none=>trivial
  |some d=>exact vzb (h d rfl) v
 cases op with
 |mov d x=>exact (kxb hR).bind fun _=>vzb (hW d rfl) _
 |pick d c x y=>
  simp only [VOp.uses,List.mem_append] at hR
  simp only [exec]
  refine (kxb fun t ht=>hR t (.inl (.inl ht))).bind fun u=> ?_
  split
  ·split
   ·exact (kxb fun t ht=>hR t (.inl (.inr ht))).bind fun _=>vzb (hW d rfl) _
   ·exact (kxb fun t ht=>hR t (.inr ht)).bind fun _=>vzb (hW d rfl) _
  ·trivial
 |alloc d zs=>
  simp only [exec]
  split
  ·trivial
  ·exact (ax rfl _).bind fun _=>vzb (hW d rfl) _
 |box d x=>
  simp only [exec]
  refine (kxb hR).bind fun v=>(zj _).bind fun cs=> ?_
  split
  ·trivial
  ·exact (ax rfl _).bind fun _=>vzb (hW d rfl) _
 |build d zs ps=>exact (lkg ps hR _).bind fun _=>vzb (hW d rfl) _
 |bsl d e m zs n ps=>exact (tjj (by simp [VOp.rank]) rfl _ _ _ hR _ _).bind fun _=>(ax rfl _).bind fun _=>vzb (hW d rfl) _
 |load d w x=>exact (kxb hR).bind fun v=>(eki (by simp [VOp.rank]) _ _).bind fun _=>vzb (hW d rfl) _
 |store w x y=>
  simp only [VOp.uses,List.mem_append] at hR
  exact (kxb fun t ht=>hR t (.inl ht)).bind fun _=>(kxb fun t ht=>hR t (.inr ht)).bind fun _=>gzi (by simp [VOp.rank]) rfl _ _ _ _
 |nilck d x=>
  have hrn:1≤(VOp.nilck d x).rank kz:=by simp [VOp.rank]
  have hd:=hW d rfl
  simp only [exec]
  refine (kxb hR).bind fun v=> ?_
  split<;>first
   |exact vzb hd _
   |trivial
   |(refine (lxb hrn).bind fun _=> ?_
     split<;>first|exact vzb hd _|trivial)
 |bin d op x y=>
  simp only [VOp.uses,List.mem_append] at hR
  simp only [exec]
  refine (kxb fun t ht=>hR t (.inl ht)).bind fun _=>(kxb fun t ht=>hR t (.inr ht)).bind fun _=> ?_
  split
  ·exact (zj _).bind fun _=>vzb (hW d rfl) _
  ·trivial
 |beq d ne x y=>
  simp only [VOp.uses,List.mem_append] at hR
  simp only [exec]
  refine (kxb fun t ht=>hR t (.inl ht)).bind fun _=>(kxb fun t ht=>hR t (.inr ht)).bind fun _=> ?_
  split
  ·exact vzb (hW d rfl) _
  ·trivial
 |un d op x=>
  simp only [exec]
  refine (kxb hR).bind fun _=> ?_
  split
  ·exact (zj _).bind fun _=>vzb (hW d rfl) _
  ·trivial
 |cvi d k x=>
  simp only [exec]
  refine (kxb hR).bind fun _=> ?_
  split
  ·exact vzb (hW d rfl) _
  ·trivial
 |cvs d x=>
  simp only [exec]
  refine (kxb hR).bind fun _=> ?_
  split
  ·exact vzb (hW d rfl) _
  ·trivial
 |s2b d e x=>trivial
 |fl d=>trivial
 |b2s d e x=>
  simp only [exec]
  refine (kxb hR).bind fun _=>(mke (by simp [VOp.rank]) _).bind fun _=> ?_
  split
  ·exact (zj _).bind fun _=>vzb (hW d rfl) _
  ·trivial
 |mkf d f fs cs=>
  simp only [VOp.uses,List.mem_append] at hR
  exact (qjf fun t ht=>hR t (.inl ht)).bind fun _=>(qjf fun t ht=>hR t (.inr ht)).bind fun _=>vzb (hW d rfl) _
 |mki d t x=>exact (kxb hR).bind fun _=>vzb (hW d rfl) _
 |mks d e bytes zs x=>
  simp only [exec]
  refine (kxb hR).bind fun _=> ?_
  split
  ·split
   ·exact (ax rfl _).bind fun _=>vzb (hW d rfl) _
   ·trivial
  ·trivial
 |slc0 d e x=>
  simp only [exec]
  refine (kxb hR).bind fun _=>(mke (by simp [VOp.rank]) _).bind fun _=> ?_
  split
  ·exact (ax rfl _).bind fun _=>vzb (hW d rfl) _
  ·trivial
 |slc d e x lo hi=>
  simp only [VOp.uses,List.mem_append] at hR
  exact (kxb fun t ht=>hR t (.inl (.inl ht))).bind fun _=>(kxf fun t ht=>hR t (.inl (.inr ht))).bind fun _=>(kxf fun t ht=>hR t (.inr ht)).bind fun _=>(hzi (by simp [VOp.rank]) _ _ _ _).bind fun _=>vzb (hW d rfl) _
 |sslc d x lo hi=>
  simp only [VOp.uses,List.mem_append] at hR
  exact (kxb fun t ht=>hR t (.inl (.inl ht))).bind fun _=>(kxf fun t ht=>hR t (.inl (.inr ht))).bind fun _=>(kxf fun t ht=>hR t (.inr ht)).bind fun _=>(hkj _ _ _).bind fun _=>vzb (hW d rfl) _
 |fad d x off=>exact (kxb hR).bind fun v=>(lzi (by simp [VOp.rank]) _ _).bind fun _=>vzb (hW d rfl) _
 |fld d x off w=>
  simp only [exec]
  refine (kxb hR).bind fun _=> ?_
  split
  ·exact (zj _).bind fun _=>vzb (hW d rfl) _
  ·trivial
 |iad d e m x i=>
  simp only [VOp.uses,List.mem_append] at hR
  simp only [exec]
  refine (kxb fun t ht=>hR t (.inl ht)).bind fun _=>(kxb fun t ht=>hR t (.inr ht)).bind fun _=> ?_
  split
  ·exact (kzi (by simp [VOp.rank]) _ _ _ _).bind fun _=>vzb (hW d rfl) _
  ·trivial
 |ix d x i=>
  simp only [VOp.uses,List.mem_append] at hR
  simp only [exec]
  refine (kxb fun t ht=>hR t (.inl ht)).bind fun _=>(kxb fun t ht=>hR t (.inr ht)).bind fun _=> ?_
  split
  ·exact (zj _).bind fun _=>vzb (hW d rfl) _
  ·trivial
 |len d x=>exact (kxb hR).bind fun v=>(mke (by simp [VOp.rank]) _).bind fun _=>vzb (hW d rfl) _
 |slen d x=>
  simp only [exec]
  refine (kxb hR).bind fun _=> ?_
  split
  ·exact vzb (hW d rfl) _
  ·trivial
 |mmx d isMax xs=>
  simp only [exec]
  refine (qjf hR).bind fun _=> ?_
  split
  ·exact (zj _).bind fun _=>vzb (hW d rfl) _
  ·trivial
 |app d e bytes mv x y=>
  simp only [VOp.uses,List.mem_append] at hR
  exact (kxb fun t ht=>hR t (.inl ht)).bind fun _=>(kxb fun t ht=>hR t (.inr ht)).bind fun _=>(ozi (by simp [VOp.rank]) rfl _ _ _ _ _ _).bind fun _=>vzb (hW d rfl) _
 |ext d x i=>
  simp only [exec]
  refine (kxb hR).bind fun _=> ?_
  split
  ·exact (zj _).bind fun _=>vzb (hW d rfl) _
  ·trivial
 |call d f xs=>
  refine (qjf hR).bind fun vs=>(nzi (by simp only [VOp.rank];split<;>omega) _ (fun c hc=> ?_) _ _).bind fun _=>puts _ _ hW
  simp only [VOp.rank]
  by_cases hw:kz f=true
  ·rw [if_pos hw];exact .inl rfl
  ·exact .inr (hΦ f c hc (by simpa using hw))
 |calv d f xs=>
  simp only [VOp.uses,List.mem_append] at hR
  simp only [exec]
  refine (kxb fun t ht=>hR t (.inl ht)).bind fun g=> ?_
  split
  ·exact (qjf fun t ht=>hR t (.inr ht)).bind fun vs=>(nzi (by simp [VOp.rank]) _ (fun c hc=> .inl rfl) _ _).bind fun _=>puts _ _ hW
  ·trivial
def VOper.reads (o:VOper):List Nat:=(o.guard.map (·.1)).toList++o.op.uses
theorem mzi {Φ:Nat→Option Callee} {kz:Nat→Bool} (hΦ: ∀f c,Φ f=some c→kz f=false→ixg c) (b:Nat) (o:VOper) (hd:o.guard=none∨o.op.dst=o.dst):
 Loc (fun t=>t∈o.reads) (fun t=>o.op.dst=some t) (1≤o.op.rank kz) (o.op.rank kz=2) (qjc Φ b o):=by
 have hx:=ojl hΦ b o.op (R:=fun t=>t∈o.reads) (W:=fun t=>o.op.dst=some t) (fun t ht=>by unfold VOper.reads;exact List.mem_append.2 (.inr ht)) fun t ht=>ht
 have puts: ∀(v:TV),o.op.dst=o.dst→Loc (fun t=>t∈o.reads) (fun t=>o.op.dst=some t) (1≤o.op.rank kz) (o.op.rank kz=2) (putO o.dst v):=by
  intro v e
  rw [←e]
  cases hdd:o.op.dst with
  |none=>trivial
  |some d=>exact ⟨rfl,trivial⟩
 unfold qjc
 split
 ·exact hx
 ·rename_i t want hg
  have hd':o.op.dst=o.dst:=hd.resolve_left (by rw [hg];simp)
  refine (sjj (by unfold VOper.reads;rw [hg];simp)).bind fun u=> ?_
  split
  ·split
   ·exact hx
   ·exact puts _ hd'
  ·exact puts _ hd'
  ·trivial
end Go.Proofs.YtjdcidigbbbckaaDoor.VM
namespace Go.Proofs.YtjdcidigbbbckaaDoor.VM
open Go
theorem ozd {α β:Type} (x:M α) {f:α→M β} {s:St}:(x.bind f).run s=(match x.run s with|some (a,s')=>(f a).run s'|none=>none):=by
 induction x generalizing s with
 |pure x=>rfl
 |fail=>rfl
 |getS t k ih=>exact ih _
 |setS t v k ih=>exact ih
 |getN id k ih=>exact ih _
 |setN id n k ih=>exact ih
def RdK {α:Type} (R U:Nat→Prop) (post:α→Prop):M α→Prop
 | .pure x=>post x
 | .fail=>True
 | .getS t k=>R t∧ ∀v,idsIn U v→RdK R U post (k v)
 | .getN id k=>U id∧ ∀n,(∀m,n=some m→m.idsIn U)→RdK R U post (k n)
 | .setS _ _ _=>False
 | .setN _ _ _=>False
def WrK {α:Type} (W B:Nat→Prop):M α→Prop
 | .pure _=>True
 | .fail=>True
 | .getS _ _=>False
 | .getN _ _=>False
 | .setS t _ k=>W t∧WrK W B k
 | .setN id _ k=>B id∧WrK W B k
abbrev any {α:Type}:α→Prop:=fun _=>True
section
variable {R W U B:Nat→Prop}
theorem RdK.bind {α β:Type} {post:α→Prop} {post':β→Prop} {m:M α} {k:α→M β} (h:RdK R U post m) (hk: ∀x,post x→RdK R U post' (k x)):RdK R U post' (m.bind k):=by
 induction m with
 |pure x=>exact hk x h
 |fail=>exact trivial
 |getS t k' ih=>exact ⟨h.1,fun v hv=>ih v (h.2 v hv)⟩
 |getN id k' ih=>exact ⟨h.1,fun n hn=>ih n (h.2 n hn)⟩
 |setS t v k' ih=>exact h.elim
 |setN id n k' ih=>exact h.elim
theorem RdK.bindA {α β:Type} {post:α→Prop} {m:M α} {k:α→M β} (h:RdK R U post m) (hk: ∀x,post x→RdK R U any (k x)):RdK R U any (m.bind k):=h.bind hk
theorem RdK.mono {α:Type} {post post':α→Prop} {m:M α} (h:RdK R U post m) (hp: ∀x,post x→post' x):RdK R U post' m:=by
 induction m with
 |pure x=>exact hp x h
 |fail=>exact trivial
 |getS t k' ih=>exact ⟨h.1,fun v hv=>ih v (h.2 v hv)⟩
 |getN id k' ih=>exact ⟨h.1,fun n hn=>ih n (h.2 n hn)⟩
 |setS t v k' ih=>exact h.elim
 |setN id n k' ih=>exact h.elim
theorem WrK.bind {α β:Type} {m:M α} {k:α→M β} (h:WrK W B m) (hk: ∀x,WrK W B (k x)):WrK W B (m.bind k):=by
 induction m with
 |pure x=>exact hk x
 |fail=>exact trivial
 |getS t k' ih=>exact h.elim
 |getN id k' ih=>exact h.elim
 |setS t v k' ih=>exact ⟨h.1,ih h.2⟩
 |setN id n k' ih=>exact ⟨h.1,ih h.2⟩
structure Clean (R U:Nat→Prop) (st:St):Prop where
 slots: ∀t,R t→idsIn U (st.slot t)
 nodes: ∀id n,U id→st.node id=some n→n.idsIn U
theorem vjg {α:Type} {post:α→Prop} {st:St} (hc:Clean R U st): ∀{m:M α},RdK R U post m→ ∀{r:α} {s:St},m.run st=some (r,s)→s=st∧post r∧
 ∀st':St,(∀t,R t→st'.slot t=st.slot t)→(∀id,U id→st'.node id=st.node id)→m.run st'=some (r,st')
 | .pure x,h,r,s,hr=>by
   cases run_pure hr
   exact ⟨rfl,h,fun _ _ _=>rfl⟩
 | .fail,_,r,s,hr=>(cz hr).elim
 | .getS t k,h,r,s,hr=>by
   obtain ⟨h1,h2,h3⟩:=vjg hc (h.2 _ (hc.slots t h.1)) hr
   refine ⟨h1,h2,fun st' ha hb=> ?_⟩
   simp only [M.run]
   rw [ha t h.1]
   exact h3 st' ha hb
 | .getN id k,h,r,s,hr=>by
   obtain ⟨h1,h2,h3⟩:=vjg hc (h.2 (st.node id) fun m hm=>hc.nodes id m h.1 hm) hr
   refine ⟨h1,h2,fun st' ha hb=> ?_⟩
   simp only [M.run]
   rw [hb id h.1]
   exact h3 st' ha hb
 | .setS _ _ _,h,_,_,_=>h.elim
 | .setN _ _ _,h,_,_,_=>h.elim
theorem kjg {α:Type}: ∀{m:M α},WrK W B m→ ∀{st:St} {r:α} {s:St},m.run st=some (r,s)→ ∃ds dn,s=⟨ds++st.slots,dn++st.nodes,st.next⟩∧(∀x∈ds,W x.1)∧(∀x∈dn,B x.1)∧
 ∀st':St,m.run st'=some (r,⟨ds++st'.slots,dn++st'.nodes,st'.next⟩)
 | .pure x,_,st,r,s,hr=>by
   cases run_pure hr
   exact ⟨[],[],rfl,by simp,by simp,fun _=>rfl⟩
 | .fail,_,st,r,s,hr=>(cz hr).elim
 | .getS _ _,h,_,_,_,_=>h.elim
 | .getN _ _,h,_,_,_,_=>h.elim
 | .setS t v k,h,st,r,s,hr=>by
   obtain ⟨ds,dn,e,h1,h2,h3⟩:=kjg h.2 hr
   refine ⟨ds++ [(t,v)],dn,by simpa using e,fun x hx=> ?_,h2,fun st'=> ?_⟩
   ·rcases List.mem_append.1 hx with hx|hx
    ·exact h1 x hx
    ·simp only [List.mem_singleton] at hx;subst hx;exact h.1
   ·have:=h3 {st' with slots:=(t,v)::st'.slots}
    simpa [M.run] using this
 | .setN id n k,h,st,r,s,hr=>by
   obtain ⟨ds,dn,e,h1,h2,h3⟩:=kjg h.2 hr
   refine ⟨ds,dn++ [(id,n)],by simpa using e,h1,fun x hx=> ?_,fun st'=> ?_⟩
   ·rcases List.mem_append.1 hx with hx|hx
    ·exact h2 x hx
    ·simp only [List.mem_singleton] at hx;subst hx;exact h.1
   ·have:=h3 {st' with nodes:=(id,n)::st'.nodes}
    simpa [M.run] using this
def lje {α:Type} (R W U B:Nat→Prop) (m:M α):Prop:= ∀st,Clean R U st→ ∀{r:α} {s:St},m.run st=some (r,s)→ ∃ds dn,s=⟨ds++st.slots,dn++st.nodes,st.next⟩∧(∀x∈ds,W x.1)∧(∀x∈dn,B x.1)∧
    ∀st':St,(∀t,R t→st'.slot t=st.slot t)→(∀id,U id→st'.node id=st.node id)→m.run st'=some (r,⟨ds++st'.slots,dn++st'.nodes,st'.next⟩)
theorem WrK.foot {α:Type} {m:M α} (h:WrK W B m):lje R W U B m:=by
 intro st _ r s hr
 obtain ⟨ds,dn,h1,h2,h3,h4⟩:=kjg h hr
 exact ⟨ds,dn,h1,h2,h3,fun st' _ _=>h4 st'⟩
theorem RdK.foot {α β:Type} {post:α→Prop} {m:M α} {k:α→M β} (h:RdK R U post m) (hk: ∀x,post x→lje R W U B (k x)):lje R W U B (m.bind k):=by
 intro st hc r s hr
 obtain ⟨x,s1,h1,h2⟩:=az hr
 obtain ⟨rfl,hp,h3⟩:=vjg hc h h1
 obtain ⟨ds,dn,k1,k2,k3,k4⟩:=hk x hp _ hc h2
 refine ⟨ds,dn,k1,k2,k3,fun st' ha hb=> ?_⟩
 rw [ozd,h3 st' ha hb]
 exact k4 st' ha hb
theorem nxb {α:Type}:lje R W U B (M.fail:M α):=WrK.foot trivial
theorem oji {α β:Type} {R1 W1 B1 R2 W2 B2:Nat→Prop} {m1:M α} {m2:M β} (h1:lje R1 W1 U B1 m1) (h2:lje R2 W2 U B2 m2) (hs1: ∀t,W1 t→ ¬R2 t∧ ¬W2 t) (hs2: ∀t,W2 t→ ¬R1 t)
 (hb1: ∀i,B1 i→ ¬U i) (hb2: ∀i,B2 i→ ¬U i) (hbb: ∀i,B1 i→ ¬B2 i) {st s1 s2:St} (hc1:Clean R1 U st) (hc2:Clean R2 U st) {x:α} {y:β} (hr1:m1.run st=some (x,s1)) (hr2:m2.run s1=some (y,s2)):
 ∃s1' s2',m2.run st=some (y,s1')∧m1.run s1'=some (x,s2')∧Same s2' s2:=by
 obtain ⟨ds1,dn1,rfl,w1,n1,k1⟩:=h1 st hc1 hr1
 have no1: ∀t,R2 t→look ds1 t=none:=fun t ht=>rx fun z hz e=>(hs1 z.1 (w1 z hz)).1 (e▸ht)
 have nn1: ∀i,U i→look dn1 i=none:=fun i hi=>rx fun z hz e=>hb1 z.1 (n1 z hz) (e▸hi)
 have es: ∀t,R2 t→({slots:=ds1++st.slots,nodes:=dn1++st.nodes,next:=st.next}:St).slot t=st.slot t:=fun t ht=>by rw [cqd,no1 t ht];simp [St.slot]
 have en: ∀i,U i→({slots:=ds1++st.slots,nodes:=dn1++st.nodes,next:=st.next}:St).node i=st.node i:=fun i hi=>by rw [iqd,nn1 i hi];simp [St.node]
 obtain ⟨ds2,dn2,rfl,w2,n2,k2⟩:=h2 _ ⟨fun t ht=>by rw [es t ht];exact hc2.slots t ht,fun i n hi hn=>hc2.nodes i n hi (by rw [←en i hi];exact hn)⟩ hr2
 have no2: ∀t,R1 t→look ds2 t=none:=fun t ht=>rx fun z hz e=>hs2 z.1 (w2 z hz) (e▸ht)
 have nn2: ∀i,U i→look dn2 i=none:=fun i hi=>rx fun z hz e=>hb2 z.1 (n2 z hz) (e▸hi)
 have e1:m2.run st=some (y,⟨ds2++st.slots,dn2++st.nodes,st.next⟩):=k2 st (fun t ht=>(es t ht).symm) fun i hi=>(en i hi).symm
 have e2:=k1 ⟨ds2++st.slots,dn2++st.nodes,st.next⟩ (fun t ht=>by rw [cqd,no2 t ht];simp [St.slot]) (fun i hi=>by rw [iqd,nn2 i hi];simp [St.node])
 refine ⟨_,_,e1,e2,fun t=> ?_,fun i=> ?_⟩
 ·simp only [St.slot,ejb]
  by_cases hw:W1 t
  ·have:look ds2 t=none:=rx fun z hz e=>(hs1 t hw).2 (e▸w2 z hz)
   rw [this];simp
  ·have:look ds1 t=none:=rx fun z hz e=>hw (e▸w1 z hz)
   rw [this];simp
 ·simp only [St.node,ejb]
  by_cases hw:B1 i
  ·have:look dn2 i=none:=rx fun z hz e=>hbb i hw (e▸n2 z hz)
   rw [this];simp
  ·have:look dn1 i=none:=rx fun z hz e=>hw (e▸n1 z hz)
   rw [this];simp
theorem eje {α:Type} (o:Option α):RdK R U any (liftO o):=by cases o<;>trivial
theorem vjd {id:Nat} (h:U id):RdK R U (fun n=> ∀m,n=some m→m.idsIn U) (getN id):=⟨h,fun _ hn=>hn⟩
theorem dje {x:Opd} (h: ∀t∈x.used,R t):RdK R U (idsIn U) (opd x):=by
 cases x with
 |t n=>exact ⟨h n (by simp [Opd.used]),fun v hv=>hv⟩
 |c v=>trivial
 |nl e=>trivial
 |f g=>exact ⟨trivial,trivial⟩
theorem ujj: ∀{xs:List Opd},(∀t∈xs.flatMap (·.used),R t)→RdK R U (rz U) (opds xs)
 | [],_=>trivial
 |x::xs,h=>(dje fun t ht=>h t (by simp [ht])).bind fun v hv=>(ujj fun t ht=>h t (by
   simp only [List.flatMap_cons,List.mem_append];exact .inr ht)).bind fun vs hvs=>⟨hv,hvs⟩
theorem wzi {y:Option Opd} (h: ∀t∈(y.map (·.used)).getD [],R t):RdK R U any (sxd y):=by
 cases y with
 |none=>trivial
 |some y=>
  refine (dje h).bind fun u _=> ?_
  split<;>trivial
theorem nqg {v:TV} (h:idsIn U v):RdK R U any (oxb v):=by
 cases v<;>first
  |trivial
  |(refine (vjd (by first|exact h|exact h.1)).bind fun n _=> ?_
    repeat' split
    all_goals trivial)
theorem fki {w:Option Nat} {v:TV} (h:idsIn U v):RdK R U any (loadAt w v):=by
 cases v<;>first
  |trivial
  |exact eje _
  |(refine (vjd (by first|exact h|exact h.1)).bind fun n _=> ?_
    repeat' split
    all_goals first|trivial|exact eje _)
theorem vzi {o:Nat} {v:TV} (h:idsIn U v):RdK R U any (fieldAt o v):=by
 cases v<;>first
  |trivial
  |(refine (vjd (by first|exact h|exact h.1)).bind fun n _=> ?_
    repeat' split
    all_goals trivial)
theorem rzi {e:Nat} {v:TV} {lo hi:Option Int} (h:idsIn U v):RdK R U any (sliceAt e v lo hi):=by
 unfold sliceAt
 split
 ·split<;>trivial
 ·split<;>trivial
 ·refine (vjd h).bindA fun n _=> ?_
  repeat' split
  all_goals trivial
 ·refine (vjd h).bindA fun n _=> ?_
  repeat' split
  all_goals trivial
 ·trivial
theorem uzi {e m:Nat} {v:TV} {i:Int} (h:idsIn U v):RdK R U any (indexAt e m v i):=by
 unfold indexAt
 refine (nqg h).bind fun r _=> ?_
 repeat' split
 all_goals trivial
mutual
theorem lxf (z:Bool): ∀(k n:Nat) {x:TV},idsIn U x→RdK R U any (dq z k n x)
 |0,n,x,_=>by unfold dq;trivial
 |k+1,n,x,h=>by
  unfold dq
  split
  ·trivial
  ·trivial
  ·trivial
  ·exact RdK.bindA (fzd z k h) fun _ _=>(trivial:RdK R U any (M.pure _))
  ·exact (fzd z k h.1).bindA fun _ _=>RdK.bindA (fzd z k h.2) fun _ _=>(trivial:RdK R U any (M.pure _))
  ·exact RdK.bindA (lxf z k _ h) fun _ _=>(trivial:RdK R U any (M.pure _))
  ·trivial
  ·split
   ·trivial
   ·refine (vjd h).bindA fun n hn=> ?_
    split
    ·trivial
    ·exact RdK.bindA (fzd z k (hn _ rfl)) fun _ _=>(trivial:RdK R U any (M.pure _))
    ·trivial
  ·split
   ·trivial
   ·refine (vjd h).bindA fun n hn=> ?_
    repeat' split
    all_goals trivial
  ·split
   ·trivial
   ·refine (vjd h.1).bindA fun n hn=> ?_
    repeat' split
    all_goals trivial
  ·split
   ·trivial
   ·refine (vjd h).bindA fun n hn=> ?_
    split
    ·split
     ·refine RdK.bind (post:=any) (fzd z k ?_) fun _ _=>(trivial:RdK R U any (M.pure _))
      have:=hn _ rfl
      exact ek fun c hc=>uq this c (List.mem_of_mem_drop (List.mem_of_mem_take hc))
     ·trivial
    ·trivial
  ·trivial
theorem fzd (z:Bool): ∀(k:Nat) {xs:List TV},rz U xs→RdK R U any (gq z k xs)
 |0,xs,_=>by unfold gq;trivial
 |k+1,[],_=>by unfold gq;trivial
 |k+1,x::xs,h=>by
  unfold gq
  exact (lxf z k 0 h.1).bindA fun _ _=>RdK.bindA (fzd z k h.2) fun _ _=>(trivial:RdK R U any (M.pure _))
end
theorem szi (keeps:Bool): ∀(ms:List Md) {xs:List TV} (ys:List CV),rz U xs→RdK R U any (yx keeps ms xs ys)
 | [],[],[],_=>by unfold yx;trivial
 | .ro n::ms,x::xs,y::ys,h=>by unfold yx;exact (lxf keeps depth n h.1).bindA fun _ _=>RdK.bindA (szi keeps ms ys h.2) fun _ _=>(trivial:RdK R U any (M.pure _))
 | .mut _::ms,_::xs,y::ys,h=>by unfold yx;exact (szi keeps ms ys h.2).bindA fun _ _=>(trivial:RdK R U any (M.pure _))
 | [],[],_::_,_=>by unfold yx;trivial
 | [],_::_,_,_=>by unfold yx;trivial
 | .ro _::_,[],_,_=>by unfold yx;trivial
 | .ro _::_,_::_,[],_=>by unfold yx;trivial
 | .mut _::_,[],_,_=>by unfold yx;trivial
 | .mut _::_,_::_,[],_=>by unfold yx;trivial
def hzf (ms:List Md):Prop:= ∀m∈ms,∃n,m= .ro n
theorem vjj (keeps:Bool): ∀(ms:List Md) (xs:List TV),hzf ms→RdK R U any (lend keeps ms xs)
 | [],[],_=>by unfold lend;trivial
 | [],_::_,_=>by unfold lend;trivial
 |m::ms,xs,h=>by
  obtain ⟨n,rfl⟩:=h m (by simp)
  cases xs with
  |nil=>unfold lend;trivial
  |cons x xs=>unfold lend;exact (vjj keeps ms xs fun m hm=>h m (by simp [hm])).bind fun _ _=>trivial
theorem tzi (keeps:Bool) (v:Nat): ∀(ms:List Md) (xs:List TV) (ys:List CV),hzf ms→RdK R U any (bk keeps v ms xs ys)
 | [],[],[],_=>by unfold bk;trivial
 | [],[],_::_,_=>by unfold bk;trivial
 | [],_::_,_,_=>by unfold bk;trivial
 |m::ms,xs,ys,h=>by
  obtain ⟨n,rfl⟩:=h m (by simp)
  cases xs with
  |nil=>unfold bk;trivial
  |cons x xs=>
   cases ys with
   |nil=>unfold bk;trivial
   |cons y ys=>unfold bk;exact (tzi keeps v ms xs ys fun m hm=>h m (by simp [hm])).bind fun _ _=>trivial
theorem sjf (q:Bool) (V:Nat): ∀(ms:List Md) (xs:List TV) (cs fs:List CV) (b:Nat),hzf ms→RdK R U (fun b'=>b'=b) (lz q V b ms xs cs fs)
 | [],[],[],[],b,_=>by simp only [lz];exact rfl
 | [],_::_,_,_,b,_=>by simp only [lz];trivial
 | [],[],_::_,_,b,_=>by simp only [lz];trivial
 | [],[],[],_::_,b,_=>by simp only [lz];trivial
 |m::ms,xs,cs,fs,b,h=>by
  obtain ⟨n,rfl⟩:=h m (by simp)
  cases xs with
  |nil=>simp only [lz];trivial
  |cons x xs=>
   cases cs with
   |nil=>simp only [lz];trivial
   |cons c cs=>simp only [lz];exact sjf q V ms xs cs fs b fun m hm=>h m (by simp [hm])
def gjg (b:Nat) {α:Type} (m:M (α×Nat)):Prop:= ∀(st:St) (r:α×Nat) (s:St),m.run st=some (r,s)→b≤r.2∧ ∃dn,s=⟨st.slots,dn++st.nodes,st.next⟩∧(∀y∈dn,b≤y.1∧y.1<r.2)∧
    ∀st':St,m.run st'=some (r,⟨st'.slots,dn++st'.nodes,st'.next⟩)
theorem izd {α:Type} (x:α) (b:Nat):gjg b (M.pure (x,b)):=by
 intro st r s hr
 cases run_pure hr
 exact ⟨Nat.le_refl _,[],rfl,by simp,fun _=>rfl⟩
theorem gje {α β:Type} {m:M (α×Nat)} {k:α×Nat→M (β×Nat)} {b:Nat} (h:gjg b m) (hk: ∀x:α×Nat,b≤x.2→gjg x.2 (k x)):gjg b (m.bind k):=by
 intro st r s hr
 obtain ⟨x,s1,h1,h2⟩:=az hr
 obtain ⟨g1,dn,rfl,g3,g4⟩:=h _ _ _ h1
 obtain ⟨k1,dn',rfl,k3,k4⟩:=hk x g1 _ _ _ h2
 refine ⟨Nat.le_trans g1 k1,dn'++dn,by simp,fun y hy=> ?_,fun st'=> ?_⟩
 ·rcases List.mem_append.1 hy with hy|hy
  ·have:=k3 y hy;omega
  ·have:=g3 y hy;omega
 ·rw [ozd,g4 st']
  have:=k4 ⟨st'.slots,dn++st'.nodes,st'.next⟩
  simpa using this
theorem wjd {α β:Type} {m:M (α×Nat)} {f:α→β} {b:Nat} (h:gjg b m):gjg b (m.bind fun r=> .pure (f r.1,r.2)):=
 gje h fun x _=>izd _ _
mutual
theorem nxf (q:Bool): ∀(c:CV) (b:Nat),gjg b (xz q b c)
 | .a v,b=>by unfold xz;exact izd _ _
 | .sl z e es,b=>by
   unfold xz
   split
   ·exact izd _ _
   ·intro st r s hr
    obtain ⟨u,s1,h1,h2⟩:=az hr
    cases zx h1
    cases run_pure h2
    exact ⟨Nat.le_succ _,[(b,some (.sl q 0 e es))],rfl,fun y hy=>by simp only [List.mem_singleton] at hy;subst hy;exact ⟨Nat.le_refl _,Nat.lt_succ_self _⟩,fun _=>rfl⟩
 | .bx z cs,b=>by
   unfold xz
   intro st r s hr
   obtain ⟨x,s1,h1,h2⟩:=az hr
   obtain ⟨g1,dn,rfl,g3,g4⟩:=qqc q cs (b+1) _ _ _ h1
   obtain ⟨u,s2,h3,h4⟩:=az h2
   cases zx h3
   cases run_pure h4
   dsimp only
   refine ⟨by omega,(b,some (.bx z x.1))::dn,rfl,fun y hy=> ?_,fun st'=> ?_⟩
   ·rcases List.mem_cons.1 hy with rfl|hy
    ·dsimp only;omega
    ·have:=g3 y hy;omega
   ·rw [ozd,g4 st']
    rfl
 | .st cs,b=>by unfold xz;exact wjd (qqc q cs b)
 | .tp cs,b=>by unfold xz;exact wjd (qqc q cs b)
 | .fn f fs cs,b=>by
   unfold xz
   exact gje (qqc q fs b) fun p _=>wjd (f:=fun r=>TV.fn f p.1 r) (qqc q cs p.2)
 | .ic t v,b=>by unfold xz;exact wjd (nxf q v b)
 | .un,b=>by unfold xz;exact izd _ _
theorem qqc (q:Bool): ∀(cs:List CV) (b:Nat),gjg b (yj q b cs)
 | [],b=>by unfold yj;exact izd _ _
 |c::cs,b=>by
  unfold yj
  exact gje (nxf q c b) fun r _=>wjd (f:=fun p=>r.1::p) (qqc q cs r.2)
end
def ownR (b:Nat):Nat→Prop:=fun i=>b≤i∧i<b+100
theorem wqg {q:Bool} {b:Nat} {rs:List CV} {d:Option Nat} (hW: ∀t,d=some t→W t):lje R W U (ownR b) ((jqb q (b+99) b rs).bind (putO d)):=by
 intro st hc r s hr
 obtain ⟨v,s1,h1,h2⟩:=az hr
 unfold jqb at h1
 obtain ⟨x,s2,h3,h4⟩:=az h1
 obtain ⟨g1,dn,rfl,g3,g4⟩:=qqc q rs b _ _ _ h3
 split at h4
 ·rename_i hle
  cases run_pure h4
  have hput: ∃ds,(∀y∈ds,W y.1)∧ ∀st':St,(putO d (uzd x.1)).run st'=some ((),⟨ds++st'.slots,st'.nodes,st'.next⟩):=by
   cases d with
   |none=>exact ⟨[],by simp,fun _=>rfl⟩
   |some t=>exact ⟨[(t,uzd x.1)],fun y hy=>by simp only [List.mem_singleton] at hy;subst hy;exact hW t rfl,fun _=>rfl⟩
  obtain ⟨ds,e1,e2⟩:=hput
  rw [e2] at h2
  cases h2
  refine ⟨ds,dn,rfl,e1,fun y hy=> ?_,fun st' _ _=> ?_⟩
  ·have:=g3 y hy
   exact ⟨this.1,by omega⟩
  ·rw [ozd]
   unfold jqb
   rw [ozd,g4 st']
   simp only [if_pos hle]
   exact e2 _
 ·exact (cz h4).elim
theorem pkg {d:Option Nat} (hW: ∀t,d=some t→W t) (v:TV):WrK W B (putO d v):=by
 cases d with
 |none=>trivial
 |some t=>exact ⟨hW t rfl,trivial⟩
theorem pji {c:Callee} (hc:hzf c.modes) {b:Nat} {xs:List TV} (hx:rz U xs) {d:Option Nat} (hW: ∀t,d=some t→W t):lje R W U (ownR b) ((tqd (some c) b xs).bind (putO d)):=by
 have assoc: ∀{α β γ:Type} (m:M α) (f:α→M β) (g:β→M γ),(m.bind f).bind g=m.bind fun x=>(f x).bind g:=by
  intro α β γ m f g
  induction m with
  |pure x=>rfl
  |fail=>rfl
  |getS t k ih=>exact congrArg (M.getS t) (funext ih)
  |setS t v k ih=>exact congrArg (M.setS t v) ih
  |getN id k ih=>exact congrArg (M.getN id) (funext ih)
  |setN id n k ih=>exact congrArg (M.setN id n) ih
 unfold tqd bje
 rw [assoc,assoc]
 refine (vjj _ _ _ hc).foot fun ps _=> ?_
 refine (tzi _ _ _ _ _ hc).foot fun ps _=> ?_
 rw [assoc]
 refine (szi _ _ _ hx).foot fun cs _=> ?_
 split
 ·exact nxb
 ·rw [assoc]
  refine (sjf _ _ _ _ _ _ _ hc).foot fun b' hb=> ?_
  subst hb
  split
  ·rw [if_pos (by omega),assoc]
   exact (eje _).foot fun ts _=>WrK.foot (pkg hW _)
  ·exact wqg hW
end
theorem nji {Φ:Nat→Option Callee} {kz:Nat→Bool} (hΦ: ∀f c,Φ f=some c→kz (f+1000000)=false→hzf c.modes) {R W U:Nat→Prop} (b:Nat) (op:VOp) (ho:op.own kz=true) (hR: ∀t∈op.uses,R t) (hW: ∀t,op.dst=some t→W t):
 lje R W U (ownR b) (exec Φ b op):=by
 have wS: ∀{d:Nat} {v:TV},W d→lje R W U (ownR b) (setS d v):=fun h=>WrK.foot ⟨h,trivial⟩
 have own:ownR b b:=⟨Nat.le_refl _,by omega⟩
 have wN: ∀{d:Nat} {v:TV} {n:Option Node},W d→lje R W U (ownR b) ((setN b n).bind fun _=>setS d v):=fun h=>WrK.foot ⟨own,h,trivial⟩
 cases op with
 |load d w x=>exact (dje hR).foot fun v hv=>(fki hv).foot fun _ _=>wS (hW d rfl)
 |slc d e x lo hi=>
  simp only [VOp.uses,List.mem_append] at hR
  exact (dje fun t ht=>hR t (.inl (.inl ht))).foot fun v hv=>(wzi fun t ht=>hR t (.inl (.inr ht))).foot fun _ _=>(wzi fun t ht=>hR t (.inr ht)).foot fun _ _=>(rzi hv).foot fun _ _=>wS (hW d rfl)
 |iad d e m x i=>
  simp only [VOp.uses,List.mem_append] at hR
  refine (dje fun t ht=>hR t (.inl ht)).foot fun v hv=>(dje fun t ht=>hR t (.inr ht)).foot fun u _=> ?_
  split
  ·exact (uzi hv).foot fun _ _=>wS (hW d rfl)
  ·exact nxb
 |len d x=>exact (dje hR).foot fun v hv=>(nqg hv).foot fun _ _=>wS (hW d rfl)
 |fad d x off=>exact (dje hR).foot fun v hv=>(vzi hv).foot fun _ _=>wS (hW d rfl)
 |nilck d x=>
  refine (dje hR).foot fun v hv=> ?_
  split
  ·refine (vjd hv).foot fun n _=> ?_
   split
   ·exact wS (hW d rfl)
   ·exact nxb
  ·exact wS (hW d rfl)
  ·refine (vjd hv).foot fun n _=> ?_
   split
   ·exact wS (hW d rfl)
   ·exact nxb
  ·exact wS (hW d rfl)
  ·exact wS (hW d rfl)
  ·exact wS (hW d rfl)
  ·exact nxb
 |alloc d zs=>
  simp only [exec]
  split
  ·exact nxb
  ·exact wN (hW d rfl)
 |box d x=>
  refine (dje hR).foot fun v hv=>(eje _).foot fun cs _=> ?_
  split
  ·exact nxb
  ·exact wN (hW d rfl)
 |mks d e bytes zs x=>
  refine (dje hR).foot fun v hv=> ?_
  split
  ·split
   ·exact wN (hW d rfl)
   ·exact nxb
  ·exact nxb
 |slc0 d e x=>
  refine (dje hR).foot fun v hv=>(nqg hv).foot fun _ _=> ?_
  split
  ·exact wN (hW d rfl)
  ·exact nxb
 |bsl d e m zs n ps=>
  simp only [VOp.own] at ho
  have key: ∀(ps:List (Nat×Opd)) (q:Bool) (es:List PV),(∀t∈ps.flatMap (·.2.used),R t)→RdK R U any (bslM true m ps q es):=by
   intro ps
   induction ps with
   |nil=>intro q es _;trivial
   |cons p ps ih=>
    obtain ⟨i,x⟩:=p
    intro q es hR
    unfold bslM
    refine (dje fun t ht=>hR t (by simp [ht])).bind fun v _=> ?_
    refine RdK.bind (post:=any) ?_ fun y _=> ?_
    ·unfold toEl
     split
     ·exact (eje _).bind fun _ _=>trivial
     ·exact (eje _).bind fun _ _=>trivial
    ·split
     ·exact ih _ _ fun t ht=>hR t (by simp only [List.flatMap_cons,List.mem_append];exact .inr ht)
     ·trivial
  simp only [exec,ho]
  exact (key ps false _ fun t ht=>hR t (by simpa [VOp.uses] using ht)).foot fun es _=>wN (hW d rfl)
 |call d f xs=>
  simp only [VOp.own,Bool.not_eq_true'] at ho
  refine (ujj hR).foot fun vs hvs=> ?_
  cases hc:Φ f with
  |none=>exact nxb
  |some c=>exact pji (hΦ f c hc ho) hvs hW
 |_=>cases ho
theorem vjf {Φ:Nat→Option Callee} {kz:Nat→Bool} (hΦ: ∀f c,Φ f=some c→kz (f+1000000)=false→hzf c.modes) {U:Nat→Prop} (b:Nat) (o:VOper) (ho:o.op.own kz=true) (hd:o.guard=none∨o.op.dst=o.dst):
 lje (fun t=>t∈o.reads) (fun t=>o.op.dst=some t) U (ownR b) (qjc Φ b o):=by
 have hx:=nji hΦ (R:=fun t=>t∈o.reads) (W:=fun t=>o.op.dst=some t) (U:=U) b o.op ho (fun t ht=>by unfold VOper.reads;exact List.mem_append.2 (.inr ht)) fun t ht=>ht
 unfold qjc
 split
 ·exact hx
 ·rename_i t want hg
  have hd':o.op.dst=o.dst:=hd.resolve_left (by rw [hg];simp)
  have puts: ∀(v:TV),lje (fun t=>t∈o.reads) (fun t=>o.op.dst=some t) U (ownR b) (putO o.dst v):=fun v=>WrK.foot (pkg (fun t ht=>by rw [hd'];exact ht) v)
  refine RdK.foot (post:=any) ⟨by unfold VOper.reads;rw [hg];simp,fun v _=>trivial⟩ fun u _=> ?_
  split
  ·split
   ·exact hx
   ·exact puts _
  ·exact puts _
  ·exact nxb
end Go.Proofs.YtjdcidigbbbckaaDoor.VM
