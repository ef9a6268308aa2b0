/- The interpreter 'VM'. -/
import Derived.Test.YtpgkmggaifgjkaaGreatDoorVmXy
open Option.some renaming injEq->Aa,inj->A5
open Option renaming map_eq_some_iff->Ab,isSome_iff_exists->Ag,map_some->Ai,getD_some->Al
open Prod.mk renaming injEq->Ac
open List renaming getElem?_map->Ad,getElem?_eq_some_iff->Ae,mem_cons->Aj,mem_iff_getElem?->An,mem_append->Ao,mem_map->Ap,getElem?_eq_getElem->Au,getElem?_cons_zero->Av,getElem?_eq_none->Aw,range->Ay,cons_append->A0,mapM_cons->A3
open Array renaming getD_eq_getD_getElem?->Af,getElem?_eq_getElem->At,getElem?_range->Ax,getElem?_map->Az,replicate->A1
open Nat renaming lt_of_lt_of_le->Ah,le_refl->Ak
open Bool renaming and_eq_true->Am,or_eq_false_iff->Aq,false_eq_true->Ar,not_false->A2,true_and->A4
set_option linter.all false
namespace Go.Proofs.YtpgkmggaifgjkaaGreatDoor.VM
open Go
variable {cx:Cx} {U:Nat->Prop} {ρ ρ':Nat->Value} {F F':Nat->vaj} {st:St} {sh sh':va2} {a:Act} {w:World}
theorem vm2 {α:Type}:∀{l:List (Nat×α)} {k:Nat} {v:α},look l k=some v->(k,v)∈l
 | [],_,_,h=>by cases h
 |(j,x)::l,k,v,h=>by
  simp only [look] at h;split at h
  ·rename_i hj;cases h;subst hj;simp
  ·exact List.mem_cons_of_mem _ (vm2 h)
theorem vl9:∀(xs acc:List Nat),acc.Nodup->(addNew acc xs).Nodup
 | [],acc,h=>h
 |x::xs,acc,h=>by
  simp only [addNew];split
  ·exact vl9 xs acc h
  ·rename_i hx;refine vl9 xs _ ?_;rw [List.nodup_append];refine ⟨h,by simp,?_⟩;intro y hy z hz;simp only [List.mem_singleton] at hz;subst hz
   rintro rfl
   exact hx (by simpa using hy)
theorem vqs (s:St):∀(k i:Nat) (acc:List Nat),acc.Nodup->(reach s k i acc).Nodup
 |0,i,acc,h=>h
 |k+1,i,acc,h=>by
  simp only [reach];split
  ·exact h
  ·split
   ·exact vqs s k _ _ (vl9 _ _ h)
   ·exact vqs s k _ _ h
theorem vev:∀{l:List Nat} {x k:Nat},place l x=some k->l[k]? =some x
 | [],x,k,h=>by cases h
 |y::r,x,k,h=>by
  simp only [place] at h;split at h
  ·rename_i hy;cases h;simp [hy]
  ·obtain ⟨j,h1,rfl⟩:=Ab.1 h;simpa using vev h1
theorem vid (st:St) (l:List Nat):∀(cs:List TV),renL st l cs=cs.map (ren st l)
 | []=>rfl
 |c::cs=>by simp [renL,vid st l cs]
theorem qs6 {P:Program} {Z:Zn} {l:List Nat} (hρ:∀k id,l[k]? =some id->ρ' k=ρ id) (hF:∀k id,l[k]? =some id->F' k=F id) (hcur:∀id ver ver0 e n,curV st id ver=true->sh id=some (ver0,e,n)->ver0=ver)
  (hsh:∀k id ver e n,l[k]? =some id->sh' k=some (ver,e,n)->∃ver0,sh id=some (ver0,e,n)) {c:TV} {v:Value}
  (h:TR P w Z ρ F sh c v):TR P w Z ρ' F' sh' (ren st l c) v:=by
 induction h with
 |a v=>exact .a v
 |nl e m hm=>exact .nl e m hm
 |rf id=>
  simp only [ren];split
  ·rename_i k hk;rw [<-hρ k id (vev hk)];exact .rf k
  ·exact .un _
 |ri id ver p v h1 h=>
  simp only [ren];split
  ·rename_i k hk;split
   ·rename_i hcv;refine .ri k 0 p v h1 λe len hs=> ?_;obtain ⟨ver0,hs0⟩:=hsh k id 0 e len (vev hk) hs;obtain rfl:=hcur id ver ver0 e len hcv hs0;rw [hρ k id (vev hk),hF k id (vev hk)];exact h e len hs0
   ·exact .un _
  ·exact .un _
 |sb id lo n v h1 h=>
  simp only [ren];split
  ·rename_i k hk;refine .sb k lo n v h1 λver e len hs=> ?_;obtain ⟨ver0,hs0⟩:=hsh k id ver e len (vev hk) hs;rw [hρ k id (vev hk)];exact h ver0 e len hs0
  ·exact .un _
 |ad id o b off h=>
  simp only [ren];split
  ·rename_i k hk;exact .ad k o b off (by rw [hρ k id (vev hk)];exact h)
  ·exact .un _
 |ea id i m o v h1 h=>
  simp only [ren];split
  ·rename_i k hk;refine .ea k i m o v h1 λver e len hs=> ?_;obtain ⟨ver0,hs0⟩:=hsh k id ver e len (vev hk) hs;rw [hρ k id (vev hk)];exact h ver0 e len hs0
  ·exact .un _
 |ei id ver p i m o v h1 h=>
  simp only [ren];split
  ·rename_i k hk;split
   ·rename_i hcv;refine .ei k 0 p i m o v h1 λe len hs=> ?_;obtain ⟨ver0,hs0⟩:=hsh k id 0 e len (vev hk) hs;obtain rfl:=hcur id ver ver0 e len hcv hs0;rw [hρ k id (vev hk),hF k id (vev hk)];exact h e len hs0
   ·exact .un _
  ·exact .un _
 |sz e es v h=>exact .sz e es v h
 |ez cs o x hx vs hc=>exact .ez cs o x hx vs hc
 |st cs us hl h ih=>
  simp only [ren,vid];refine .st _ us (by simpa using hl) λi c u hi hu=> ?_;rw [Ad] at hi;obtain ⟨c0,h1,rfl⟩:=Ab.1 hi;exact ih i c0 u h1 hu
 |tp cs us hl h ih=>
  simp only [ren,vid];refine .tp _ us (by simpa using hl) λi c u hi hu=> ?_;rw [Ad] at hi;obtain ⟨c0,h1,rfl⟩:=Ab.1 hi;exact ih i c0 u h1 hu
 |fn f fs cs xs us hx hl hf h ihf ih=>
  simp only [ren,vid];refine .fn f _ _ xs us (by simpa using hx) (by simpa using hl) (λi c u hi hu=> ?_) λi c u hi hu=> ?_
  ·rw [Ad] at hi;obtain ⟨c0,h1,rfl⟩:=Ab.1 hi;exact ihf i c0 u h1 hu
  ·rw [Ad] at hi;obtain ⟨c0,h1,rfl⟩:=Ab.1 hi;exact ih i c0 u h1 hu
 |ic t c u h ih=>exact .ic t _ u ih
 |un v=>exact .un v
theorem vlw {l:List Nat} {n:Nat} (hn:l.length<=n) {id k:Nat} (hk:place l id=some k):k<n:=
 Ah (Ae.1 (vev hk)).1 hn
mutual
theorem vxp {l:List Nat} {n:Nat} (hn:l.length<=n):∀(c:TV),idsIn (λk=>k<n) (ren st l c)
 | .a _=>trivial
 | .nl _=>trivial
 | .rf id=>by
  simp only [ren];split
  ·rename_i k hk;exact vlw hn hk
  ·trivial
 | .ri id _ _=>by
  simp only [ren];split
  ·rename_i k hk;split
   ·exact ⟨vlw hn hk,.inl rfl⟩
   ·trivial
  ·trivial
 | .sb id _ _=>by
  simp only [ren];split
  ·rename_i k hk;exact vlw hn hk
  ·trivial
 | .ad id _=>by
  simp only [ren];split
  ·rename_i k hk;exact vlw hn hk
  ·trivial
 | .ea id _ _ _=>by
  simp only [ren];split
  ·rename_i k hk;exact vlw hn hk
  ·trivial
 | .ei id _ _ _ _ _=>by
  simp only [ren];split
  ·rename_i k hk;split
   ·exact ⟨vlw hn hk,.inl rfl⟩
   ·trivial
  ·trivial
 | .sz _ _=>trivial
 | .ez _ _=>trivial
 | .st cs=>vm4 hn cs
 | .tp cs=>vm4 hn cs
 | .fn _ fs cs=>⟨vm4 hn fs,vm4 hn cs⟩
 | .ic _ c=>vxp hn c
 | .un=>trivial
theorem vm4 {l:List Nat} {n:Nat} (hn:l.length<=n):∀(cs:List TV),vap (λk=>k<n) (renL st l cs)
 | []=>trivial
 |c::cs=>⟨vxp hn c,vm4 hn cs⟩
end
theorem qbe {l:List Nat} {c:TV} {e:Nat} (h:ren st l c= .nl e):c= .nl e:=by
 cases c<;>simp only [ren] at h<;>first|exact h|(split at h<;>first|cases h|(split at h<;>cases h))|cases h
def NilOr (lo hi:Nat) (c c':TV):Prop:=c'=c\/∃e id,c= .nl e/\c'= .rf id/\lo<=id/\id<hi
theorem NilOr.mono {lo hi lo' hi':Nat} (h1:lo'<=lo) (h2:hi<=hi') {c c':TV} (h:NilOr lo hi c c'):NilOr lo' hi' c c':=by
 rcases h with h|⟨e,id,h3,h4,h5,h6⟩
 ·exact .inl h
 ·exact .inr ⟨e,id,h3,h4,zo,zo⟩
theorem vkr:∀(xs:List TV) (b:Nat),(vdi b xs).1.length=xs.length/\b<=(vdi b xs).2.2/\(∀y∈(vdi b xs).2.1,b<=y.1/\y.1<(vdi b xs).2.2/\∃e,y.2=some (.sl false 0 e [])/\TV.nl e∈xs)/\
  ∀(i:Nat) c',(vdi b xs).1[i]? =some c'->∃c,xs[i]? =some c/\NilOr b (vdi b xs).2.2 c c'
 | [],b=>by simp [vdi]
 |x::xs,b=>by
  have other:∀(_:∀e,x≠ .nl e),vdi b (x::xs)=(x::(vdi b xs).1,(vdi b xs).2.1,(vdi b xs).2.2):=by
   intro hx;cases x<;>first|rfl|exact absurd rfl (hx _)
  by_cases hx:∃e,x= .nl e
  ·obtain ⟨e,rfl⟩:=hx;obtain ⟨h1,h2,h3,h4⟩:=vkr xs (b+1);simp only [vdi];refine ⟨by simp [h1],zo,?_,?_⟩
   ·intro y hy;rcases Aj.1 hy with rfl|hy
    ·exact ⟨Ak _,zo,e,rfl,by simp⟩
    ·obtain ⟨k1,k2,e',k3,k4⟩:=h3 y hy;exact ⟨zo,k2,e',k3,by simp [k4]⟩
   ·intro i c' hi;cases i with
    |zero=>simp only [Av,Aa] at hi;subst hi;exact ⟨.nl e,by simp,.inr ⟨e,b,rfl,rfl,Ak _,zo⟩⟩
    |succ i=>
     obtain ⟨c,k1,k2⟩:=h4 i c' (by simpa using hi);exact ⟨c,by simpa using k1,k2.mono zo (Ak _)⟩
  ·have hx':∀e,x≠ .nl e:=λe he=>hx ⟨e,he⟩;obtain ⟨h1,h2,h3,h4⟩:=vkr xs b;rw [other hx'];refine ⟨by simp [h1],h2,?_,?_⟩
   ·intro y hy;obtain ⟨k1,k2,e',k3,k4⟩:=h3 y hy;exact ⟨k1,k2,e',k3,by simp [k4]⟩
   ·intro i c' hi;cases i with
    |zero=>simp only [Av,Aa] at hi;subst hi;exact ⟨x,by simp,.inl rfl⟩
    |succ i=>
     obtain ⟨c,k1,k2⟩:=h4 i c' (by simpa using hi);exact ⟨c,by simpa using k1,k2⟩
def NodeNil (lo hi:Nat) (o o':Option Node):Prop:=o'=o\/∃cs cs',o=some (.bx false cs)/\o'=some (.bx false cs')/\cs'.length=cs.length/\∀(i:Nat) c',cs'[i]? =some c'->∃c,cs[i]? =some c/\NilOr lo hi c c'
theorem NodeNil.mono {lo hi lo' hi':Nat} (h1:lo'<=lo) (h2:hi<=hi') {o o':Option Node} (h:NodeNil lo hi o o'):NodeNil lo' hi' o o':=by
 rcases h with h|⟨cs,cs',h3,h4,h5,h6⟩
 ·exact .inl h
 ·exact .inr ⟨cs,cs',h3,h4,h5,λi c' hi=>let ⟨c,k1,k2⟩:=h6 i c' hi;⟨c,k1,k2.mono h1 h2⟩⟩
theorem vld:∀(xs:List (Nat×Option Node)) (b:Nat),b<=(veq b xs).2/\∀y∈(veq b xs).1,(∃o,(y.1,o)∈xs/\NodeNil b (veq b xs).2 o y.2)\/
  (b<=y.1/\y.1<(veq b xs).2/\∃e,y.2=some (.sl false 0 e [])/\∃id cs,(id,some (Node.bx false cs))∈xs/\TV.nl e∈cs)
 | [],b=>by simp [veq]
 |(id,o)::xs,b=>by
  have other:∀(_:∀cs,o≠some (.bx false cs)),veq b ((id,o)::xs)=((id,o)::(veq b xs).1,(veq b xs).2):=by
   intro hx;cases o with
   |none=>rfl
   |some n=>
    cases n with
    |bx z cs=>cases z<;>first|rfl|exact absurd rfl (hx _)
    |sl _ _ _ _=>rfl
  by_cases hx:∃cs,o=some (.bx false cs)
  ·obtain ⟨cs,rfl⟩:=hx;obtain ⟨h1,h2,h3,h4⟩:=vkr cs b;obtain ⟨k1,k2⟩:=vld xs (vdi b cs).2.2;simp only [veq];refine ⟨zo,?_⟩;intro y hy;simp only [A0,Aj,Ao] at hy;rcases hy with rfl|hy|hy
   ·exact .inl ⟨some (.bx false cs),by simp,.inr ⟨cs,_,rfl,rfl,h1,λi c' hi=>let ⟨c,m1,m2⟩:=h4 i c' hi;⟨c,m1,m2.mono (Ak _) k1⟩⟩⟩
   ·obtain ⟨m1,m2,e,m3,m4⟩:=h3 y hy;exact .inr ⟨m1,zo,e,m3,id,cs,by simp,m4⟩
   ·rcases k2 y hy with ⟨o,m1,m2⟩|⟨m1,m2,e,m3,id',cs',m4,m5⟩
    ·exact .inl ⟨o,by simp [m1],m2.mono h2 (Ak _)⟩
    ·exact .inr ⟨zo,m2,e,m3,id',cs',by simp [m4],m5⟩
  ·have hx':∀cs,o≠some (.bx false cs):=λcs hc=>hx ⟨cs,hc⟩;obtain ⟨k1,k2⟩:=vld xs b;rw [other hx'];refine ⟨k1,?_⟩;intro y hy;rcases Aj.1 hy with rfl|hy
   ·exact .inl ⟨o,by simp,.inl rfl⟩
   ·rcases k2 y hy with ⟨o',m1,m2⟩|⟨m1,m2,e,m3,id',cs',m4,m5⟩
    ·exact .inl ⟨o',by simp [m1],m2⟩
    ·exact .inr ⟨m1,m2,e,m3,id',cs',by simp [m4],m5⟩
theorem qad {α:Type}:∀{ks:List Nat} {vs:List α} {t:Nat} {v:α},look (ks.zip vs) t=some v->∃i:Nat,ks[i]? =some t/\vs[i]? =some v
 | [],vs,t,v,h=>by simp [look] at h
 |k::ks,[],t,v,h=>by simp [look] at h
 |k::ks,x::vs,t,v,h=>by
  simp only [List.zip_cons_cons,look] at h;split at h
  ·rename_i hk;cases h;subst hk;exact ⟨0,by simp,by simp⟩
  ·obtain ⟨i,h1,h2⟩:=qad h;exact ⟨i+1,by simpa using h1,by simpa using h2⟩
theorem qou {P:Program} {Z:Zn} {e:Nat} {v:Value} (h:TR P w Z ρ F sh (.nl e) v):∃m,va8 P e=some m:=by
 cases h with
 |nl _ m hm=>exact ⟨m,hm⟩
theorem qa9 (h:G cx U (λ_ _=>False) ρ F st a w) (hq:Qok st) (live:List Nat):
  (∃ρ' F',G cx (λk=>k<(norm1 live st).next) (λ_ _=>False) ρ' F' (norm1 live st) a w)/\Qok (norm1 live st):=by
 let l:=reach st 200 0 (addNew [] (refsL (live.map st.slot)));let slots:=live.map λt=>ren st l (st.slot t);let nodes:=l.zipIdx.map λ(id,k)=>(k,(st.node id).map (renN st l))
 let x:=vdi l.length slots;let y:=veq x.2.2 nodes;have hnd:l.Nodup:=vqs _ _ _ _ (vl9 _ _ (by simp));have hnorm:norm1 live st={slots:=live.zip x.1,nodes:=y.1++x.2.1,next:=y.2}:=rfl;obtain ⟨x1,x2,x3,x4⟩:=vkr slots l.length;obtain ⟨y1,y2⟩:=vld nodes x.2.2;change l.length<=x.2.2 at x2;change x.2.2<=y.2 at y1;have nodes_mem:∀k o,(k,o)∈nodes->∃id,l[k]? =some id/\o=(st.node id).map (renN st l):=by
  intro k o hm;obtain ⟨z,hz,he⟩:=Ap.1 hm;obtain ⟨id,k'⟩:=z;simp only [Ac] at he;obtain ⟨rfl,rfl⟩:=he;exact ⟨id,List.mem_zipIdx_iff_getElem?.1 hz,rfl⟩
 have nl_box:∀id cs (e:Nat),st.node id=some (.bx false cs)->TV.nl e∈cs->∃m,va8 cx.P e=some m:=by
  intro id cs e hn he;obtain ⟨i,hi⟩:=An.1 he;cases h.nodes id _ hn with
  |bx z _ b off cur t hρ hb hsz hne hc hF hz=>
   have hlt:i<cs.length:=(Ae.1 hi).1;exact qou (hc i _ hi _ (At zo))
 have bx_mem:∀k cs,(k,some (Node.bx false cs))∈nodes->∃id cs0,l[k]? =some id/\st.node id=some (.bx false cs0)/\cs=renL st l cs0:=by
  intro k cs hm;obtain ⟨id,h1,h2⟩:=nodes_mem k _ hm;cases hn:st.node id with
  |none=>rw [hn] at h2;cases h2
  |some n=>
   rw [hn] at h2;cases n with
   |sl _ _ _ _=>simp [renN] at h2
   |bx z cs0=>
    simp only [Ai,renN,Aa,Node.bx.injEq] at h2;obtain ⟨rfl,rfl⟩:=h2;exact ⟨id,cs0,h1,hn,rfl⟩
 have newN:∀k n,(norm1 live st).node k=some n->(k<l.length/\∃id n0,l[k]? =some id/\st.node id=some n0/\NodeNil l.length y.2 (some (renN st l n0)) (some n))\/
   (l.length<=k/\k<y.2/\∃e m,n= .sl false 0 e []/\va8 cx.P e=some m):=by
  intro k n hn;rw [hnorm] at hn;simp only [St.node] at hn;cases hl:look (y.1++x.2.1) k with
  |none=>rw [hl] at hn;cases hn
  |some o=>
   rw [hl] at hn;simp only [Al] at hn;subst hn;rcases Ao.1 (vm2 hl) with hm|hm
   ·rcases y2 _ hm with ⟨o,m1,m2⟩|⟨m1,m2,e,m3,id',cs',m4,m5⟩
    ·obtain ⟨id,k1,k2⟩:=nodes_mem _ _ m1;have hkl:k<l.length:=(Ae.1 k1).1;cases hn0:st.node id with
     |none=>
      rw [hn0] at k2;simp only [Option.map_none] at k2;subst k2;rcases m2 with m2|⟨_,_,m2,_⟩<;>cases m2
     |some n0=>
      rw [hn0] at k2;simp only [Ai] at k2;subst k2;exact .inl ⟨hkl,id,n0,k1,hn0,m2.mono x2 (Ak _)⟩
    ·simp only [Aa] at m3;obtain ⟨id,cs0,k1,k2,rfl⟩:=bx_mem _ _ m4;rw [vid,Ap] at m5;obtain ⟨c,k3,k4⟩:=m5;obtain ⟨m,hm⟩:=nl_box id cs0 e k2 (qbe k4▸k3);exact .inr ⟨by simp only at m1;omega,m2,e,m,m3,hm⟩
   ·obtain ⟨m1,m2,e,m3,m4⟩:=x3 _ hm;simp only [Aa] at m3;obtain ⟨t,k1,k2⟩:=Ap.1 m4;have:=h.slots t;rw [qbe k2] at this;obtain ⟨m,hm⟩:=qou this;exact .inr ⟨m1,Ah m2 y1,e,m,m3,hm⟩
 have newS:∀t,(norm1 live st).slot t= .un\/NilOr l.length y.2 (ren st l (st.slot t)) ((norm1 live st).slot t):=by
  intro t;rw [hnorm];simp only [St.slot];cases hl:look (live.zip x.1) t with
  |none=>exact .inl rfl
  |some c'=>
   right;obtain ⟨i,h1,h2⟩:=qad hl;obtain ⟨c,h3,h4⟩:=x4 i c' h2;simp only [slots,Ad,h1,Ai,Aa] at h3;subst h3;exact h4.mono (Ak _) y1
 let ρ':Nat->Value:=λk=>match l[k]? with|some id=>ρ id|none=> .slice none 0 0
 let F':Nat->vaj:=λk=>match l[k]? with|some id=>F id|none=>λ_ _=>False
 have hρ:∀k id,l[k]? =some id->ρ' k=ρ id:=λk id hk=>by simp only [ρ',hk]
 have hF:∀k id,l[k]? =some id->F' k=F id:=λk id hk=>by simp only [F',hk]
 have hρ2:∀k,l.length<=k->ρ' k= .slice none 0 0:=λk hk=>by simp only [ρ',Aw hk]
 have hF2:∀k,l.length<=k->∀b o,¬F' k b o:=λk hk b o=>by simp only [F',Aw hk];exact id
 have hsh:∀k id ver e n,l[k]? =some id->vah (norm1 live st) k=some (ver,e,n)->ver=0/\∃ver0,vah st id=some (ver0,e,n):=by
  intro k id ver e n hk hs;unfold vah at hs;split at hs
  ·rename_i q v' e' es hn;cases hs;rcases newN k _ hn with ⟨_,id',n0,k1,k2,k3⟩|⟨k1,_⟩
   ·rw [hk] at k1;cases k1;cases n0 with
    |bx z cs=>rcases k3 with k3|⟨_,_,_,k3,_⟩<;>simp [renN] at k3
    |sl q0 ver0 e0 es0=>
     rcases k3 with k3|⟨_,_,k3,_⟩
     ·simp only [renN,Aa,Node.sl.injEq] at k3;obtain ⟨rfl,rfl,rfl,rfl⟩:=k3;exact ⟨rfl,ver0,by simp [vah,k2]⟩
     ·simp [renN] at k3
   ·have:=(Ae.1 hk).1;omega
  ·cases hs
 have tr:∀{c:TV} {v:Value},TR cx.P w cx.Z ρ F (vah st) c v->TR cx.P w cx.Z ρ' F' (vah (norm1 live st)) (ren st l c) v:=
  λhc=>qs6 hρ hF (λid ver ver0 e n hcv hs=>by
   unfold curV at hcv;unfold vah at hs;split at hcv
   ·rename_i q v e' es hn;rw [hn] at hs;simp only [Aa,Ac] at hs;rw [<-hs.1];simpa using hcv
   ·cases hcv) (λk id ver e n hk hs=>(hsh k id ver e n hk hs).2) hc
 have trN:∀{c c':TV} {v:Value},TR cx.P w cx.Z ρ F (vah st) c v->NilOr l.length y.2 (ren st l c) c'->TR cx.P w cx.Z ρ' F' (vah (norm1 live st)) c' v:=by
  intro c c' v hc hn;rcases hn with rfl|⟨e,id,h1,rfl,h3,h4⟩
  ·exact tr hc
  ·have:=qbe h1;subst this;cases hc;rw [<-hρ2 id h3];exact .rf id
 have idsN:∀{c c':TV},NilOr l.length y.2 (ren st l c) c'->idsIn (λk=>k<y.2) c':=by
  intro c c' hn;rcases hn with rfl|⟨e,id,h1,rfl,h3,h4⟩
  ·exact vxp zo c
  ·exact h4
 refine ⟨⟨ρ',F',?_⟩,?_⟩
 ·constructor
  case slots=>
   intro t;rcases newS t with hu|hn
   ·rw [hu];exact .un _
   ·exact trN (h.slots t) hn
  case ids=>
   intro t;rcases newS t with hu|hn
   ·rw [hu];trivial
   ·exact idsN hn
  case nodes=>
   intro k n hn;rcases newN k n hn with ⟨_,id,n0,k1,k2,k3⟩|⟨k1,k2,e,m,rfl,hm⟩
   ·cases h.nodes id n0 k2 with
    |bx z cs b off cur t hρ0 hb hsz hne hc hF0 hz=>
     rcases k3 with k3|⟨cs1,cs2,k3,k4,k5,k6⟩
     ·simp only [Aa] at k3;subst k3;simp only [renN];refine .bx z _ b off cur t (by rw [hρ k id k1];exact hρ0) hb (by rw [vid];simpa using hsz) (by rw [vid];simpa using hne) ?_ ?_ ?_
      ·intro i c hi u hu;rw [vid,Ad] at hi;obtain ⟨c0,h1,rfl⟩:=Ab.1 hi;exact tr (hc i c0 h1 u hu)
      ·intro b' o';rw [hF k id k1,vid];simpa using hF0 b' o'
      ·intro hzt i hi;rw [vid] at hi;exact hz hzt i (by simpa using hi)
     ·simp only [renN,Aa,Node.bx.injEq] at k3;obtain ⟨rfl,rfl⟩:=k3;simp only [Aa] at k4;subst k4;rw [vid] at k5 k6;simp only [List.length_map] at k5;refine .bx false _ b off cur t (by rw [hρ k id k1];exact hρ0) hb zo (λhnil=>hne (List.length_eq_zero_iff.1 (by rw [<-k5,hnil];rfl))) ?_ ?_ ?_
      ·intro i c' hi u hu;obtain ⟨c1,m1,m2⟩:=k6 i c' hi;rw [Ad] at m1;obtain ⟨c0,m3,rfl⟩:=Ab.1 m1;exact trN (hc i c0 m3 u hu) m2
      ·intro b' o';rw [hF k id k1,k5];exact hF0 b' o'
      ·intro hzt;cases hzt
    |sl q ver e es hdc=>
     rcases k3 with k3|⟨_,_,k3,_⟩
     ·simp only [Aa] at k3;subst k3;simp only [renN];refine .sl q 0 e es ?_;rw [hρ k id k1,hF k id k1];exact hdc
     ·simp [renN] at k3
   ·refine .sl false 0 e [] ?_;rw [hρ2 k k1];exact .nil e m _ hm (hF2 k k1)
  case used=>
   intro k n hn;rw [hnorm];simp only;rcases newN k n hn with ⟨k0,id,n0,k1,k2,k3⟩|⟨k1,k2,e,m,rfl,hm⟩
   ·refine ⟨zo,?_⟩;rcases k3 with k3|⟨cs1,cs2,k3,k4,k5,k6⟩
    ·simp only [Aa] at k3;subst k3;cases n0 with
     |bx z cs=>exact vm4 zo cs
     |sl q ver e es=>exact .inl rfl
    ·simp only [Aa] at k4;subst k4;cases n0 with
     |sl q ver e es=>simp [renN] at k3
     |bx z cs=>
      simp only [renN,Aa,Node.bx.injEq] at k3;obtain ⟨_,rfl⟩:=k3;refine vdc λc' hc'=> ?_;obtain ⟨i,hi⟩:=An.1 hc';obtain ⟨c1,m1,m2⟩:=k6 i c' hi;rw [vid,Ad] at m1;obtain ⟨c0,m3,rfl⟩:=Ab.1 m1;exact idsN m2
   ·exact ⟨k2,.inl rfl⟩
  case apart=>
   intro i j hij hi hj;obtain ⟨ni,hi⟩:=Ag.1 hi;obtain ⟨nj,hj⟩:=Ag.1 hj;rcases newN i ni hi with ⟨_,id,n0,k1,k2,_⟩|⟨k1,_⟩
   ·rcases newN j nj hj with ⟨_,jd,n1,m1,m2,_⟩|⟨m1,_⟩
    ·rw [hF i id k1,hF j jd m1];refine h.apart id jd ?_ (by rw [k2];rfl) (by rw [m2];rfl)
     rintro rfl
     exact hij ((List.getElem?_inj (Ae.1 k1).1 hnd).1 (k1.trans m1.symm))
    ·intro b o _ hb;exact hF2 j m1 b o hb
   ·intro b o hb;exact absurd hb (hF2 i k1 b o)
  case apartX=>intro i _ b o _ hx;exact hx
  case mine=>
   intro i hi b o hb;obtain ⟨ni,hi⟩:=Ag.1 hi;rcases newN i ni hi with ⟨_,id,n0,k1,k2,_⟩|⟨k1,_⟩
   ·rw [hF i id k1] at hb;exact h.mine id (by rw [k2];rfl) b o hb
   ·exact absurd hb (hF2 i k1 b o)
  case mineX=>intro b o hx;exact hx.elim
  case one=>
   intro k;simp only [ρ'];split
   ·exact h.one _
   ·rfl
  case kept=>exact h.kept
  case zold=>exact h.zold
  case size=>exact h.size
  case small=>exact h.small
  case defers=>exact h.defers
 ·intro k ver e es hn;rcases newN k _ hn with ⟨_,id,n0,k1,k2,k3⟩|⟨k1,k2,e',m,k3,hm⟩
  ·cases n0 with
   |bx z cs=>rcases k3 with k3|⟨_,_,_,k3,_⟩<;>simp [renN] at k3
   |sl q0 ver0 e0 es0=>
    rcases k3 with k3|⟨_,_,k3,_⟩
    ·simp only [renN,Aa,Node.sl.injEq] at k3;obtain ⟨rfl,rfl,rfl,rfl⟩:=k3;exact hq id ver0 e es k2
    ·simp [renN] at k3
  ·simp only [Node.sl.injEq] at k3;obtain ⟨_,_,_,rfl⟩:=k3;trivial
theorem qrg (h:G cx U (λ_ _=>False) ρ F st a w) (hq:Qok st) (live:List Nat):
  (∃ρ' F',G cx (λk=>k<(norm live st).next) (λ_ _=>False) ρ' F' (norm live st) a w)/\Qok (norm live st):=by
 obtain ⟨⟨ρ',F',g1⟩,q1⟩:=qa9 h hq live;rw [qes];split
 ·exact ⟨⟨ρ',F',g1⟩,q1⟩
 ·exact qa9 g1 q1 live
variable {ρ:Nat->Value} {F:Nat->vaj}
def Inv (cx:Cx) (st:St) (a:Act) (w:World):Prop:=(∃U,(∀k,U k->k<st.next)/\Rel cx U st a w)/\Qok st
structure Sub (kp:Bool) (cx cx':Cx):Prop where
 P:cx'.P=cx.P
 n:cx'.n=cx.n
 args:cx'.args=cx.args
 kept:∀w,Kept cx'.w0 w cx'.M0->Kept cx.w0 w cx.M0
 mine:∀b o,(cx'.M0 b o\/cx'.w0.heap.size<=b)->(cx.M0 b o\/cx.w0.heap.size<=b)
 kp:kp=true->cx'=cx
theorem Sub.refl (kp:Bool) (cx:Cx):Sub kp cx cx:=⟨rfl,rfl,rfl,λ_ h=>h,λ_ _ h=>h,λ_=>rfl⟩
theorem Sub.trans {kp:Bool} {c c1 c2:Cx} (h:Sub kp c c1) (h':Sub kp c1 c2):Sub kp c c2:=
 ⟨h'.P.trans h.P,h'.n.trans h.n,h'.args.trans h.args,λw hk=>h.kept w (h'.kept w hk),λb o hm=>h.mine b o (h'.mine b o hm),λhk=>(h'.kp hk).trans (h.kp hk)⟩
def InvX (kp:Bool) (cx:Cx) (st:St) (a:Act) (w:World):Prop:=∃cx',Sub kp cx cx'/\Inv cx' st a w
theorem InvX.of {kp:Bool} (h:Inv cx st a w):InvX kp cx st a w:=⟨cx,.refl kp cx,h⟩
theorem vgb (f:Nat->Option Node):∀(cs:List TV),frzTs f cs=cs.map (frzT f)
 | []=>rfl
 |c::cs=>by simp [frzTs,vgb f cs]
theorem qcn (s:St) (t:Nat):(frzS s).slot t=frzT s.node (s.slot t):=by
 have:∀(l:List (Nat×TV)),(look (frzSl s.node l) t).getD .un=frzT s.node ((look l t).getD .un):=by
  intro l;induction l with
  |nil=>rfl
  |cons x l ih=>
   obtain ⟨j,v⟩:=x;simp only [frzSl,look];split
   ·rfl
   ·exact ih
 exact this s.slots
theorem qb3 (s:St) (id:Nat):(frzS s).node id=frzN s.node (s.node id):=by
 have:∀(l:List (Nat×Option Node)),(look l id≠none->(look (frzNd s.node l) id)=some (frzN s.node (s.node id)))/\(look l id=none->look (frzNd s.node l) id=none):=by
  intro l;induction l with
  |nil=>exact ⟨λh=>absurd rfl h,λ_=>rfl⟩
  |cons x l ih=>
   obtain ⟨j,v⟩:=x;simp only [frzNd,look];by_cases hj:j=id
   ·subst hj;simp
   ·simp only [if_neg hj];exact ih
 have h:=this s.nodes;show (look (frzNd s.node s.nodes) id).getD none=_;by_cases hl:look s.nodes id=none
 ·rw [h.2 hl];have:s.node id=none:=by simp [St.node,hl]
  rw [this];rfl
 ·rw [h.1 hl];rfl
def Frz (st:St) (F:Nat->vaj):vaj:=λb o=>∃i q ver e es,st.node i=some (.sl q ver e es)/\F i b o
def Bxs (st:St) (F:Nat->vaj):vaj:=λb o=>∃i z cs,st.node i=some (.bx z cs)/\F i b o
def frzCx (cx:Cx) (w:World) (st:St) (F:Nat->vaj):Cx:={cx with w0:=w,M0:=Bxs st F,Z:=λe b o=>cx.Z e b o\/Frz st F b o}
theorem qd1 (hG:G cx U (λ_ _=>False) ρ F st a w) {Z':Zn} {F':Nat->vaj} (hz:∀e b o,cx.Z e b o->Z' e b o) (hz2:∀e b o,Frz st F b o->Z' e b o) {sh':va2} {c:TV} {v:Value} (h:TR cx.P w cx.Z ρ F (vah st) c v):TR cx.P w Z' ρ F' sh' (frzT st.node c) v:=by
 induction h with
 |a v=>exact .a v
 |nl e m hm=>exact .nl e m hm
 |rf id=>
  simp only [frzT];split
  ·rename_i q ver e es hn;have hnr:=hG.nodes id _ hn;cases hnr with
   |sl _ _ _ _ h=>exact .sz e es _ (h.read _ (λ_ b o hb=>hz2 _ b o ⟨id,q,ver,e,es,hn,hb⟩) hz)
  ·exact .rf id
 |ri id ver p v h1 h=>exact .un _
 |sb id lo n v h1 h=>exact .un _
 |ad id o b off h=>exact .ad id o b off h
 |ea id i m o v h1 h=>exact .un _
 |ei id ver p i m o v h1 h=>exact .un _
 |sz e es v h=>exact .sz e es v (h.mono (λ_ _ _ cur _ _ hb=>⟨cur,hb,rfl,rfl⟩) hz)
 |ez cs o x hx vs hc=>exact .ez cs o x hx vs λj c hj=>⟨(hc j c hj).1,zle hz _ _ (hc j c hj).2.1,(hc j c hj).2.2.mono (λ_ _ _ cur _ _ hb=>⟨cur,hb,rfl,rfl⟩) hz⟩
 |st cs us hl h ih=>
  simp only [frzT,vgb];refine .st _ us (by simpa using hl) λi c u hi hu=> ?_;rw [Ad] at hi;obtain ⟨c0,h1,rfl⟩:=Ab.1 hi;exact ih i c0 u h1 hu
 |tp cs us hl h ih=>
  simp only [frzT,vgb];refine .tp _ us (by simpa using hl) λi c u hi hu=> ?_;rw [Ad] at hi;obtain ⟨c0,h1,rfl⟩:=Ab.1 hi;exact ih i c0 u h1 hu
 |fn f fs cs xs us hx hl hf h ihf ih=>
  simp only [frzT,vgb];refine .fn f _ _ xs us (by simpa using hx) (by simpa using hl) (λi c u hi hu=> ?_) λi c u hi hu=> ?_
  ·rw [Ad] at hi;obtain ⟨c0,h1,rfl⟩:=Ab.1 hi;exact ihf i c0 u h1 hu
  ·rw [Ad] at hi;obtain ⟨c0,h1,rfl⟩:=Ab.1 hi;exact ih i c0 u h1 hu
 |ic t c u h ih=>exact .ic t _ u ih
 |un v=>exact .un v
theorem qj0 (hG:G cx U (λ_ _=>False) ρ F st a w) {sh':va2} {c:TV} {v:Value} (h:TR cx.P w cx.Z ρ F (vah st) c v):TR cx.P w (frzCx cx w st F).Z ρ F sh' (frzT st.node c) v:=
 qd1 hG (λ_ _ _ h=> .inl h) (λ_ _ _ h=> .inr h) h
mutual
theorem vrm (f:Nat->Option Node) {U:Nat->Prop}:∀(c:TV),idsIn U c->idsIn U (frzT f c)
 | .a _,h=>trivial
 | .nl _,h=>trivial
 | .rf id,h=>by
  simp only [frzT];split
  ·trivial
  ·exact h
 | .ri ..,h=>trivial
 | .sb ..,h=>trivial
 | .ad id _,h=>h
 | .ea ..,h=>trivial
 | .ei ..,h=>trivial
 | .sz _ _,h=>trivial
 | .ez _ _,h=>trivial
 | .st cs,h=>vlr f cs h
 | .tp cs,h=>vlr f cs h
 | .fn _ fs cs,h=>⟨vlr f fs h.1,vlr f cs h.2⟩
 | .ic _ c,h=>vrm f c h
 | .un,h=>trivial
theorem vlr (f:Nat->Option Node) {U:Nat->Prop}:∀(cs:List TV),vap U cs->vap U (frzTs f cs)
 | [],h=>trivial
 |c::cs,h=>⟨vrm f c h.1,vlr f cs h.2⟩
end
theorem vut {s:St} {id:Nat} {n:Node} (h:(frzS s).node id=some n):∃z cs,s.node id=some (.bx z cs)/\n= .bx z (frzTs s.node cs):=by
 rw [qb3] at h;cases hs:s.node id with
 |none=>rw [hs] at h;cases h
 |some m=>
  rw [hs] at h;cases m with
  |bx z cs=>cases h;exact ⟨z,cs,rfl,rfl⟩
  |sl q v e es=>cases h
theorem vr7 {s:St} {id:Nat} (h:((frzS s).node id).isSome=true):(s.node id).isSome=true/\∃z cs,s.node id=some (.bx z cs):=by
 obtain ⟨n,hn⟩:=Ag.1 h;obtain ⟨z,cs,h1,_⟩:=vut hn;exact ⟨by rw [h1];rfl,z,cs,h1⟩
theorem G.frz (h:G cx U (λ_ _=>False) ρ F st a w):G (frzCx cx w st F) U (λ_ _=>False) ρ F (frzS st) a w where
 slots:=λt=>by rw [qcn];exact qj0 h (h.slots t)
 ids:=λt=>by rw [qcn];exact vrm _ _ (h.ids t)
 nodes:=λid n hn=>by
  obtain ⟨z,cs,h1,rfl⟩:=vut hn;have hnr:=h.nodes id _ h1;cases hnr with
  |bx _ _ b off cur t hρ hb hsz hne hc hF hz=>
   refine .bx z _ b off cur t hρ hb (by rw [vgb];simpa using hsz) (by rw [vgb];simpa using hne) (λi c hi u hu=> ?_) (by rw [vgb];simpa using hF) (λe i hi=>(hz e i (by rw [vgb] at hi;simpa using hi)).elim λt ht=>⟨t,.inl ht⟩);rw [vgb,Ad] at hi;obtain ⟨c0,h1,rfl⟩:=Ab.1 hi;exact qj0 h (hc i c0 h1 u hu)
 used:=λid n hn=>by
  obtain ⟨z,cs,h1,rfl⟩:=vut hn;obtain ⟨h2,h3⟩:=h.used id _ h1;exact ⟨h2,vlr _ _ h3⟩
 apart:=λi j hij hi hj=>h.apart i j hij (vr7 hi).1 (vr7 hj).1
 apartX:=λi hi=>h.apartX i (vr7 hi).1
 mine:=λi hi b o hb=>by
  obtain ⟨h1,z,cs,h2⟩:=vr7 hi;refine ⟨λhz=> ?_,.inl ⟨i,z,cs,h2,hb⟩⟩;rcases hz with ⟨t,hz|⟨j,q,ver,e,es,hj,hbj⟩⟩
  ·exact (h.mine i h1 b o hb).1 ⟨t,hz⟩
  ·refine h.apart i j ?_ h1 (by rw [hj];rfl) b o hb hbj
   rintro rfl
   rw [h2] at hj;cases hj
 mineX:=λb o hb=>hb.elim
 one:=h.one
 kept:=Kept.refl _ _
 zold:=λb o hz=>by
  rcases hz with ⟨t,hz|⟨j,q,ver,e,es,hj,hbj⟩⟩
  ·refine ⟨Ah (h.zold b o ⟨t,hz⟩).1 h.kept.size,?_⟩
   rintro ⟨i,z,cs,hi,hb⟩
   exact (h.mine i (by rw [hi];rfl) b o hb).1 ⟨t,hz⟩
  ·refine ⟨h.inside (by rw [hj];rfl) b o hbj,?_⟩
   rintro ⟨i,z,cs,hi,hb⟩
   refine h.apart i j ?_ (by rw [hi];rfl) (by rw [hj];rfl) b o hb hbj
   rintro rfl
   rw [hi] at hj;cases hj
 size:=h.size
 small:=h.small
 defers:=h.defers
theorem InvX.frz (h:InvX false cx st a w):InvX false cx (frzS st) a w:=by
 obtain ⟨cx',hs,⟨U,hU,ρ,F,hG⟩,_⟩:=h;refine ⟨frzCx cx' w st F,hs.trans ⟨rfl,rfl,rfl,λw' hk=> ?_,λb o hm=> ?_,λhk=>by cases hk⟩,⟨U,hU,ρ,F,hG.frz⟩,λid ver e es hn=> ?_⟩
 ·refine hG.kept.trans hk λb o hb hlt=> ?_;obtain ⟨i,z,cs,hi,hbi⟩:=hb;rcases (hG.mine i (by rw [hi];rfl) b o hbi).2 with h|h
  ·exact h
  ·omega
 ·rcases hm with ⟨i,z,cs,hi,hbi⟩|hm
  ·exact (hG.mine i (by rw [hi];rfl) b o hbi).2
  ·exact .inr (Nat.le_trans hG.kept.size hm)
 ·obtain ⟨z,cs,_,h2⟩:=vut hn;cases h2
def Held (st:St) (F:Nat->vaj):vaj:=λb o=>∃i,(st.node i).isSome=true/\F i b o
def roArgs (args tmps:Array Value):Array Value:=((Array.range 20000).map λk=>if k<10000 then args.getD k undef else tmps.getD (k-10000) undef)
def roCx (cx:Cx) (w:World) (st:St) (F:Nat->vaj) (a:Act):Cx:={cx with w0:=w,M0:=λ_ _=>False,Z:=λe b o=>cx.Z e b o\/Held st F b o,args:=roArgs cx.args a.tmps}
theorem qh9 {args tmps:Array Value} {k:Nat} (h:k<10000):(roArgs args tmps).getD k undef=args.getD k undef:=by
 unfold roArgs;rw [Af,Az,Ax];rw [if_pos zo];simp only [Ai,Al,if_pos h]
theorem vy1 {args tmps:Array Value} {t:Nat} (h:t<10000):(roArgs args tmps).getD (10000+t) undef=tmps.getD t undef:=by
 unfold roArgs;rw [Af,Az,Ax];rw [if_pos zo];simp only [Ai,Al];rw [if_neg zo,show 10000+t-10000=t by omega]
theorem qhc (f:Nat->Option Node) (l:List (Nat×TV)) (t:Nat):look (roSl f l) t=if t<20000 then (look l t).map (frzT f) else none:=by
 induction l with
 |nil=>simp [roSl,look]
 |cons x l ih=>
  obtain ⟨j,v⟩:=x;simp only [roSl];by_cases hj:j<20000
  ·rw [if_pos hj];simp only [look];by_cases e:j=t
   ·subst e;simp [hj]
   ·rw [if_neg e,if_neg e];exact ih
  ·rw [if_neg hj,ih];simp only [look];by_cases e:j=t
   ·subst e;simp [hj]
   ·rw [if_neg e]
theorem qjh (s:St) (l:List Nat) (t:Nat):look (roSv s l) t=none\/∃t',t'<10000/\t=20000+t'/\look (roSv s l) t=some (frzT s.node (s.slot t')):=by
 induction l with
 |nil=>exact .inl rfl
 |cons j l ih=>
  simp only [roSv];by_cases hj:j<10000
  ·rw [if_pos hj];simp only [look];by_cases e:20000+j=t
   ·subst e;exact .inr ⟨j,hj,rfl,by simp⟩
   ·rw [if_neg e];exact ih
  ·rw [if_neg hj];exact ih
theorem qdr (l:List Nat) (s:St) (t:Nat):(roS l s).slot t= .un\/(t<20000/\(roS l s).slot t=frzT s.node (s.slot t))\/∃t',t'<10000/\t=20000+t'/\(roS l s).slot t=frzT s.node (s.slot t'):=by
 show (look (roSv s l++roSl s.node s.slots) t).getD .un=_\/_/\(look (roSv s l++roSl s.node s.slots) t).getD .un=_\/_;rw [vd3];rcases qjh s l t with h|⟨t',h1,h2,h3⟩
 ·rw [h,qhc,Option.none_or];by_cases ht:t<20000
  ·rw [if_pos ht];unfold St.slot;cases hl:look s.slots t with
   |none=>left;rfl
   |some v=>right;left;exact ⟨ht,rfl⟩
  ·rw [if_neg ht];left;rfl
 ·right;right;refine ⟨t',h1,h2,?_⟩;show (look (roSv s l++roSl s.node s.slots) t).getD .un=_;rw [vd3,h3];rfl
theorem qq5 (l:List Nat) (s:St) (id:Nat):(roS l s).node id=roN s.node (s.node id):=by
 have:∀(l:List (Nat×Option Node)),(look l id≠none->(look (roNd s.node l) id)=some (roN s.node (s.node id)))/\(look l id=none->look (roNd s.node l) id=none):=by
  intro l;induction l with
  |nil=>exact ⟨λh=>absurd rfl h,λ_=>rfl⟩
  |cons x l ih=>
   obtain ⟨j,v⟩:=x;simp only [roNd,look];by_cases hj:j=id
   ·subst hj;simp
   ·simp only [if_neg hj];exact ih
 have h:=this s.nodes;show (look (roNd s.node s.nodes) id).getD none=_;by_cases hl:look s.nodes id=none
 ·rw [h.2 hl];have:s.node id=none:=by simp [St.node,hl]
  rw [this];rfl
 ·rw [h.1 hl];rfl
theorem qch {l:List Nat} {s:St} {id:Nat} {n:Node} (h:(roS l s).node id=some n):∃z cs,s.node id=some (.bx z cs)/\n= .bx true (frzTs s.node cs):=by
 rw [qq5] at h;cases hs:s.node id with
 |none=>rw [hs] at h;cases h
 |some m=>
  rw [hs] at h;cases m with
  |bx z cs=>cases h;exact ⟨z,cs,rfl,rfl⟩
  |sl q v e es=>cases h
theorem G.ro (h:G cx U (λ_ _=>False) ρ F st a w) (l:List Nat):G (roCx cx w st F a) U (λ_ _=>False) ρ (λ_ _ _=>False) (roS l st) a w:=by
 have hz:∀e b o,cx.Z e b o->(roCx cx w st F a).Z e b o:=λ_ _ _ h=> .inl h;have hz2:∀e b o,Frz st F b o->(roCx cx w st F a).Z e b o:=λ_ b o ⟨i,q,ver,e,es,hn,hb⟩=> .inr ⟨i,by rw [hn];rfl,hb⟩;have htr:∀{sh':va2} {c:TV} {v:Value},TR cx.P w cx.Z ρ F (vah st) c v->TR cx.P w (roCx cx w st F a).Z ρ (λ_ _ _=>False) sh' (frzT st.node c) v:=λhc=>qd1 h hz hz2 hc;constructor
 case slots=>
  intro t;rcases qdr l st t with e|⟨ht,e⟩|⟨t',h1,rfl,e⟩
  ·rw [e];exact .un _
  ·rw [e];have h1:=h.slots t;have e2:(roCx cx w st F a).val a.tmps t=cx.val a.tmps t:=by
    unfold Cx.val;by_cases h2:t<10000
    ·rw [if_pos h2,if_pos h2]
    ·rw [if_neg h2,if_neg h2];exact qh9 zo
   rw [e2];exact htr h1
  ·rw [e];have h2:=vq4 h h1;have e2:(roCx cx w st F a).val a.tmps (20000+t')=a.tmps.getD t' undef:=by
    unfold Cx.val;rw [if_neg zo,show 20000+t'-10000=10000+t' by omega];exact vy1 h1
   rw [e2];exact htr h2
 case ids=>
  intro t;rcases qdr l st t with e|⟨ht,e⟩|⟨t',h1,rfl,e⟩
  ·rw [e];trivial
  ·rw [e];exact vrm _ _ (h.ids t)
  ·rw [e];exact vrm _ _ (h.ids t')
 case nodes=>
  intro id n hn;obtain ⟨z,cs,h1,rfl⟩:=qch hn;have hnr:=h.nodes id _ h1;cases hnr with
  |bx _ _ b off cur t hρ hb hsz hne hc hF hzz=>
   refine .bx true _ b off cur t hρ hb (by rw [vgb];simpa using hsz) (by rw [vgb];simpa using hne) (λi c hi u hu=> ?_) (λb' o'=>⟨False.elim,λh=>by cases h.1⟩) (λ_ i hi=> ?_)
   ·rw [vgb,Ad] at hi;obtain ⟨c0,h1,rfl⟩:=Ab.1 hi;exact htr (hc i c0 h1 u hu)
   ·have hi':i<cs.length:=by rw [vgb] at hi;simpa using hi
    cases z with
    |true=>obtain ⟨t,ht⟩:=hzz rfl i hi';exact ⟨t,.inl ht⟩
    |false=>exact ⟨0,.inr ⟨id,by rw [h1];rfl,(hF _ _).2 ⟨rfl,rfl,zo,zo⟩⟩⟩
 case used=>
  intro id n hn;obtain ⟨z,cs,h1,rfl⟩:=qch hn;obtain ⟨h2,h3⟩:=h.used id _ h1;exact ⟨h2,vlr _ _ h3⟩
 case apart=>exact λi j hij hi hj b o hb=>hb.elim
 case apartX=>exact λi hi b o hb=>hb.elim
 case mine=>exact λi hi b o hb=>hb.elim
 case mineX=>exact λb o hb=>hb.elim
 case one=>exact h.one
 case kept=>exact Kept.refl _ _
 case zold=>
  intro b o hz;refine ⟨?_,λh=>h⟩;rcases hz with ⟨t,hz|⟨i,hi,hb⟩⟩
  ·exact Ah (h.zold b o ⟨t,hz⟩).1 h.kept.size
  ·exact h.inside hi b o hb
 case size=>exact h.size
 case small=>exact h.small
 case defers=>exact h.defers
theorem qhh (s s':St) (l:List Nat) (t:Nat):look (roBs s s' l) t=none\/(t<20000/\look (roBs s s' l) t=some (roB s s' t)):=by
 induction l with
 |nil=>exact .inl rfl
 |cons j l ih=>
  simp only [roBs];by_cases hj:j<20000
  ·rw [if_pos hj];simp only [look];by_cases e:j=t
   ·subst e;exact .inr ⟨hj,by simp⟩
   ·rw [if_neg e];exact ih
  ·rw [if_neg hj];exact ih
theorem G.roOut (h:G cx U (λ_ _=>False) ρ F st a w) {l:List Nat} {U':Nat->Prop} {ρ':Nat->Value} {F':Nat->vaj} {st':St} {a':Act} {w':World}
  (h':G (roCx cx w st F a) U' (λ_ _=>False) ρ' F' st' a' w'):G cx U (λ_ _=>False) ρ F (roBack l st st') a' w':=by
 have hk:Kept w w' (λ_ _=>False):=h'.kept;have hw:=h.world (w':=w') hk (λ_ _ h=>h.elim) (λ_ _ h=>h.elim) (λ_ _ _ _ _ h=>h);have hval:∀t,¬t<10000->cx.val a'.tmps t=cx.val a.tmps t:=λt ht=>by unfold Cx.val;rw [if_neg ht,if_neg ht]
 have key:∀t,roB st st' t= .un\/(∃v,roB st st' t= .a v/\cx.val a'.tmps t=v)\/(roB st st' t=st.slot t/\cx.val a'.tmps t=cx.val a.tmps t):=by
  intro t;unfold roB;by_cases ht:t<10000
  ·rw [if_pos ht];have h1:=h'.slots t;have e1:(roCx cx w st F a).val a'.tmps t=cx.val a'.tmps t:=by unfold Cx.val;rw [if_pos ht,if_pos ht]
   rw [e1] at h1;cases hs:st'.slot t with
   |a v=>
    rw [hs] at h1;right;left;refine ⟨v,rfl,?_⟩;generalize cx.val a'.tmps t=u at h1;cases h1;rfl
   |rf id=>
    rw [hs] at h1;cases hs2:st'.slot (20000+t) with
    |rf j=>
     simp only [roK];by_cases e:j=id
     ·subst e;rw [if_pos rfl];right;right;refine ⟨rfl,?_⟩;have h2:=h'.slots (20000+t);rw [hs2] at h2;have e2:(roCx cx w st F a).val a'.tmps (20000+t)=cx.val a.tmps t:=by
       unfold Cx.val;rw [if_neg zo,if_pos ht,show 20000+t-10000=10000+t by omega];exact vy1 ht
      rw [e2] at h2;generalize cx.val a'.tmps t=u at h1;generalize cx.val a.tmps t=u2 at h2;cases h1;cases h2;rfl
     ·rw [if_neg e];exact .inl rfl
    |_=>exact .inl rfl
   |_=>exact .inl rfl
  ·rw [if_neg ht];exact .inr (.inr ⟨rfl,hval t ht⟩)
 have hslot:∀t,(roBack l st st').slot t= .un\/(roBack l st st').slot t=roB st st' t:=by
  intro t;show (look (roBs st st' l) t).getD .un=_\/(look (roBs st st' l) t).getD .un=_;rcases qhh st st' l t with e|⟨_,e⟩
  ·rw [e];exact .inl rfl
  ·rw [e];exact .inr rfl
 constructor
 case slots=>
  intro t;rcases hslot t with e|e
  ·rw [e];exact .un _
  ·rw [e];rcases key t with e|⟨v,e,e2⟩|⟨e,e2⟩
   ·rw [e];exact .un _
   ·rw [e,e2];exact .a v
   ·rw [e,e2];exact hw.slots t
 case ids=>
  intro t;rcases hslot t with e|e
  ·rw [e];trivial
  ·rw [e];rcases key t with e|⟨v,e,e2⟩|⟨e,e2⟩
   ·rw [e];trivial
   ·rw [e];trivial
   ·rw [e];exact h.ids t
 case nodes=>exact hw.nodes
 case used=>exact hw.used
 case apart=>exact hw.apart
 case apartX=>exact hw.apartX
 case mine=>exact hw.mine
 case mineX=>exact hw.mineX
 case one=>exact hw.one
 case kept=>exact hw.kept
 case zold=>exact hw.zold
 case size=>exact h'.size
 case small=>exact hw.small
 case defers=>exact h'.defers
variable {Φ:Nat->Option Callee}
def Out.exit:Out->Exit
 | .nrm=> .normal
 | .ext id=> .exit id
 | .ret=> .ret
theorem vy0 (live:List Nat) (s:St) (ns:List (Nat×Option Node)) (n t:Nat):(({slots:=keep live s,nodes:=ns,next:=n}:St).slot t=s.slot t)\/(({slots:=keep live s,nodes:=ns,next:=n}:St).slot t= .un):=by
 simp only [St.slot,keep];cases hl:look (live.map λt=>(t,(look s.slots t).getD .un)) t with
 |none=>exact .inr rfl
 |some v=>
  left;obtain ⟨t',h1,h2⟩:=Ap.1 (vm2 hl);cases h2;rfl
theorem G.keep (h:G cx U (λ_ _=>False) ρ F st a w) (live:List Nat) (n:Nat):G cx U (λ_ _=>False) ρ F {slots:=VM.keep live st,nodes:=st.nodes,next:=n} a w where
 slots:=λt=>by
  rcases vy0 live st st.nodes n t with e|e
  ·rw [e];exact h.slots t
  ·rw [e];exact .un _
 ids:=λt=>by
  rcases vy0 live st st.nodes n t with e|e
  ·rw [e];exact h.ids t
  ·rw [e];trivial
 nodes:=h.nodes
 used:=h.used
 apart:=h.apart
 apartX:=h.apartX
 mine:=h.mine
 mineX:=h.mineX
 one:=h.one
 kept:=h.kept
 zold:=h.zold
 size:=h.size
 small:=h.small
 defers:=h.defers
theorem qfw {p:Nat->Prop} (h:∃n,p n):∃n,p n/\∀m,p m->n<=m:=by
 classical
 obtain ⟨n,hn⟩:=h;induction n using Nat.strongRecOn with
 |_ n ih=>
  by_cases hx:∃m,m<n/\p m
  ·obtain ⟨m,h1,h2⟩:=hx;exact ih m h1 h2
  ·exact ⟨n,hn,λm hm=>Nat.le_of_not_lt λhlt=>hx ⟨m,hlt,hm⟩⟩
theorem qb6 {P:Program} {Q:Exit->Act->World->Prop} {a:Act} {w:World} {c:Code} (I:Nat->Act->World->Prop) (h0:∃n,I n a w)
  (round:∀n a w,I n a w->c.wp P (Exit.then (λa' w'=>∃m,m<n/\I m a' w') Q) a w):(Code.loop c).wp P Q a w:=by
 classical
 refine wp_loop (λa w=>∃n,I n a w) (λa w=>if h:∃n,I n a w then Classical.choose (qfw h) else 0) h0 λa w hI=> ?_;have hI':=Classical.choose_spec (qfw hI);refine wp_mono (round _ a w hI'.1) λe a' w' hq=> ?_;cases e<;>simp only [Exit.then] at hq⊢<;>try exact hq
 obtain ⟨m,hm,h2⟩:=hq;refine ⟨⟨m,h2⟩,?_⟩;rw [dif_pos hI,dif_pos (⟨m,h2⟩:∃n,I n a' w')];exact Nat.lt_of_le_of_lt ((Classical.choose_spec (qfw ⟨m,h2⟩)).2 m h2) hm
theorem vwp {N n:Nat} {x y:VC} {r:Out×St} (h:run Φ N (.cond (.t n) x y) st=some r):∃t,st.slot n= .a (.bool t)/\(if t=true then run Φ N x st else run Φ N y st)=some r:=by
 cases hs:st.slot n with
 |a v=>
  cases v with
  |bool t=>exact ⟨t,rfl,by simpa [run,hs] using h⟩
  |_=>simp [run,hs] at h
 |_=>simp [run,hs] at h
theorem vxf {N:Nat} {v:Value} {x y:VC} {r:Out×St} (h:run Φ N (.cond (.c v) x y) st=some r):∃t,v= .bool t/\(if t=true then run Φ N x st else run Φ N y st)=some r:=by
 cases v with
 |bool t=>exact ⟨t,rfl,by simpa [run] using h⟩
 |_=>simp [run] at h
theorem qhi {P:Program} {n:Nat} {writes:Nat->Bool} (hΦ:Good cx.P writes Φ) (hm:cx.P.follows .mixedOrders=true) {N:Nat} {ops:Array Oper} {draw:Bool} {id:Nat} {vs:List VOper} {l:List Nat}
  (hvs:cOpers P ops ops.toList=some vs)
  (hcond:(vs.all (λv=>v.op.dst.all (·<n)&&v.dst.all (·<n))&&(!draw||(backOk ops&&psOk vs (vfj writes (Region.before ops).toList vs))))=true) (hP:cx.P=P) (hn:cx.n=n)
  (hU:∀k,U k->k<st.next) (hrel:Rel cx U st a w) (hq:Qok st) {out:Out} {st':St} {Q:Exit->Act->World->Prop}
  (hr:run Φ N (regOf vs l (if draw then vfj writes (Region.before ops).toList vs else [])) st=some (out,st'))
  (hQ:∀a w U',(∀k,U' k->k<st'.next)->Rel cx U' st' a w->Qok st'->st.next<=st'.next->Q out.exit a w):(Code.region id ops draw).wp P Q a w:=by
 subst hP hn;simp only [Am,List.all_eq_true,Bool.or_eq_true,Bool.not_eq_true',Option.all_eq_true,decide_eq_true_eq] at hcond;obtain ⟨h1,h2⟩:=hcond;have key:∀s1,execs Φ st.next vs st=some s1->(draw=true->∃J:St->Prop,J st/\Draws Φ (vfj writes (Region.before ops).toList vs) vs st.next J)->out= .nrm->st'={slots:=VM.keep l s1,nodes:=s1.nodes,next:=st.next+100 * vs.length}->(Code.region id ops draw).wp cx.P Q a w:=by
  rintro s1 hx hJ rfl rfl
  refine qiy (cx:=cx) hΦ hm ⟨hvs,h1⟩ (λhd=>⟨(h2.resolve_left (by rw [hd];simp)).1,(h2.resolve_left (by rw [hd];simp)).2,hJ hd⟩) hx hrel hq hU ?_;intro s'' a' w' U' hs hU' hrel' hq';refine hQ a' w' U' hU' ?_ (λid ver e es hn=>(hq'.same hs) id ver e es hn) (Nat.le_add_right _ _);obtain ⟨ρ',F',hG⟩:=hrel';exact ⟨ρ',F',(hG.same hs).keep l _⟩
 cases hps:(if draw=true then vfj writes (Region.before ops).toList vs else []) with
 |nil=>
  rw [hps] at hr;simp only [regOf,run] at hr;split at hr
  ·rename_i s1 hx;simp only [Aa,Ac] at hr;refine key s1 hx (λhd=> ?_) hr.1.symm hr.2.symm;rw [if_pos hd] at hps;rw [hps];exact ⟨λ_=>True,trivial,λ_ _ _ _ _ _ _ _ _=>trivial,λi j hp=>by cases hp⟩
  ·cases hr
 |cons p ps=>
  rw [hps] at hr;simp only [regOf,run] at hr;split at hr
  ·rename_i hok;split at hr
   ·rename_i s1 hx;simp only [Aa,Ac] at hr;refine key s1 hx (λhd=> ?_) hr.1.symm hr.2.symm;rw [if_pos hd] at hps;rw [hps];exact qjy hok
   ·cases hr
  ·cases hr
theorem zfa (l:List Nat) (st:St):Qok (roS l st):=λid ver e es hn=>by
 obtain ⟨z,cs,_,h2⟩:=qch hn;cases h2
theorem qpl {kp:Bool} {writes:Nat->Bool} (hΦ:Good cx.P writes Φ) (hm:cx.P.follows .mixedOrders=true) (N:Nat):∀(c:Code) (h h':List (List Nat)) (vc:VC),comp cx.P cx.n writes c h=some (vc,h')->(kp=true->hasFrz vc=false)->
  ∀(st:St) (a:Act) (w:World) (out:Out) (st':St) (Q:Exit->Act->World->Prop),InvX kp cx st a w->run Φ N vc st=some (out,st')->(∀a w,InvX kp cx st' a w->Q out.exit a w)->c.wp cx.P Q a w:=by
 intro c;induction c with
 |skip=>
  intro h h' vc hc hz st a w out st' Q hI hr hQ;simp only [comp,Aa,Ac] at hc;obtain ⟨rfl,_⟩:=hc;simp only [run,Aa,Ac] at hr;obtain ⟨rfl,rfl⟩:=hr;exact wp_skip (hQ a w hI)
 |region id ops draw=>
  intro h h' vc hc hz st a w out st' Q hI hr hQ;cases h with
  |nil=>simp [comp] at hc
  |cons l h=>
   simp only [comp] at hc;split at hc
   ·rename_i vs hvs;split at hc
    ·rename_i hcond;simp only [Aa,Ac] at hc;obtain ⟨rfl,_⟩:=hc;obtain ⟨cx1,hs1,⟨U,hU,ρ,F,hG⟩,hq⟩:=hI;have hP:=hs1.P;have hn:=hs1.n;unfold mkReg at hr;split at hr
     ·rename_i l';simp only [run] at hr;split at hr
      ·rename_i s2 hr2;simp only [Aa,Ac] at hr;obtain ⟨rfl,rfl⟩:=hr;refine qhi (cx:=roCx cx1 w st F a) (st:=roS l' st) (by show Good cx1.P _ _;rw [hP];exact hΦ) (by show cx1.P.follows _=true;rw [hP];exact hm) hvs hcond hP hn hU ⟨ρ,_,hG.ro l'⟩ (zfa l' st) hr2 ?_;intro a' w' U' hU' ⟨ρ',F',hG'⟩ hq' hnx;refine hQ a' w' ⟨cx1,hs1,⟨U,λk hk=> ?_,ρ,F,hG.roOut hG'⟩,λid ver e es hn=>hq id ver e es hn⟩;exact Ah (hU k hk) hnx
      ·cases hr
     ·refine qhi (cx:=cx1) (by rw [hP];exact hΦ) (by rw [hP];exact hm) hvs hcond hP hn hU ⟨ρ,F,hG⟩ hq hr ?_;intro a' w' U' hU' hrel' hq' _;exact hQ a' w' ⟨cx1,hs1,⟨U',hU',hrel'⟩,hq'⟩
    ·cases hc
   ·cases hc
 |seq x y ihx ihy=>
  intro h h' vc hc hz st a w out st' Q hI hr hQ;simp only [comp] at hc;split at hc
  ·rename_i vx h1 hx;split at hc
   ·rename_i vy h2 hy;simp only [Aa,Ac] at hc;obtain ⟨rfl,_⟩:=hc;simp only [run] at hr;have hzx:kp=true->hasFrz vx=false:=λhk=>by
     have:=hz hk;simp only [hasFrz,Aq] at this;exact this.1
    have hzy:kp=true->frzHead h1=false/\hasFrz vy=false:=λhk=>by
     have:=hz hk;simp only [hasFrz,Aq] at this;have h2:=this.2;split at h2
     ·cases h2
     ·rename_i hf;exact ⟨by simpa using hf,h2⟩
    split at hr
    ·rename_i s1 hr1;refine wp_seq (ihx h h1 vx hx hzx st a w .nrm s1 _ hI hr1 λa' w' hI'=> ?_);by_cases hf:frzHead h1=true
     ·rw [if_pos hf] at hr hy;simp only [run] at hr;cases kp with
      |true=>rw [(hzy rfl).1] at hf;cases hf
      |false=>exact ihy _ h2 vy hy (λhk=>by cases hk) _ a' w' out st' Q hI'.frz hr hQ
     ·rw [if_neg hf] at hr hy;exact ihy _ h2 vy hy (λhk=>(hzy hk).2) s1 a' w' out st' Q hI' hr hQ
    ·rename_i hne;refine wp_seq (ihx h h1 vx hx hzx st a w out st' _ hI hr λa' w' hI'=> ?_);have:=hQ a' w' hI';cases out with
     |nrm=>exact (hne st' hr).elim
     |ext id=>exact this
     |ret=>exact this
   ·cases hc
  ·cases hc
 |cond c x y ihx ihy=>
  intro h h' vc hc hz st a w out st' Q hI hr hQ;simp only [comp] at hc;split at hc
  ·rename_i c' hcc;split at hc
   ·rename_i vx h1 hx;split at hc
    ·rename_i vy h2 hy;simp only [Aa,Ac] at hc;obtain ⟨rfl,_⟩:=hc;have hz1:kp=true->hasFrz vx=false/\hasFrz vy=false:=λhk=>by
      have:=hz hk;simpa only [hasFrz,Aq] using this
     have key:∀t,a.eval c= .bool t->(if t then run Φ N vx st else run Φ N vy st)=some (out,st')->(Code.cond c x y).wp cx.P Q a w:=by
      intro t ht hr;refine wp_cond ht ?_;cases t with
      |true=>exact ihx h h1 vx hx (λhk=>(hz1 hk).1) st a w out st' Q hI hr hQ
      |false=>exact ihy h1 h2 vy hy (λhk=>(hz1 hk).2) st a w out st' Q hI hr hQ
     obtain ⟨⟨P1,w1,M1,Z1,n1,as1⟩,hs1,⟨U,hU,ρ,F,hG⟩,hq⟩:=id hI;obtain rfl:P1=cx.P:=hs1.P;obtain rfl:n1=cx.n:=hs1.n;cases c' with
     |t n=>
      obtain ⟨t,hs,hr⟩:=vwp hr;have hcn:c= .tmp n/\n<10000:=by
       unfold cOpd at hcc;split at hcc
       ·split at hcc
        ·cases hcc;exact ⟨rfl,by assumption⟩
        ·cases hcc
       ·cases hcc
       ·cases hcc
       ·split at hcc
        ·split at hcc<;>cases hcc
        ·cases hcc
       ·split at hcc<;>cases hcc
      obtain ⟨rfl,hn⟩:=hcn;exact key t (qcd hn hG hs) hr
     |c v=>
      obtain ⟨t,rfl,hr⟩:=vxf hr;have hcv:c= .const (.bool t):=by
       unfold cOpd at hcc;split at hcc
       ·split at hcc<;>cases hcc
       ·cases hcc
       ·cases hcc
       ·split at hcc
        ·split at hcc<;>cases hcc
        ·cases hcc
       ·split at hcc<;>cases hcc
        rfl
      subst hcv;exact key t rfl hr
     |nl e=>simp [run] at hr
     |f g=>simp [run] at hr
    ·cases hc
   ·cases hc
  ·cases hc
 |block id b ih=>
  intro h h' vc hc hz st a w out st' Q hI hr hQ;simp only [comp] at hc;split at hc
  ·rename_i vx h1 hx;simp only [Aa,Ac] at hc;obtain ⟨rfl,_⟩:=hc;simp only [run] at hr;split at hr
   ·rename_i j s1 hr1;split at hr
    ·rename_i hj;simp only [Aa,Ac] at hr;obtain ⟨rfl,rfl⟩:=hr;refine wp_block (ih h h1 vx hx hz st a w (.ext j) s1 _ hI hr1 λa' w' hI'=> ?_);simp only [Out.exit,Exit.inBlock,hj,if_true];exact hQ a' w' hI'
    ·rename_i hj;simp only [Aa,Ac] at hr;obtain ⟨rfl,rfl⟩:=hr;refine wp_block (ih h h1 vx hx hz st a w (.ext j) s1 _ hI hr1 λa' w' hI'=> ?_);simp only [Out.exit,Exit.inBlock,hj,if_false];exact hQ a' w' hI'
   ·rename_i hne;refine wp_block (ih h h1 vx hx hz st a w out st' _ hI hr λa' w' hI'=> ?_);have:=hQ a' w' hI';cases out with
    |nrm=>exact this
    |ext id=>exact (hne id st' hr).elim
    |ret=>exact this
  ·cases hc
 |loop b ih=>
  intro h h' vc hc hz st a w out st' Q hI hr hQ;cases h with
  |nil=>simp [comp] at hc
  |cons l h=>
   simp only [comp] at hc;split at hc
   ·rename_i vx h1 hx;simp only [Aa,Ac] at hc;obtain ⟨rfl,_⟩:=hc;simp only [run] at hr;refine qb6 (λn a w=>∃s,InvX kp cx s a w/\rounds (run Φ N vx) l n s=some (out,st')) ⟨N,st,hI,hr⟩ ?_
    rintro n a w ⟨s,hI,hr⟩
    cases n with
    |zero=>simp [rounds] at hr
    |succ n=>
     simp only [rounds] at hr;have hIn:InvX kp cx (norm l s) a w:=by
      obtain ⟨cx',hs',⟨U,hU,ρ,F,hG⟩,hq⟩:=hI;obtain ⟨⟨ρ',F',h1⟩,h2⟩:=qrg hG hq l;exact ⟨cx',hs',⟨_,λk hk=>hk,ρ',F',h1⟩,h2⟩
     split at hr
     ·rename_i s1 hr1;exact ih h h1 vx hx hz _ a w .nrm s1 _ hIn hr1 λa' w' hI'=>⟨n,Nat.lt_succ_self n,s1,hI',hr⟩
     ·rename_i hne;refine ih h h1 vx hx hz _ a w out st' _ hIn hr λa' w' hI'=> ?_;have:=hQ a' w' hI';cases out with
      |nrm=>exact (hne st' hr).elim
      |ext id=>exact this
      |ret=>exact this
   ·cases hc
 |exit id=>
  intro h h' vc hc hz st a w out st' Q hI hr hQ;simp only [comp,Aa,Ac] at hc;obtain ⟨rfl,_⟩:=hc;simp only [run,Aa,Ac] at hr;obtain ⟨rfl,rfl⟩:=hr;exact wp_exit (hQ a w hI)
 |ret=>
  intro h h' vc hc hz st a w out st' Q hI hr hQ;simp only [comp,Aa,Ac] at hc;obtain ⟨rfl,_⟩:=hc;simp only [run,Aa,Ac] at hr;obtain ⟨rfl,rfl⟩:=hr;exact wp_ret (hQ a w hI)
 |_=>
  intros
  rename_i hc _ _ _ _ _ _ _ _ _ _;simp [comp] at hc
theorem qa1 {kp:Bool} {writes:Nat->Bool} (hΦ:Good cx.P writes Φ) (hm:cx.P.follows .mixedOrders=true) (N:Nat) (c:Code) (h h':List (List Nat)) (vc:VC) (hc:comp cx.P cx.n writes c h=some (vc,h')) (hz:kp=true->hasFrz vc=false)
  (st:St) (a:Act) (w:World) (out:Out) (st':St) (Q:Exit->Act->World->Prop) (hI:Inv cx st a w) (hr:run Φ N vc st=some (out,st')) (hQ:∀a w,InvX kp cx st' a w->Q out.exit a w):c.wp cx.P Q a w:=
 qpl hΦ hm N c h h' vc hc hz st a w out st' Q (InvX.of hI) hr hQ
variable {X:vaj} {sh:va2} {V:Nat}
mutual
def cown:CV->Prop
 | .a _=>True
 | .sl z _ es=>z=false/\vcp es
 | .bx z cs=>z=false/\cownL cs
 | .st cs=>cownL cs
 | .tp cs=>cownL cs
 | .fn _ fs cs=>cownL fs/\cownL cs
 | .ic _ c=>cown c
 | .un=>True
def cownL:List CV->Prop
 | []=>True
 |c::cs=>cown c/\cownL cs
end
mutual
theorem cown.nofz:∀{c:CV},cown c->vbl c
 | .a _,_=>by simp only [vbl]
 | .sl z _ es,h=>by simp only [cown] at h;simp only [vbl];exact λ_=>h.2
 | .bx z cs,h=>by simp only [cown] at h;simp only [vbl];exact cownL.nofz h.2
 | .st cs,h=>by simp only [cown] at h;simp only [vbl];exact cownL.nofz h
 | .tp cs,h=>by simp only [cown] at h;simp only [vbl];exact cownL.nofz h
 | .fn _ fs cs,h=>by simp only [cown] at h;simp only [vbl];exact ⟨cownL.nofz h.1,cownL.nofz h.2⟩
 | .ic _ c,h=>by simp only [cown] at h;simp only [vbl];exact cown.nofz h
 | .un,_=>by simp only [vbl]
theorem cownL.nofz:∀{cs:List CV},cownL cs->va1 cs
 | [],_=>by simp only [va1]
 |c::cs,h=>by simp only [cownL] at h;simp only [va1];exact ⟨cown.nofz h.1,cownL.nofz h.2⟩
end
theorem DC.noz {P:Program} {Z Z':Zn} {c:PV} {v:Value} {G:vaj} (h:DC P w Z c v G):nofz c->DC P w Z' c v G:=by
 induction h with
 |a v F h hF=>exact λ_=> .a v F h hF
 |un v F h hF=>exact λ_=> .un v F h hF
 |fz e es v F h hF=>intro hn;simp [nofz] at hn
 |nil e m F hm hF=>exact λ_=> .nil e m F hm hF
 |sl e es g off len cap m fr cur vs Fk F hl hm hw hg hfr hlc hcm hsz hc hr hF hd hd0 ih=>
  intro hn;simp only [nofz] at hn;refine .sl e es g off len cap m fr cur vs Fk F hl hm hw hg hfr hlc hcm hsz hc (λk c hk=>ih k c hk ?_) hF hd hd0;obtain ⟨y,hy,hcy⟩:=List.mem_flatMap.1 (List.mem_of_getElem? hk);exact voc ((vb2).1 hn y hy) c hcy
mutual
theorem CR.noz {P:Program} {Z Z':Zn}:∀{c:CV} {v:Value} {G:vaj},CR P w Z c v G->cown c->CR P w Z' c v G
 | .a u,v,G,h,_=>by simp only [CR] at h⊢;exact h
 | .sl z e es,v,G,h,ho=>by
  simp only [cown] at ho;obtain ⟨rfl,ho⟩:=ho;simp only [CR,Ar,if_false] at h⊢;exact h.noz (by simp only [nofz];exact ho)
 | .bx z cs,v,G,h,ho=>by
  simp only [cown] at ho;obtain ⟨rfl,ho⟩:=ho;unfold CR at h⊢;obtain ⟨b,off,cur,t,Fc,h1,h2,h3,h4,h5,h6,h7,h8⟩:=h;exact ⟨b,off,cur,t,Fc,h1,h2,h3,h4,CRL.noz h5 ho,λhz=>(by cases hz),h7,h8⟩
 | .st cs,v,G,h,ho=>by
  simp only [cown] at ho;simp only [CR] at h⊢;obtain ⟨us,h1,h2⟩:=h;exact ⟨us,h1,CRL.noz h2 ho⟩
 | .tp cs,v,G,h,ho=>by
  simp only [cown] at ho;simp only [CR] at h⊢;obtain ⟨us,h1,h2⟩:=h;exact ⟨us,h1,CRL.noz h2 ho⟩
 | .fn f fs cs,v,G,h,ho=>by
  simp only [cown] at ho;simp only [CR] at h⊢;obtain ⟨xs,us,F1,F2,h1,h2,h3,h4,h5⟩:=h;exact ⟨xs,us,F1,F2,h1,CRL.noz h2 ho.1,CRL.noz h3 ho.2,h4,h5⟩
 | .ic t c,v,G,h,ho=>by
  simp only [cown] at ho;simp only [CR] at h⊢;obtain ⟨u,h1,h2⟩:=h;exact ⟨u,h1,CR.noz h2 ho⟩
 | .un,v,G,h,_=>by simp only [CR] at h⊢;exact h
theorem CRL.noz {P:Program} {Z Z':Zn}:∀{cs:List CV} {vs:List Value} {G:vaj},CRL P w Z cs vs G->cownL cs->CRL P w Z' cs vs G
 | [],vs,G,h,_=>by simp only [CRL] at h⊢;exact h
 |c::cs,vs,G,h,ho=>by
  simp only [cownL] at ho;simp only [CRL] at h⊢;obtain ⟨v,vs',F1,F2,h1,h2,h3,h4,h5⟩:=h;exact ⟨v,vs',F1,F2,h1,CR.noz h2 ho.1,CRL.noz h3 ho.2,h4,h5⟩
end
theorem vpx:∀{cs ds:List CV},cownL cs->cownL ds->cownL (cs++ds)
 | [],ds,_,h=>h
 |c::cs,ds,h,h'=>by
  simp only [cownL,A0] at h⊢;exact ⟨h.1,vpx h.2 h'⟩
mutual
theorem qbn:∀(k:Nat) (x:TV),Qm (pack false k x) cown
 |0,x=>by unfold pack;exact Qm.fail
 |k+1,x=>by
  unfold pack;split
  ·exact Qm.pure (by simp [cown])
  ·exact Qm.pure (by simp [cown,vcp])
  ·exact Qm.fail
  ·exact (vra k _).bind λys h=>Qm.pure (by simp only [cown];exact h)
  ·exact (vra k _).bind λxs h=>(vra k _).bind λys h'=>Qm.pure (by simp only [cown];exact ⟨h,h'⟩)
  ·exact (qbn k _).bind λy h=>Qm.pure (by simp only [cown];exact h)
  ·refine (Qm.getN _).bind λn hn=> ?_;split
   ·rename_i q ver e es;cases q with
    |true=>
     cases hf:nfzL es with
     |false=>simp only [badFz,hf,A2,Bool.and_self,if_true];exact Qm.fail
     |true=>
      simp only [badFz,hf,Bool.not_true,Bool.and_false,Ar,if_false];exact Qt.bind (Qm.setN _ _ λ_ _ _ h=>by cases h) λ_=>Qm.pure (by simp only [cown];exact ⟨trivial,vo1 hf⟩)
    |false=>exact Qt.bind (Qm.setN _ _ λ_ _ _ h=>by cases h) λ_=>Qm.pure (by simp only [cown];exact ⟨trivial,hn _ _ _ rfl⟩)
   ·split
    ·exact Qm.fail
    ·exact Qt.bind (Qm.setN _ _ λ_ _ _ h=>by cases h) λ_=>(vra k _).bind λys h=>Qm.pure (by simp only [cown];exact ⟨trivial,h⟩)
   ·exact Qm.pure (by simp [cown])
  ·exact Qm.pure (by simp [cown])
  ·refine (Qm.getN _).bind λn hn=> ?_;split
   ·rename_i q ver e es;cases q with
    |true=>simp only [A4,A2,true_or,if_true];exact Qm.fail
    |false=>
     split
     ·exact Qm.fail
     ·exact Qt.bind (Qm.setN _ _ λ_ _ _ h=>by cases h) λ_=>Qm.pure (by simp only [cown];exact ⟨trivial,vyt (λx hx=>List.mem_of_mem_drop (List.mem_of_mem_take hx)) (hn _ _ _ rfl)⟩)
   ·exact Qm.fail
  ·exact Qm.fail
theorem vra:∀(k:Nat) (xs:List TV),Qm (vck false k xs) cownL
 |0,xs=>by unfold vck;exact Qm.fail
 |k+1,[]=>by unfold vck;exact Qm.pure (by simp [cownL])
 |k+1,x::xs=>by
  unfold vck;exact (qbn k x).bind λy h=>(vra k xs).bind λys h'=>Qm.pure (by simp only [cownL];exact ⟨h,h'⟩)
end
theorem vnp:∀(xs:List TV),Qm (packAll false xs) cownL
 | []=>by unfold packAll;exact Qm.pure (by simp [cownL])
 |x::xs=>by
  unfold packAll;exact (qbn depth x).bind λy h=>(vnp xs).bind λys h'=>Qm.pure (by simp only [cownL];exact ⟨h,h'⟩)
theorem vr5 {fz:Bool}:∀{X:vaj} {st:St} {sh:va2} {xs:List TV} {vs:List Value} {ys:List CV} {st':St},GS cx U X ρ F st sh V a w->TRL cx.P w cx.Z ρ F sh xs vs->vap U xs->(packAll fz xs).run st=some (ys,st')->
  ∃Fc sh',CRL cx.P w cx.Z ys vs Fc/\GS cx U (λb o=>X b o\/Fc b o) ρ F st' sh' V a w/\Apart Fc X/\Away U V sh sh' st st'
 |X,st,sh,[],vs,ys,st',h,hx,hi,hr=>by
  cases hx;simp only [packAll] at hr;cases run_pure hr;exact ⟨Nil,sh,voi,h.less λ_ _ hx=>hx.elim (λh=>h) λh=>h.elim,λ_ _ h=>h.elim,.refl _ _ _ _⟩
 |X,st,sh,x::xs,vs,ys,st',h,hx,hi,hr=>by
  cases hx with
  | @cons c v cs vs h1 hs=>
   simp only [packAll] at hr;obtain ⟨y,s1,k1,k2⟩:=vaa hr;obtain ⟨ys',s2,h3,h4⟩:=vaa k2;cases run_pure h4;obtain ⟨F1,sh1,k1,k2,k3,k4,k5⟩:=vup depth h h1 hi.1 k1;have hs':TRL cx.P w cx.Z ρ F sh1 xs vs:= .of hs.length λi c u k1 k2=>(hs.get i c u k1 k2).shape (vbm hi.2 k1) k4.shape;obtain ⟨F2,sh2,l1,l2,l3,l4⟩:=vr5 k2 hs' hi.2 h3;refine ⟨λb o=>F1 b o\/F2 b o,sh2,?_,l2.less λb o hx=>hx.elim (λh=> .inl (.inl h)) λh=>h.elim (λh=> .inl (.inr h)) .inr,?_,k4.trans l4⟩
   ·simp only [CRL];exact ⟨v,vs,F1,F2,rfl,k1,l1,λb o h1 h2=>l3 b o h2 (.inr h1),λ_ _=>Iff.rfl⟩
   ·rintro b o (hf|hf) hx
    ·exact k3 b o hf hx
    ·exact l3 b o hf (.inl hx)
def resStep (tmps:Array Value):ResultVar->Sem Value
 | .tmp t=>pure (tmps.getD t undef)
 | .cell a t=>do loadVar t (<-asAddr (tmps.getD a undef))
theorem qcx {P:Program} {t:TypeId} {v u:Value} {w w':World} (h:(Instr.loadAt t v).run P w= .ok u w'):(do loadVar t (<-asAddr v):Sem Value).run P w= .ok u w':=by
 unfold Instr.loadAt at h;unfold asAddr;unfold Instr.sureAddr at h;split at h
 ·exact h
 all_goals (simp only [Sem.run_bind] at h;cases h)
theorem vto (h:G cx U X ρ F st a w):∀{rs:List ResultVar} {rv:List RV} {ts:List TV} {s1:St},cRes cx.P rs=some rv->(∀r∈rs,∀t,(r= .tmp t\/∃x,r= .cell t x)->t<10000)->(resTVs rv).run st=some (ts,s1)->
  s1=st/\∃vs,TRL cx.P w cx.Z ρ F (vah st) ts vs/\vap U ts/\(rs.mapM (resStep a.tmps)).run cx.P w= .ok vs w
 | [],rv,ts,s1,hc,hlt,hr=>by
  simp only [cRes,Aa] at hc;subst hc;simp only [resTVs] at hr;cases run_pure hr;exact ⟨rfl,[],.nil,trivial,by simp [Sem.run_pure]⟩
 | .tmp t::rs,rv,ts,s1,hc,hlt,hr=>by
  simp only [cRes] at hc;obtain ⟨rv',h1,rfl⟩:=Ab.1 hc;simp only [resTVs] at hr;obtain ⟨c,s2,h2,h3⟩:=vaa hr;cases vjy h2;obtain ⟨cs,s3,h4,h5⟩:=vaa h3;cases run_pure h5;obtain ⟨rfl,vs,h6,h7,h8⟩:=vto h h1 (λr hr=>hlt r (by simp [hr])) h4;refine ⟨rfl,_::vs,.cons (vq4 h (hlt _ (by simp) t (.inl rfl))) h6,⟨h.ids t,h7⟩,?_⟩;simp only [A3,resStep,Sem.run_bind,Sem.run_pure,Result.andThen_ok,h8]
 | .cell x t::rs,rv,ts,s1,hc,hlt,hr=>by
  simp only [cRes] at hc;split at hc
  ·rename_i wd rv' hw h1;cases hc;simp only [resTVs] at hr;obtain ⟨c,s2,h2,h3⟩:=vaa hr;cases vjy h2;obtain ⟨c',s3,h4,h5⟩:=vaa h3;obtain ⟨e1,u,k1,k2,k3⟩:=vxk h hw (vq4 h (hlt _ (by simp) x (.inr ⟨t,rfl⟩))) (h.ids x) h4;have e1:=e1.symm;subst e1;obtain ⟨cs,s4,h6,h7⟩:=vaa h5;cases run_pure h7;obtain ⟨rfl,vs,h8,h9,h10⟩:=vto h h1 (λr hr=>hlt r (by simp [hr])) h6;refine ⟨rfl,u::vs,.cons k2 h8,⟨k3,h9⟩,?_⟩;rw [A3];have:=qcx k1;simp only [resStep,Sem.run_bind,Sem.run_pure] at this⊢;rw [this];simp only [Result.andThen_ok,h10]
  ·cases hc
theorem qr9 {ms:List Md}:∀{j:Nat} {us:List TV} {s1:St} (_:GS cx U X ρ F st sh V a w) (_:(lent j ms).run st=some (us,s1)) {vs:List Value} (_:vs.length=ms.length) (_:∀(i:Nat) v,vs[i]? =some v->cx.args.getD (j+i) undef=v),
  s1=st/\TRL cx.P w cx.Z ρ F sh us (muts ms vs)/\vap U us:=by
 induction ms with
 |nil=>
  intro j us s1 h hr vs hl hv;simp only [lent] at hr;cases run_pure hr;refine ⟨rfl,?_,trivial⟩;unfold muts;exact .nil
 |cons m ms ih=>
  intro j us s1 h hr vs hl hv;cases vs with
  |nil=>cases hl
  |cons v vs=>
   have hv':∀(i:Nat) u,vs[i]? =some u->cx.args.getD (j+1+i) undef=u:=λi u hu=>by
    rw [show j+1+i=j+(i+1) by omega];exact hv (i+1) u (by simpa using hu)
   cases m with
   |ro n=>
    simp only [lent] at hr;simp only [muts];exact ih h hr (by simpa using hl) hv'
   |«mut» n=>
    simp only [lent] at hr;obtain ⟨c,s2,h2,h3⟩:=vaa hr;cases vjy h2;obtain ⟨cs,s3,h4,h5⟩:=vaa h3;cases run_pure h5;obtain ⟨rfl,h6,h7⟩:=ih h h4 (by simpa using hl) hv';simp only [muts];refine ⟨trivial,.cons ?_ h6,⟨h.ids _,h7⟩⟩;have:=h.slots (10000+j);unfold Cx.val at this;rw [if_neg zo,show 10000+j-10000=j by omega] at this;have hv0:=hv 0 v rfl;rw [Nat.add_zero] at hv0
    rwa [hv0] at this
theorem vt2:∀{ms:List Md} {xs:List TV} {j t:Nat} {c:TV},(t,c)∈vf9 j ms xs->∃i,t=10000+(j+i)/\xs[i]? =some c
 | [],xs,j,t,c,h=>by simp [vf9] at h
 |m::ms,[],j,t,c,h=>by cases m<;>simp [vf9] at h
 | .ro n::ms,x::xs,j,t,c,h=>by
  simp only [vf9] at h;obtain ⟨i,h1,h2⟩:=vt2 h;exact ⟨i+1,zo,by simpa using h2⟩
 | .mut n::ms,x::xs,j,t,c,h=>by
  simp only [vf9,Aj,Ac] at h;rcases h with ⟨rfl,rfl⟩|h
  ·exact ⟨0,zo,rfl⟩
  ·obtain ⟨i,h1,h2⟩:=vt2 h;exact ⟨i+1,zo,by simpa using h2⟩
theorem vx2 (hq:Qok st) (live:List Nat):Qok (norm1 live st):=by
 intro id ver e es hn;simp only [norm1,St.node] at hn;generalize hl:reach st 200 0 (addNew [] (refsL (live.map st.slot)))=l at hn;generalize hs:(live.map λt=>ren st l (st.slot t))=slots at hn;generalize hns:(l.zipIdx.map λ(x:Nat×Nat)=>(x.2,(st.node x.1).map (renN st l)))=nodes at hn;have hn':look ((veq (vdi l.length slots).2.2 nodes).1++(vdi l.length slots).2.1) id=some (some (.sl false ver e es)):=by
  subst hns;cases hlk:look ((veq (vdi l.length slots).2.2 _).1++(vdi l.length slots).2.1) id with
  |none=>simp only [St.node] at hlk;rw [hlk] at hn;cases hn
  |some o=>simp only [St.node] at hlk;rw [hlk] at hn;simp only [Al] at hn;rw [hn]
 obtain ⟨x1,x2,x3,x4⟩:=vkr slots l.length;obtain ⟨y1,y2⟩:=vld nodes (vdi l.length slots).2.2;rcases Ao.1 (vm2 hn') with hm|hm
 ·rcases y2 _ hm with ⟨o,m1,m2⟩|⟨_,_,e',m3,_⟩
  ·rw [<-hns] at m1;obtain ⟨z,hz,he⟩:=Ap.1 m1;simp only [Ac] at he;obtain ⟨_,rfl⟩:=he;rcases m2 with m2|⟨_,_,_,m2,_⟩
   ·cases hz2:st.node z.1 with
    |none=>rw [hz2] at m2;cases m2
    |some n0=>
     rw [hz2] at m2;cases n0 with
     |bx _ _=>simp [renN] at m2
     |sl q v0 e0 es0=>
      simp only [Ai,renN,Aa,Node.sl.injEq] at m2;obtain ⟨rfl,rfl,rfl,rfl⟩:=m2;exact hq _ _ _ _ hz2
   ·cases m2
  ·simp only [Aa,Node.sl.injEq] at m3;obtain ⟨_,_,_,rfl⟩:=m3;trivial
 ·obtain ⟨_,_,e',m3,_⟩:=x3 _ hm;simp only [Aa,Node.sl.injEq] at m3;obtain ⟨_,_,_,rfl⟩:=m3;trivial
theorem qkh (hq:Qok st) (live:List Nat):Qok (norm live st):=by
 rw [qes];split
 ·exact vx2 hq live
 ·exact vx2 (vx2 hq live) live
theorem qx2 (st:St):Qok (frzS st):=by
 intro id ver e es hn;rw [qb3] at hn;cases h:st.node id with
 |none=>rw [h] at hn;cases hn
 |some n=>rw [h] at hn;cases n<;>cases hn
theorem qx5 (hΦ:∀f,Nofz (Φ f)) (N:Nat):∀(c:VC) (st:St) (out:Out) (st':St),run Φ N c st=some (out,st')->Qok st->Qok st':=by
 intro c;induction c with
 |skip=>intro st out st' h hq;simp only [run,Aa,Ac] at h;rw [<-h.2];exact hq
 |reg ops live=>
  intro st out st' h hq;simp only [run] at h;split at h
  ·rename_i s1 h1;simp only [Aa,Ac] at h;rw [<-h.2];exact λid ver e es hn=>vx8 hΦ ops st.next st s1 h1 hq id ver e es hn
  ·cases h
 |regD ops live ps=>
  intro st out st' h hq;simp only [run] at h;split at h
  ·split at h
   ·rename_i s1 h1;simp only [Aa,Ac] at h;rw [<-h.2];exact λid ver e es hn=>vx8 hΦ ops st.next st s1 h1 hq id ver e es hn
   ·cases h
  ·cases h
 |seq a b iha ihb=>
  intro st out st' h hq;simp only [run] at h;split at h
  ·rename_i s1 h1;exact ihb s1 out st' h (iha st _ s1 h1 hq)
  ·exact iha st out st' h hq
 |cond c a b iha ihb=>
  intro st out st' h hq;cases c with
  |t n=>
   obtain ⟨t,_,h⟩:=vwp h;cases t with
   |true=>exact iha st out st' h hq
   |false=>exact ihb st out st' h hq
  |c v=>
   obtain ⟨t,_,h⟩:=vxf h;cases t with
   |true=>exact iha st out st' h hq
   |false=>exact ihb st out st' h hq
  |nl e=>simp [run] at h
  |f g=>simp [run] at h
 |block id b ih=>
  intro st out st' h hq;simp only [run] at h;split at h
  ·rename_i j s1 h1;split at h<;>simp only [Aa,Ac] at h<;>rw [<-h.2]<;>exact ih st _ s1 h1 hq
  ·exact ih st out st' h hq
 |loop live b ih=>
  intro st out st' h hq;simp only [run] at h;have key:∀(n:Nat) (s:St),rounds (run Φ N b) live n s=some (out,st')->Qok s->Qok st':=by
   intro n;induction n with
   |zero=>intro s h _;cases h
   |succ n ihn=>
    intro s h hq;simp only [rounds] at h;split at h
    ·rename_i s1 h1;exact ihn s1 h (ih _ _ s1 h1 (qkh hq live))
    ·exact ih _ out st' h (qkh hq live)
  exact key N st h hq
 |frz b ih=>
  intro st out st' h hq;simp only [run] at h;exact ih _ _ _ h (qx2 st)
 |ro l b ih=>
  intro st out st' h hq;simp only [run] at h;split at h
  ·simp only [Aa,Ac] at h;rw [<-h.2];exact λid ver e es hn=>hq id ver e es hn
  ·cases h
 |exit id=>intro st out st' h hq;simp only [run,Aa,Ac] at h;rw [<-h.2];exact hq
 |ret=>intro st out st' h hq;simp only [run,Aa,Ac] at h;rw [<-h.2];exact hq
theorem vvz:∀(rs:List RV),Qt (resTVs rs)
 | []=>by unfold resTVs;exact Qm.pure trivial
 | .t n::rs=>by unfold resTVs;exact Qt.bind (Qm.getS _) λ_=>Qt.bind (vvz rs) λ_=>Qm.pure trivial
 | .cell n wd::rs=>by unfold resTVs;exact Qt.bind (Qm.getS _) λ_=>Qt.bind (vvw _ _) λ_=>Qt.bind (vvz rs) λ_=>Qm.pure trivial
theorem qaz:∀(ms:List Md) (j:Nat),Qt (lent j ms)
 | [],j=>by unfold lent;exact Qm.pure trivial
 | .ro _::ms,j=>by unfold lent;exact qaz ms _
 | .mut _::ms,j=>by unfold lent;exact Qt.bind (Qm.getS _) λ_=>Qt.bind (qaz ms _) λ_=>Qm.pure trivial
theorem vul {o:Option Nat} {ms:List Md} {rs fs:List CV} {s:St} {r:(List CV×List CV)×St} (h:(ckO o ms rs fs).run s=some r):r=((rs,fs),s)/\∀t,o=some t->msOk t ms=true/\onlyCL t (rs++fs)=true:=by
 unfold ckO at h;cases o with
 |none=>cases run_pure h;exact ⟨rfl,λt ht=>by cases ht⟩
 |some t=>
  simp only at h;split at h
  ·rename_i hk;cases run_pure h;refine ⟨rfl,λu hu=> ?_⟩;cases hu;simpa only [Am] using hk
  ·exact (vac h).elim
theorem vqt:∀{rs:List ResultVar},resLow rs=true->∀r∈rs,∀t,(r= .tmp t\/∃x,r= .cell t x)->t<10000
 | [],_,r,hr,_,_=>by cases hr
 | .tmp t::rs,h,r,hr,t',ht=>by
  simp only [resLow,Am,decide_eq_true_eq] at h;rcases Aj.1 hr with rfl|hr
  ·rcases ht with ht|⟨x,ht⟩
   ·cases ht;exact h.1
   ·cases ht
  ·exact vqt h.2 r hr t' ht
 | .cell t x::rs,h,r,hr,t',ht=>by
  simp only [resLow,Am,decide_eq_true_eq] at h;rcases Aj.1 hr with rfl|hr
  ·rcases ht with ht|⟨x,ht⟩
   ·cases ht
   ·cases ht;exact h.1
  ·exact vqt h.2 r hr t' ht
theorem qdj {P:Program} {fn:Func} {tmps:Array Value} {vs:List Value} {w:World} (h:(fn.results.toList.mapM (resStep tmps)).run P w= .ok vs w):(results fn tmps).run P w= .ok (resV vs) w:=by
 have e:results fn tmps=(do let vs <-fn.results.mapM (resStep tmps);pure (if h:vs.size=1 then vs[0] else .tuple vs)):=by
  unfold results;congr 1
 rw [e,Array.mapM_eq_mapM_toList];simp only [map_eq_pure_bind,Sem.run_bind,h,Result.andThen_ok,Sem.run_pure];cases vs with
 |nil=>rfl
 |cons v vs=>
  cases vs with
  |nil=>rfl
  |cons u vs=>rfl
theorem qg3 {cx:Cx} {U:Nat->Prop} {ρ:Nat->Value} {F:Nat->vaj} {st s1:St} {a:Act} {w:World} (hG:G cx U (λ_ _=>False) ρ F st a w) {q:Bool} {ts:List TV} {vs:List Value} (ht:TRL cx.P w cx.Z ρ F (vah st) ts vs) {r:Unit} (hr:(alsOut q ts).run st=some (r,s1)):
  G cx U (λ_ _=>False) ρ F s1 a w/\vah s1=vah st/\s1.next=st.next/\(q=true->∃b off cur t,vs= [.pointer (some ⟨b,off,none⟩)]/\w.heap[b]? =some (.cells cur t (0,0))/\cur[off]? =some (cx.val a.tmps 10000)):=by
 unfold alsOut at hr;split at hr
 ·split at hr
  ·rename_i id;obtain ⟨m,s2,h1,h2⟩:=vaa hr;obtain ⟨rfl,rfl⟩:=vbn h1;split at h2
   ·rename_i k cs hn;obtain ⟨x,s3,h3,h4⟩:=vaa h2;obtain ⟨rfl,rfl⟩:=vjy h3;split at h4
    ·rename_i j hx;split at h4
     ·rename_i hjk;subst hjk;cases vby h4;have hnr:=hG.nodes id _ hn;have hsl:=hG.slots 10000;rw [hx] at hsl;have hval:cx.val a.tmps 10000=ρ j:=by generalize cx.val a.tmps 10000=y at hsl;cases hsl;rfl
      refine ⟨hG.rebox hn rfl ⟨trivial,(hG.used id _ hn).2.2⟩ ?_,?_,rfl,λ_=> ?_⟩
      ·intro b off cur t k1 k2 i c hc u hu;cases i with
       |zero=>cases hc;exact .un _
       |succ i=>
        cases hnr with
        |bx _ _ b2 off2 cur2 t2 m1 m2 m3 m4 m5 m6 m7=>
         rw [k1] at m1;cases m1;rw [k2] at m2;cases m2;exact m5 (i+1) c hc u hu
      ·funext i;unfold vah;show (match (look ((id,some (Node.bx false (.un::cs)))::_) i).getD none with|some (.sl _ ver e es)=>some (ver,e,es.length)|_=>none)=_;simp only [look];by_cases hi:i=id
       ·subst hi;rw [hn];simp
       ·rw [if_neg (λe=>hi e.symm)];rfl
      ·cases hnr with
       |bx _ _ b2 off2 cur2 t2 m1 m2 m3 m4 m5 m6 m7=>
        simp only [List.length_cons] at m3;have hu:cur2[off2]? =some cur2[off2]:=At zo;have h0:=m5 0 (.rf j) rfl cur2[off2] (by simp);cases ht with
        |cons hc hs=>
         cases hs;refine ⟨b2,off2,cur2,t2,?_,m2,?_⟩
         ·rw [<-m1];cases hc;rfl
         ·rw [hu,hval];generalize cur2[off2]=y at h0;cases h0;rfl
     ·exact (vac h4).elim
    ·exact (vac h4).elim
   ·exact (vac h2).elim
  ·exact (vac hr).elim
 ·rename_i hq;cases run_pure hr;exact ⟨hG,rfl,rfl,λh=>absurd h hq⟩
def Sim0 (kp:Bool) (cx:Cx) (Φ:Nat->Option Callee) (N:Nat) (a0:Act) (w:World) (c:Code) (vc:VC):Prop:=
 ∀(st:St) (out:Out) (st':St) (Q:Exit->Act->World->Prop),Inv cx st a0 w->run Φ N vc st=some (out,st')->(∀a w,InvX kp cx st' a w->Q out.exit a w)->c.wp cx.P Q a0 w
theorem vox {P:Program} {Φ:Nat->Option Callee} {f:FuncId} {fn:Func} {v:Fn} (hf:P.funcs[f]? =some fn) (hname:(fn.name== "runtime.NumGoroutine")=false)
  {c:Code} (hbody:fn.body=some c) (hres:cRes P fn.results.toList=some v.results) (hml:v.modes.length<=fn.ntmps) (hsm:fn.ntmps<=10000) (hlow:resLow fn.results.toList=true)
  {N:Nat} {w:World} {Z:Zn} {cs:List CV} {args:List Value} {F:vaj} {rs fs:List CV}
  (hsim:∀(cx:Cx) (a0:Act),cx.P=P->cx.n=fn.ntmps->a0.tmps=args.toArray++A1 (fn.ntmps-args.toArray.size) undef->Sim0 v.keeps cx Φ N a0 w c v.body) (hc:CRL P w Z cs args F) (hZ:∀b o,zU Z b o->b<w.heap.size/\¬F b o) (hF:∀b o,F b o->b<w.heap.size)
  (hk:v.keeps=false->va1 cs) (hgo:vag Φ N v cs=some (rs,fs)):
  Answers P f args.toArray w λu w'=>∃vs Fr,u=resV vs/\vs.length=rs.length/\Kept w w' F/\CRL P w' (outs v.keeps Z) (rs++fs) (vs++muts v.modes args) Fr/\
   (∀b o,Fr b o->(F b o\/w.heap.size<=b)/\b<w'.heap.size)/\(isAls v.modes=true->AlsV w' vs args):=by
 unfold vag at hgo;split at hgo
 ·rename_i hlen;split at hgo
  ·rename_i tvs b s hun;split at hgo
   ·cases hgo
   ·rename_i out st' hnext hrun;obtain ⟨r,hto,hrf⟩:=Ab.1 hgo;obtain ⟨rf,s9⟩:=r;simp only at hrf;subst hrf;have hal:args.length=cs.length:=hc.length;let cx:Cx:={P:=P,w0:=w,M0:=F,Z:=Z,n:=fn.ntmps,args:=args.toArray}
    let a0:Act:={tmps:=args.toArray++A1 (fn.ntmps-args.toArray.size) undef,defers:= []}
    have hg0:G cx (λ_=>False) F (λ_=> .bool false) (λ_=>Nil) {slots:= [],nodes:= [],next:=0} a0 w:=by
     constructor
     case slots=>intro t;exact .un _
     case ids=>intro t;trivial
     case nodes=>intro id n hn;cases hn
     case used=>intro id n hn;cases hn
     case apart=>intro i j _ hi;cases hi
     case apartX=>intro i hi;cases hi
     case mine=>intro i hi;cases hi
     case mineX=>intro b o hb;exact ⟨λhz=>(hZ b o hz).2 hb,.inl hb,hF b o hb⟩
     case one=>intro i;rfl
     case kept=>exact Kept.refl _ _
     case zold=>exact hZ
     case size=>simp [a0,cx];omega
     case small=>exact hsm
     case defers=>rfl
    have hgs0:=hg0.toGS (V:=b+1) ⟨zo,λh=>h⟩;obtain ⟨ρ1,F1,sh1,hg1,ht1,hi1,_⟩:=vhc hgs0 (λ_ _ _ h=>h) hc (λ_ _ h=>h) hun (by simp)
    have hG1:G cx (λk=>k<b+1) (λ_ _=>False) ρ1 F1 s a0 w:=(hg1.toG (U':=λk=>k<b+1) (λk hk=>by
     rcases hk with hk|hk
     ·exact hk.elim
     ·have:=hk.2;omega) (by show b+1-1<b+1;omega)).less λ_ _ h=>h.elim
    have ht1':TRL P w Z ρ1 F1 (vah s) tvs args:= .of ht1.length λi c u k1 k2=>(ht1.get i c u k1 k2).shape (vbm hi1 k1) hg1.shape
    have hi1':vap (λk=>k<b+1) tvs:=vap.mono (λk hk=>by
     rcases hk with hk|hk
     ·exact hk.elim
     ·have:=hk.2;omega) hi1
    have htl:tvs.length=args.length:=ht1.length.symm;have hq1:Qok s:=((if hkk:v.keeps=false then (vgo v.keeps cs 0 λ_=>hk hkk) else vgo v.keeps cs 0 λh=>absurd h hkk) _ _ _ hun (λid ver e es hn=>by cases hn)).1;have hI:Inv cx {slots:=(Ay tvs.length).zip tvs++vf9 0 v.modes tvs,nodes:=s.nodes,next:=b+1} a0 w:=by
     refine ⟨⟨λk=>k<b+1,λ_ h=>h,ρ1,F1,?_⟩,hq1⟩;have hslot:∀t,(({slots:=(Ay tvs.length).zip tvs++vf9 0 v.modes tvs,nodes:=s.nodes,next:=b+1}:St).slot t= .un)\/
       ∃i c,(t=i\/t=10000+i)/\tvs[i]? =some c/\({slots:=(Ay tvs.length).zip tvs++vf9 0 v.modes tvs,nodes:=s.nodes,next:=b+1}:St).slot t=c:=by
      intro t;simp only [St.slot];cases hl:look ((Ay tvs.length).zip tvs++vf9 0 v.modes tvs) t with
      |none=>exact .inl rfl
      |some c=>
       right;rcases Ao.1 (vm2 hl) with hm|hm
       ·obtain ⟨i,hi⟩:=An.1 hm;rw [List.getElem?_zip_eq_some] at hi;obtain ⟨h1,h2⟩:=hi;have:i=t:=by
         have hlt:=(Ae.1 h1).1;simp only [List.length_range] at hlt;rw [List.getElem?_range hlt] at h1;exact A5 h1
        exact ⟨i,c,.inl this.symm,h2,rfl⟩
       ·obtain ⟨i,h1,h2⟩:=vt2 hm;exact ⟨i,c,.inr zo,h2,rfl⟩
     constructor
     case slots=>
      intro t;rcases hslot t with hu|⟨i,c,hti,hc',hs⟩
      ·rw [hu];exact .un _
      ·rw [hs];have hil:i<args.length:=by rw [<-htl];exact (Ae.1 hc').1
       have hval:cx.val a0.tmps t=args[i]:=by
        unfold Cx.val;rcases hti with rfl|rfl
        ·rw [if_pos zo];simp only [a0,Af,Array.getElem?_append,List.size_toArray,hil,if_true];simp [hil]
        ·rw [if_neg zo];simp [cx,hil]
       rw [hval];exact ht1'.get i c _ hc' (Au hil)
     case ids=>
      intro t;rcases hslot t with hu|⟨i,c,hti,hc',hs⟩
      ·rw [hu];trivial
      ·rw [hs];exact vbm hi1' hc'
     case nodes=>exact hG1.nodes
     case used=>exact hG1.used
     case apart=>exact hG1.apart
     case apartX=>exact hG1.apartX
     case mine=>exact hG1.mine
     case mineX=>exact hG1.mineX
     case one=>exact hG1.one
     case kept=>exact hG1.kept
     case zold=>exact hG1.zold
     case size=>exact hG1.size
     case small=>exact hG1.small
     case defers=>exact hG1.defers
    intro o a K Q hK;have hcall:(callFunc f args.toArray).run P w= .ok (.enter f args.toArray) w:=by
     unfold callFunc;simp only [Sem.run_bind,run_program,Result.andThen_ok,hf,hname,Ar,if_false,hbody,Option.isNone_some,Sem.run_pure]
    rw [hcall,Oper.upon_enter];refine calls_of_wp hf hbody ?_;refine hsim cx a0 rfl rfl rfl _ out st' _ hI hrun λa' w' hIn=> ?_;have hpost:a'.defers= []/\∃u,(results fn a'.tmps).run P w'= .ok u w'/\K (a.put o.dst u) w':=by
     obtain ⟨⟨P1,w1,M1,Z1,n1,as1⟩,hs1,⟨U,hU,ρ,F',hG⟩,hq⟩:=hIn;obtain rfl:P1=P:=hs1.P;obtain rfl:as1=args.toArray:=hs1.args;refine ⟨hG.defers,?_⟩;unfold takeOut at hto;obtain ⟨ts,s2,h1,h2⟩:=vaa hto;obtain ⟨_,s2b,h2a,h2⟩:=vaa h2;obtain ⟨rs',s3,h3,h4⟩:=vaa h2;obtain ⟨us,s4,h5,h6⟩:=vaa h4;obtain ⟨fs',s5,h7,h8⟩:=vaa h6;cases (vul h8).1;obtain ⟨e1,vs,k1,k2,k3⟩:=vto hG hres (vqt hlow) h1;have e1:=e1.symm;subst e1;have hq:=(qab _ _ _ _ _ h2a hq).1;obtain ⟨hG,hshp,hnx,hAls⟩:=qg3 hG k1 h2a;rw [<-hshp] at k1;have hgs:=hG.toGS (V:=st'.next+1) ⟨zo,λh=>absurd (hU _ h) zo⟩;obtain ⟨Fa,sha,m1,m2,m3,m4⟩:=vr5 hgs k1 k2 h3;obtain ⟨e2,n1,n2⟩:=qr9 (vs:=args) m2 h5 zo (λi u hu=>by simp [cx,Af,hu]);have e2:=e2.symm;subst e2;obtain ⟨Fb,shb,p1,p2,p3,p4⟩:=vr5 m2 n1 n2 h7;refine ⟨resV vs,qdj k3,hK _ _ ⟨vs,λb o=>Fa b o\/Fb b o,rfl,m1.length,hs1.kept _ p2.kept,?_,?_,?_⟩⟩
     ·have hall:=CRL.append m1 p1 λb o ha hb=>p3 b o hb (.inr ha);unfold outs;cases hkk:v.keeps with
      |true=>
       obtain rfl:Z1=Z:=congrArg Cx.Z (hs1.kp hkk);exact CRL.mono (λ_ _ _ cur _ _ hb=>⟨cur,hb,rfl,rfl⟩) (λe b o hz=>⟨rfl,hz⟩) hall λ_ _ _ cur _ _ hb=>⟨cur,hb,rfl,rfl⟩
      |false=>
       rw [hkk] at h3 h7;obtain ⟨q1,q2⟩:=vnp ts _ _ _ h3 hq;obtain ⟨q3,q4⟩:=vnp us _ _ _ h7 q1;exact CRL.noz hall (vpx q2 q4)
     ·intro b o hb;have:=p2.mineX b o (hb.elim (λh=> .inl (.inr h)) .inr);exact ⟨hs1.mine _ _ this.2.1,this.2.2⟩
     ·intro hals;obtain ⟨b0,off0,cur0,t0,e1,e2,e3⟩:=hAls hals;refine ⟨b0,off0,cur0,t0,_,e1,e2,e3,?_⟩;have hne:0<args.length:=by
       cases hm:v.modes with
       |nil=>rw [hm] at hals;cases hals
       |cons m ms=>rw [hal,hlen,hm];simp
      rw [List.head?_eq_getElem?,Au hne];unfold Cx.val;simp [hne]
    cases out with
    |nrm=>exact hpost
    |ret=>exact hpost
    |ext id=>exact (hnext id rfl).elim
   ·cases hgo
  ·cases hgo
 ·cases hgo
theorem qd3 {P:Program} {writes:Nat->Bool} {Φ:Nat->Option Callee} (hΦ:Good P writes Φ) (hm:P.follows .mixedOrders=true) {f:FuncId} {fn:Func} {v:Fn} (hf:P.funcs[f]? =some fn) (hname:(fn.name== "runtime.NumGoroutine")=false)
  (hv:isForm P writes fn v) {N:Nat} {w:World} {Z:Zn} {cs:List CV} {args:List Value} {F:vaj} {rs fs:List CV} (hc:CRL P w Z cs args F) (hZ:∀b o,zU Z b o->b<w.heap.size/\¬F b o) (hF:∀b o,F b o->b<w.heap.size)
  (hk:v.keeps=false->va1 cs) (hgo:vag Φ N v cs=some (rs,fs)):
  Answers P f args.toArray w λu w'=>∃vs Fr,u=resV vs/\vs.length=rs.length/\Kept w w' F/\CRL P w' (outs v.keeps Z) (rs++fs) (vs++muts v.modes args) Fr/\
   (∀b o,Fr b o->(F b o\/w.heap.size<=b)/\b<w'.heap.size)/\(isAls v.modes=true->AlsV w' vs args):=by
 obtain ⟨c,hbody,hcomp,hres,hml,hsm,hlow,hfz⟩:=hv;refine vox hf hname hbody hres hml hsm hlow (λcx a0 hP hn _=> ?_) hc hZ hF hk hgo;subst hP;intro st out st' Q hI hr hQ;rw [<-hn] at hcomp;exact qa1 hΦ hm N c _ _ _ hcomp (λhk=>by rw [hk,A4] at hfz;exact hfz) st a0 w out st' Q hI hr hQ
theorem qqh {Φ:Nat->Option Callee} (hΦ:∀f,Nofz (Φ f)) {v:Fn} (hk:v.keeps=false) {N:Nat} {cs rs fs:List CV} (hc:va1 cs) (hgo:vag Φ N v cs=some (rs,fs)):va1 (rs++fs):=by
 unfold vag at hgo;split at hgo
 ·split at hgo
  ·rename_i tvs b s hun;split at hgo
   ·cases hgo
   ·rename_i out st' hnext hrun;obtain ⟨r,hto,hrf⟩:=Ab.1 hgo;obtain ⟨rf,s9⟩:=r;simp only at hrf;subst hrf;have hq1:Qok s:=(vgo v.keeps cs 0 (λ_=>hc) _ _ _ hun (λid ver e es hn=>by cases hn)).1;have hq:=qx5 hΦ N _ _ _ _ hrun (λid ver e es hn=>hq1 id ver e es hn);unfold takeOut at hto;obtain ⟨ts,s2,h1,h2⟩:=vaa hto;obtain ⟨_,s2b,h2a,h2⟩:=vaa h2;obtain ⟨rs',s3,h3,h4⟩:=vaa h2;obtain ⟨us,s4,h5,h6⟩:=vaa h4;obtain ⟨fs',s5,h7,h8⟩:=vaa h6;cases (vul h8).1;rw [hk] at h3 h7;obtain ⟨q1,q2⟩:=vnp ts _ _ _ h3 (qab _ _ _ _ _ h2a (vvz _ _ _ _ h1 hq).1).1;obtain ⟨q3,q4⟩:=vnp us _ _ _ h7 (qaz _ _ _ _ _ h5 q1).1;exact cownL.nofz (vpx q2 q4)
   ·cases hgo
  ·cases hgo
 ·cases hgo
theorem qr2 {Φ:Nat->Option Callee} {N:Nat} {v:Fn} {cs rs fs:List CV} (h:vag Φ N v cs=some (rs,fs)):∀t,onlyOf v.modes=some t->msOk t v.modes=true/\onlyCL t (rs++fs)=true:=by
 unfold vag at h;split at h
 ·split at h
  ·split at h
   ·cases h
   ·obtain ⟨r,hto,hrf⟩:=Ab.1 h;obtain ⟨rf,s9⟩:=r;simp only at hrf;subst hrf;unfold takeOut at hto;obtain ⟨ts,s2,h1,h2⟩:=vaa hto;obtain ⟨_,s2b,h2a,h2⟩:=vaa h2;obtain ⟨rs',s3,h3,h4⟩:=vaa h2;obtain ⟨us,s4,h5,h6⟩:=vaa h4;obtain ⟨fs',s5,h7,h8⟩:=vaa h6;cases (vul h8).1;exact (vul h8).2
   ·cases h
  ·cases h
 ·cases h
theorem qmd {P:Program} {writes:Nat->Bool} {Φ:Nat->Option Callee} (hΦ:Good P writes Φ) (hm:P.follows .mixedOrders=true) {f:FuncId} {fn:Func} {v:Fn} (hf:P.funcs[f]? =some fn) (hname:(fn.name== "runtime.NumGoroutine")=false)
  (hv:isForm P writes fn v) {go:List CV->Option (List CV×List CV)} (hgo:∀cs r,go cs=some r->∃N,vag Φ N v cs=some r):Sound P f {modes:=v.modes,keeps:=v.keeps,scalar:=v.scalar,go:=go} where
 ans:=by
  intro w Z cs args F rs fs hc hZ hF hk h;obtain ⟨N,hN⟩:=hgo cs (rs,fs) h;exact (qd3 hΦ hm hf hname hv hc hZ hF hk hN).mono λ_ _ ⟨vs,Fr,k1,k2,k3,k4,k5,_⟩=>⟨vs,Fr,k1,k2,k3,k4,k5⟩
 als:=by
  intro ha w Z cs args F rs fs hc hZ hF hk h;obtain ⟨N,hN⟩:=hgo cs (rs,fs) h;exact (qd3 hΦ hm hf hname hv hc hZ hF hk hN).mono λ_ _ ⟨vs,Fr,k1,k2,k3,k4,k5,k6⟩=>⟨vs,Fr,k1,k2,k3,k4,k5,k6 ha⟩
 nofz:=by
  intro hk cs rs fs hc h;obtain ⟨N,hN⟩:=hgo cs (rs,fs) h;exact qqh hΦ.nofz hk hc hN
 only:=by
  intro t ht cs rs fs h;obtain ⟨N,hN⟩:=hgo cs (rs,fs) h;exact qr2 hN t ht
