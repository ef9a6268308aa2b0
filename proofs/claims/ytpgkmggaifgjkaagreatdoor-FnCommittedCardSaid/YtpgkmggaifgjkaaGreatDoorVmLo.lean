/- The interpreter 'VM'. -/
import Derived.Test.YtpgkmggaifgjkaaGreatDoorVmJk
open Array renaming length_toList->Aa
open Nat renaming le_refl->Ab,lt_of_lt_of_le->Am,le_trans->Aq
open List renaming getElem?_take->Ac,getElem?_eq_some_iff->Ad,getElem?_drop->Ae,getElem?_set_self->Ag,eq_nil_of_length_eq_zero->Ah,length_take->Ai,length_map->Aj,length_singleton->Ak,length_pos_iff->Al,getElem?_map->An,append_assoc->Ao,replicate->Ap,set_set->Ar
open Option renaming map_eq_some_iff->Af
set_option linter.all false
namespace Go.Proofs.YtpgkmggaifgjkaaGreatDoor.VM
open Go
variable {cx:Cx} {U:Nat->Prop} {X:vaj} {ρ:Nat->Value} {F:Nat->vaj} {st:St} {sh:va2} {V:Nat} {a:Act} {w:World}
def Emp (F:vaj):Prop:=∀b o,¬F b o
mutual
def CR (P:Program) (w:World) (Z:Zn):CV->Value->vaj->Prop
 | .a u,v,F=>v=u/\Emp F
 | .sl z e es,v,F=>if z then RC P w Z (.sl e es) v/\Emp F else DC P w Z (.sl e es) v F
 | .bx z cs,v,F=>∃b off cur t Fc,v= .pointer (some ⟨b,off,none⟩)/\w.heap[b]? =some (.cells cur t (0,0))/\off+cs.length<=cur.size/\cs≠[]/\CRL P w Z cs ((cur.toList.drop off).take cs.length) Fc/\
   (z=true->Emp Fc/\∀i,i<cs.length->zU Z b (off+i))/\(z=false->∀o,off<=o->o<off+cs.length->¬Fc b o)/\∀b' o',F b' o'↔((z=false/\b'=b/\off<=o'/\o'<off+cs.length)\/Fc b' o')
 | .st cs,v,F=>∃us:Array Value,v= .agg us/\CRL P w Z cs us.toList F
 | .tp cs,v,F=>∃us:Array Value,v= .tuple us/\CRL P w Z cs us.toList F
 | .fn f fs cs,v,F=>∃(xs us:Array Value) (F1 F2:vaj),v= .func (.func f) xs us/\CRL P w Z fs xs.toList F1/\CRL P w Z cs us.toList F2/\Apart F1 F2/\∀b o,F b o↔(F1 b o\/F2 b o)
 | .ic t c,v,F=>∃u,v= .iface t u/\CR P w Z c u F
 | .un,_,F=>Emp F
def CRL (P:Program) (w:World) (Z:Zn):List CV->List Value->vaj->Prop
 | [],vs,F=>vs= []/\Emp F
 |c::cs,vs,F=>∃v vs' F1 F2,vs=v::vs'/\CR P w Z c v F1/\CRL P w Z cs vs' F2/\Apart F1 F2/\∀b o,F b o↔(F1 b o\/F2 b o)
end
mutual
theorem CR.congr {P:Program} {Z:Zn} {F F':vaj} (hf:∀b o,F' b o↔F b o):∀{c:CV} {v:Value},CR P w Z c v F->CR P w Z c v F'
 | .a u,v,h=>by
  simp only [CR] at h⊢;exact ⟨h.1,λb o hb=>h.2 b o ((hf b o).1 hb)⟩
 | .sl z e es,v,h=>by
  simp only [CR] at h⊢;split
  ·rename_i hz;rw [if_pos hz] at h;exact ⟨h.1,λb o hb=>h.2 b o ((hf b o).1 hb)⟩
  ·rename_i hz;rw [if_neg hz] at h;exact h.congr hf
 | .bx z cs,v,h=>by
  simp only [CR] at h⊢;obtain ⟨b,off,cur,t,Fc,h1,h2,h3,h4,h5,h6,h7,h8⟩:=h;exact ⟨b,off,cur,t,Fc,h1,h2,h3,h4,h5,h6,h7,λb' o'=>(hf b' o').trans (h8 b' o')⟩
 | .st cs,v,h=>by
  simp only [CR] at h⊢;obtain ⟨us,h1,h2⟩:=h;exact ⟨us,h1,CRL.congr hf h2⟩
 | .tp cs,v,h=>by
  simp only [CR] at h⊢;obtain ⟨us,h1,h2⟩:=h;exact ⟨us,h1,CRL.congr hf h2⟩
 | .fn f fs cs,v,h=>by
  simp only [CR] at h⊢;obtain ⟨xs,us,F1,F2,h1,h2,h3,h4,h5⟩:=h;exact ⟨xs,us,F1,F2,h1,h2,h3,h4,λb o=>(hf b o).trans (h5 b o)⟩
 | .ic t c,v,h=>by
  simp only [CR] at h⊢;obtain ⟨u,h1,h2⟩:=h;exact ⟨u,h1,CR.congr hf h2⟩
 | .un,v,h=>by
  simp only [CR] at h⊢;exact λb o hb=>h b o ((hf b o).1 hb)
theorem CRL.congr {P:Program} {Z:Zn} {F F':vaj} (hf:∀b o,F' b o↔F b o):∀{cs:List CV} {vs:List Value},CRL P w Z cs vs F->CRL P w Z cs vs F'
 | [],vs,h=>by
  simp only [CRL] at h⊢;exact ⟨h.1,λb o hb=>h.2 b o ((hf b o).1 hb)⟩
 |c::cs,vs,h=>by
  simp only [CRL] at h⊢;obtain ⟨v,vs',F1,F2,h1,h2,h3,h4,h5⟩:=h;exact ⟨v,vs',F1,F2,h1,h2,h3,h4,λb o=>(hf b o).trans (h5 b o)⟩
end
theorem qmr {w w':World} {b off n:Nat} {cur:Array Value} {t:TypeId} (hb:w.heap[b]? =some (.cells cur t (0,0))) (hn:0<n) (hs:∀i,i<n->SameAt w w' b (off+i)):
  ∃cur',w'.heap[b]? =some (.cells cur' t (0,0))/\cur'.size=cur.size/\(cur'.toList.drop off).take n=(cur.toList.drop off).take n:=by
 obtain ⟨cur',h1,h2,_⟩:=hs 0 hn cur t (0,0) hb;refine ⟨cur',h1,h2,?_⟩;apply List.ext_getElem?;intro j;simp only [Ac,Ae];split
 ·rename_i hj;obtain ⟨c2,k1,_,k3⟩:=hs j hj cur t (0,0) hb;rw [h1] at k1;injection k1 with k1
  injection k1 with k1 _ _
  rw [k1];simpa using k3
 ·rfl
mutual
theorem CR.mono {P:Program} {w w':World} {Z Z':Zn} (hz:∀b o,zU Z b o->SameAt w w' b o) (hzz:∀e b o,Z e b o->Z' e b o):∀{c:CV} {v:Value} {F:vaj},CR P w Z c v F->(∀b o,F b o->SameAt w w' b o)->CR P w' Z' c v F
 | .a u,v,F,h,_=>by
  simp only [CR] at h⊢;exact h
 | .sl z e es,v,F,h,hs=>by
  simp only [CR] at h⊢;split
  ·rename_i hzt;rw [if_pos hzt] at h;exact ⟨h.1.mono hz hzz,h.2⟩
  ·rename_i hzt;rw [if_neg hzt] at h;exact h.mono hs hz hzz
 | .bx z cs,v,F,h,hs=>by
  simp only [CR] at h⊢;obtain ⟨b,off,cur,t,Fc,h1,h2,h3,h4,h5,h6,h7,h8⟩:=h
  obtain ⟨cur',k1,k2,k3⟩:=qmr h2 (Al.2 h4) (λi hi=>by
   cases z with
   |true=>exact hz _ _ ((h6 rfl).2 i hi)
   |false=>exact hs _ _ ((h8 _ _).2 (.inl ⟨rfl,rfl,zo,zo⟩)))
  refine ⟨b,off,cur',t,Fc,h1,k1,zo,h4,?_,λhzt=>⟨(h6 hzt).1,λi hi=>zle hzz _ _ ((h6 hzt).2 i hi)⟩,h7,h8⟩;rw [k3];exact CRL.mono hz hzz h5 λb o hf=>hs b o ((h8 b o).2 (.inr hf))
 | .st cs,v,F,h,hs=>by
  simp only [CR] at h⊢;obtain ⟨us,h1,h2⟩:=h;exact ⟨us,h1,CRL.mono hz hzz h2 hs⟩
 | .tp cs,v,F,h,hs=>by
  simp only [CR] at h⊢;obtain ⟨us,h1,h2⟩:=h;exact ⟨us,h1,CRL.mono hz hzz h2 hs⟩
 | .fn f fs cs,v,F,h,hs=>by
  simp only [CR] at h⊢;obtain ⟨xs,us,F1,F2,h1,h2,h3,h4,h5⟩:=h;exact ⟨xs,us,F1,F2,h1,CRL.mono hz hzz h2 λb o hf=>hs b o ((h5 b o).2 (.inl hf)),CRL.mono hz hzz h3 λb o hf=>hs b o ((h5 b o).2 (.inr hf)),h4,h5⟩
 | .ic t c,v,F,h,hs=>by
  simp only [CR] at h⊢;obtain ⟨u,h1,h2⟩:=h;exact ⟨u,h1,CR.mono hz hzz h2 hs⟩
 | .un,v,F,h,_=>by
  simp only [CR] at h⊢;exact h
theorem CRL.mono {P:Program} {w w':World} {Z Z':Zn} (hz:∀b o,zU Z b o->SameAt w w' b o) (hzz:∀e b o,Z e b o->Z' e b o):∀{cs:List CV} {vs:List Value} {F:vaj},CRL P w Z cs vs F->(∀b o,F b o->SameAt w w' b o)->CRL P w' Z' cs vs F
 | [],vs,F,h,_=>by
  simp only [CRL] at h⊢;exact h
 |c::cs,vs,F,h,hs=>by
  simp only [CRL] at h⊢;obtain ⟨v,vs',F1,F2,h1,h2,h3,h4,h5⟩:=h;exact ⟨v,vs',F1,F2,h1,CR.mono hz hzz h2 λb o hf=>hs b o ((h5 b o).2 (.inl hf)),CRL.mono hz hzz h3 λb o hf=>hs b o ((h5 b o).2 (.inr hf)),h4,h5⟩
end
theorem CRL.length {P:Program} {Z:Zn}:∀{cs:List CV} {vs:List Value} {F:vaj},CRL P w Z cs vs F->vs.length=cs.length
 | [],vs,F,h=>by simp only [CRL] at h;simp [h.1]
 |c::cs,vs,F,h=>by
  simp only [CRL] at h;obtain ⟨v,vs',F1,F2,rfl,_,h3,_,_⟩:=h;simp [CRL.length h3]
theorem CRL.append {P:Program} {Z:Zn}:∀{cs ds:List CV} {vs us:List Value} {F G:vaj},CRL P w Z cs vs F->CRL P w Z ds us G->Apart F G->CRL P w Z (cs++ds) (vs++us) (λb o=>F b o\/G b o)
 | [],ds,vs,us,F,G,h,h',_=>by
  simp only [CRL] at h;obtain ⟨rfl,he⟩:=h;exact CRL.congr (λb o=>⟨λh=>h.resolve_left (he b o),.inr⟩) h'
 |c::cs,ds,vs,us,F,G,h,h',ha=>by
  simp only [CRL] at h;obtain ⟨v,vs',F1,F2,rfl,h2,h3,h4,h5⟩:=h;have ih:=CRL.append h3 h' λb o hf=>ha b o ((h5 b o).2 (.inr hf));simp only [List.cons_append,CRL];refine ⟨v,vs'++us,F1,_,rfl,h2,ih,λb o hf hg=> ?_,λb o=> ?_⟩
  ·rcases hg with hg|hg
   ·exact h4 b o hf hg
   ·exact ha b o ((h5 b o).2 (.inl hf)) hg
  ·rw [h5 b o,or_assoc]
def Node.idsOk (U:Nat->Prop) (V:Nat):Node->Prop
 | .bx _ cs=>vap U cs
 | .sl _ ver _ _=>ver=0\/U (ver-1)\/ver=V
structure GS (cx:Cx) (U:Nat->Prop) (X:vaj) (ρ:Nat->Value) (F:Nat->vaj) (st:St) (sh:va2) (V:Nat) (a:Act) (w:World):Prop where
 slots:∀t,TR cx.P w cx.Z ρ F sh (st.slot t) (cx.val a.tmps t)
 ids:∀t,idsIn U (st.slot t)
 nodes:∀id n,st.node id=some n->NR cx.P w cx.Z ρ F sh id n
 used:∀id n,st.node id=some n->U id/\n.idsOk U V
 apart:∀i j,i≠j->(st.node i).isSome=true->(st.node j).isSome=true->Apart (F i) (F j)
 apartX:∀i,(st.node i).isSome=true->Apart (F i) X
 mine:∀i,(st.node i).isSome=true->∀b o,F i b o->¬zU cx.Z b o/\(cx.M0 b o\/cx.w0.heap.size<=b)
 mineX:∀b o,X b o->¬zU cx.Z b o/\(cx.M0 b o\/cx.w0.heap.size<=b)/\b<w.heap.size
 one:∀i,one1 (ρ i)=true
 kept:Kept cx.w0 w cx.M0
 zold:∀b o,zU cx.Z b o->b<cx.w0.heap.size/\¬cx.M0 b o
 size:a.tmps.size=cx.n
 small:cx.n<=10000
 defers:a.defers= []
 agree:∀id n,st.node id=some n->sh id=vah st id
 dead:∀id,st.node id=none->∀ver e l,sh id=some (ver,e,l)->ver=V
 fresh:V≠0/\¬U (V-1)
theorem Node.idsOk_mono {U U':Nat->Prop} (h:∀i,U i->U' i) {n:Node} (hn:n.idsOk U V):n.idsOk U' V:=by
 cases n with
 |bx z cs=>exact vap.mono h hn
 |sl=>exact hn.imp id (Or.imp (h _) id)
theorem NR.mono' {P:Program} {w w':World} {Z:Zn} {ρ ρ':Nat->Value} {F F':Nat->vaj} {sh sh':va2} {U:Nat->Prop} {id:Nat} {n:Node}
  (h:NR P w Z ρ F sh id n) (hU:U id) (hUn:n.idsOk U V) (hz:∀b o,zU Z b o->SameAt w w' b o) (hρ:∀id,U id->ρ' id=ρ id) (hsh:ShapeKept U sh sh')
  (hn:∀id,U id->∀ver e l,sh' id=some (ver,e,l)->(ver=0\/U (ver-1))->NavKept P w w' (F id) (F' id) (ρ id))
  (hF:∀b o,F' id b o↔F id b o) (hs:∀b o,F id b o->SameAt w w' b o):NR P w' Z ρ' F' sh' id n:=by
 cases n with
 |bx z cs=>exact h.mono hU hUn hz hρ hsh hn hF hs
 |sl q ver e es=>
  cases h with
  |sl _ _ _ _ h=>
   refine .sl q ver e es ?_;rw [hρ id hU];exact (h.mono hs hz λ_ _ _ h=>h).congr hF
theorem GS.inside (h:GS cx U X ρ F st sh V a w) {i:Nat} (hi:(st.node i).isSome=true):∀b o,F i b o->b<w.heap.size:=by
 intro b o hf;cases hn:st.node i with
 |none=>rw [hn] at hi;cases hi
 |some n=>
  have hN:=h.nodes i n hn;cases hN with
  |bx z cs b' off cur t hr hb hsz hne hc hFi hzz=>obtain ⟨_,rfl,_⟩:=(hFi b o).1 hf;exact (Array.getElem?_eq_some_iff.1 hb).1
  |sl q ver e es hd=>exact hd.inside b o hf
theorem GS.known (h:GS cx U X ρ F st sh V a w) {id ver e l:Nat} (hs:sh id=some (ver,e,l)) (hv:ver=0\/U (ver-1)):(st.node id).isSome=true:=by
 cases hn:st.node id with
 |some n=>rfl
 |none=>
  have:=h.dead id hn ver e l hs;subst this;rcases hv with hv|hv
  ·exact absurd hv h.fresh.1
  ·exact absurd hv h.fresh.2
theorem GS.world (h:GS cx U X ρ F st sh V a w) {w':World} {M X':vaj} (hk:Kept w w' M) (hz:∀b o,M b o->¬zU cx.Z b o) (hm:∀b o,M b o->b<cx.w0.heap.size->cx.M0 b o)
  (ha:∀i,(st.node i).isSome=true->Apart (F i) M) (hX:∀b o,X' b o->X b o\/(w.heap.size<=b/\b<w'.heap.size)):GS cx U X' ρ F st sh V a w':=by
 have hzs:=vst cx hk hz;have hkey:∀id,U id->∀ver e l,sh id=some (ver,e,l)->(ver=0\/U (ver-1))->NavKept cx.P w w' (F id) (F id) (ρ id):=
  λid _ ver e l hs hv=> .of hk.ty λb o hf=>⟨hf,λy hy _=>(hk.same (ha id (h.known hs hv) b o hf)).cell hy⟩
 refine ⟨λt=>(h.slots t).mono (h.ids t) hzs (λ_ _=>rfl) (.refl _ _) hkey,h.ids,λid n hn=> ?_,h.used,h.apart,?_,h.mine,?_,h.one,h.kept.trans hk hm,h.zold,h.size,h.small,h.defers,h.agree,h.dead,h.fresh⟩
 ·exact (h.nodes id n hn).mono' (h.used id n hn).1 (h.used id n hn).2 hzs (λ_ _=>rfl) (.refl _ _) hkey (λ_ _=>Iff.rfl)
   λb o hf=>hk.same (ha id (by rw [hn];rfl) b o hf)
 ·intro i hi b o hf hx;rcases hX b o hx with hx|hx
  ·exact h.apartX i hi b o hf hx
  ·exact absurd (h.inside hi b o hf) zo
 ·intro b o hx;rcases hX b o hx with hx|hx
  ·obtain ⟨h1,h2,h3⟩:=h.mineX b o hx;exact ⟨h1,h2,Am h3 hk.size⟩
  ·have:=h.kept.size;exact ⟨λhzz=>by have:=(h.zold b o hzz).1;omega,.inr zo,hx.2⟩
theorem GS.change (h:GS cx U X ρ F st sh V a w) {U':Nat->Prop} {id:Nat} {o:Option Node} {v':Value} {Fn X':vaj} {sh':va2}
  (hU':∀i,U i->U' i) (hfr:¬U' (V-1)) (hv:U id->v'=ρ id) (hv1:one1 v'=true) (hsh:ShapeKept U sh sh')
  (hnav:U id->∀ver e l,sh' id=some (ver,e,l)->(ver=0\/U (ver-1))->NavKept cx.P w w (F id) Fn (ρ id))
  (hn:∀n,o=some n->NR cx.P w cx.Z (upd ρ id v') (upd F id Fn) sh' id n/\U' id/\n.idsOk U' V)
  (hf:o≠none->(∀b o,Fn b o->¬zU cx.Z b o/\(cx.M0 b o\/cx.w0.heap.size<=b))/\(∀i,i≠id->(st.node i).isSome=true->Apart (F i) Fn)/\Apart Fn X')
  (hX:∀b o,X' b o->¬zU cx.Z b o/\(cx.M0 b o\/cx.w0.heap.size<=b)/\b<w.heap.size) (hXa:∀i,i≠id->(st.node i).isSome=true->Apart (F i) X')
  (hag:∀n,o=some n->sh' id=vah (st.setNode id o) id) (hag':∀j,j≠id->sh' j=sh j) (hdead:o=none->∀ver e l,sh' id=some (ver,e,l)->ver=V):
  GS cx U' X' (upd ρ id v') (upd F id Fn) (st.setNode id o) sh' V a w:=by
 have hzs:∀b o,zU cx.Z b o->SameAt w w b o:=λb o _ cur _ _ hb=>⟨cur,hb,rfl,rfl⟩
 have hρ:∀j,U j->upd ρ id v' j=ρ j:=by
  intro j hj;by_cases e:j=id
  ·subst e;rw [va5];exact hv hj
  ·exact vce _ _ e
 have hkey:∀j,U j->∀ver e l,sh' j=some (ver,e,l)->(ver=0\/U (ver-1))->NavKept cx.P w w (F j) (upd F id Fn j) (ρ j):=by
  intro j hj ver el l hs hver;by_cases e:j=id
  ·subst e;rw [va5];exact hnav hj ver el l hs hver
  ·rw [vce _ _ e];exact λ_ _ h=>h
 have hsome:∀j,j≠id->((st.setNode id o).node j).isSome=true->(st.node j).isSome=true:=by
  intro j e hj;rwa [St.setNode_node,if_neg (λx=>e x.symm)] at hj
 have hid:((st.setNode id o).node id).isSome=true->o≠none:=by
  intro hj e;rw [St.setNode_node,if_pos rfl,e] at hj;cases hj
 refine ⟨λt=>(h.slots t).mono (h.ids t) hzs hρ hsh hkey,λt=>(h.ids t).mono hU',?_,?_,?_,?_,?_,hX,?_,h.kept,h.zold,h.size,h.small,h.defers,?_,?_,h.fresh.1,hfr⟩
 ·intro j n hj;rw [St.setNode_node] at hj;by_cases e:id=j
  ·subst e;rw [if_pos rfl] at hj;exact (hn n hj).1
  ·rw [if_neg e] at hj;have hUj:=(h.used j n hj).1;exact (h.nodes j n hj).mono' hUj (h.used j n hj).2 hzs hρ hsh hkey (λb o=>by rw [vce _ _ (λx=>e x.symm)])
    λb o hf cur _ _ hb=>⟨cur,hb,rfl,rfl⟩
 ·intro j n hj;rw [St.setNode_node] at hj;by_cases e:id=j
  ·subst e;rw [if_pos rfl] at hj;exact (hn n hj).2
  ·rw [if_neg e] at hj;exact ⟨hU' j (h.used j n hj).1,Node.idsOk_mono hU' (h.used j n hj).2⟩
 ·intro i j hij hi hj;by_cases ei:i=id
  ·subst ei;rw [va5,vce _ _ (λx=>hij x.symm)];exact ((hf (hid hi)).2.1 j (λx=>hij x.symm) (hsome j (λx=>hij x.symm) hj)).symm
  ·by_cases ej:j=id
   ·subst ej;rw [va5,vce _ _ ei];exact (hf (hid hj)).2.1 i ei (hsome i ei hi)
   ·rw [vce _ _ ei,vce _ _ ej];exact h.apart i j hij (hsome i ei hi) (hsome j ej hj)
 ·intro i hi;by_cases ei:i=id
  ·subst ei;rw [va5];exact (hf (hid hi)).2.2
  ·rw [vce _ _ ei];exact hXa i ei (hsome i ei hi)
 ·intro i hi b o hb;by_cases ei:i=id
  ·subst ei;rw [va5] at hb;exact (hf (hid hi)).1 b o hb
  ·rw [vce _ _ ei] at hb;exact h.mine i (hsome i ei hi) b o hb
 ·intro i;by_cases ei:i=id
  ·subst ei;rw [va5];exact hv1
  ·rw [vce _ _ ei];exact h.one i
 ·intro j n hj;by_cases e:j=id
  ·subst e;rw [St.setNode_node,if_pos rfl] at hj;exact hag n hj
  ·rw [hag' j e,ve2 st o e];rw [St.setNode_node,if_neg (λx=>e x.symm)] at hj;exact h.agree j n hj
 ·intro j hj ver el l hs;by_cases e:j=id
  ·subst e;rw [St.setNode_node,if_pos rfl] at hj;exact hdead hj ver el l hs
  ·rw [hag' j e] at hs;rw [St.setNode_node,if_neg (λx=>e x.symm)] at hj;exact h.dead j hj ver el l hs
def dropSh (sh:va2) (V id:Nat):va2:=λj=>if j=id then (sh j).map λx=>(V,x.2) else sh j
theorem vlb (hfr:V≠0/\¬U (V-1)) (id:Nat):ShapeKept U sh (dropSh sh V id):=by
 intro j _ ver e l hs;unfold dropSh at hs;split at hs
 ·obtain ⟨⟨v0,e0,l0⟩,h1,h2⟩:=Af.1 hs;cases h2;refine ⟨v0,h1,λhv=> ?_⟩;rcases hv with hv|hv
  ·exact absurd hv hfr.1
  ·exact absurd hv hfr.2
 ·exact ⟨ver,hs,λ_=>rfl⟩
theorem GS.drop (h:GS cx U X ρ F st sh V a w) {id:Nat} {n:Node} (hn:st.node id=some n):
  GS cx U (λb o=>X b o\/F id b o) ρ F (st.setNode id none) (dropSh sh V id) V a w:=by
 have hs:(st.node id).isSome=true:=by rw [hn];rfl
 have:=h.change (U':=U) (id:=id) (o:=none) (v':=ρ id) (Fn:=F id) (X':=λb o=>X b o\/F id b o) (sh':=dropSh sh V id) (λ_ h=>h) h.fresh.2 (λ_=>rfl) (h.one id) (vlb h.fresh id)
  (λ_ _ _ _ _ _ _ _ hf=>hf) (λn hn=>by cases hn) (λhne=>absurd rfl hne)
  (by
   intro b o hx;rcases hx with hx|hx
   ·exact h.mineX b o hx
   ·exact ⟨(h.mine id hs b o hx).1,(h.mine id hs b o hx).2,h.inside hs b o hx⟩)
  (by
   intro i hi his b o hf hx;rcases hx with hx|hx
   ·exact h.apartX i his b o hf hx
   ·exact h.apart i id hi his hs b o hf hx)
  (λn hn=>by cases hn) (λj hj=>by unfold dropSh;rw [if_neg hj])
  (by
   intro _ ver e l hs;unfold dropSh at hs;rw [if_pos rfl] at hs;obtain ⟨⟨v0,e0,l0⟩,_,h2⟩:=Af.1 hs
   cases h2;rfl)
 rw [vd6,vd6] at this;exact this
theorem GS.less (h:GS cx U X ρ F st sh V a w) {X':vaj} (hx:∀b o,X' b o->X b o):GS cx U X' ρ F st sh V a w:=
 ⟨h.slots,h.ids,h.nodes,h.used,h.apart,λi hi b o hf hb=>h.apartX i hi b o hf (hx b o hb),h.mine,λb o hb=>h.mineX b o (hx b o hb),h.one,h.kept,h.zold,h.size,h.small,h.defers,h.agree,h.dead,h.fresh⟩
theorem GS.place (h:GS cx U X ρ F st sh V a w) {id:Nat} {n:Node} {v':Value} {Fn X':vaj} {sh':va2} (hnone:st.node id=none) (hidV:id≠V-1) (hv:U id->v'=ρ id) (hv1:one1 v'=true)
  (hag:sh' id=vah (st.setNode id (some n)) id) (hag':∀j,j≠id->sh' j=sh j) (hold:U id->sh' id=sh id\/sh' id=none)
  (hFn:∀b o,Fn b o->X b o) (hX':∀b o,X' b o->X b o) (hap:Apart Fn X') (hN:NR cx.P w cx.Z (upd ρ id v') (upd F id Fn) sh' id n) (hi:n.idsOk (λi=>U i\/i=id) V):
  GS cx (λi=>U i\/i=id) X' (upd ρ id v') (upd F id Fn) (st.setNode id (some n)) sh' V a w:=by
 refine h.change (λ_ h=> .inl h) (λhu=>hu.elim h.fresh.2 λe=>hidV e.symm) hv hv1 ?_ ?_ (λn' hn'=>by cases hn';exact ⟨hN,.inr rfl,hi⟩)
  (λ_=>⟨λb o hf=>⟨(h.mineX b o (hFn b o hf)).1,(h.mineX b o (hFn b o hf)).2.1⟩,λi _ his b o hf hfn=>h.apartX i his b o hf (hFn b o hfn),hap⟩)
  (λb o hx=>h.mineX b o (hX' b o hx)) (λi _ his b o hf hx=>h.apartX i his b o hf (hX' b o hx)) (λn' hn'=>by cases hn';exact hag) hag' (λhh=>by cases hh)
 ·intro j hj ver e l hs;by_cases ej:j=id
  ·subst ej;rcases hold hj with hh|hh
   ·exact ⟨ver,hh▸hs,λ_=>rfl⟩
   ·rw [hh] at hs;cases hs
  ·rw [hag' j ej] at hs;exact ⟨ver,hs,λ_=>rfl⟩
 ·intro hu ver e l hs hver;rcases hold hu with hh|hh
  ·rw [hh] at hs;have:=h.known hs hver;rw [hnone] at this;cases this
  ·rw [hh] at hs;cases hs
theorem G.toGS (h:G cx U X ρ F st a w) (hV:V≠0/\¬U (V-1)):GS cx U X ρ F st (vah st) V a w:=
 ⟨h.slots,h.ids,h.nodes,λid n hn=>⟨(h.used id n hn).1,by
  have:=(h.used id n hn).2;cases n with
  |bx=>exact this
  |sl=>exact this.imp (λh=>h) .inl⟩,h.apart,h.apartX,h.mine,h.mineX,h.one,h.kept,h.zold,h.size,h.small,h.defers,λ_ _ _=>rfl,
  λid hn ver e l hs=>(by unfold vah at hs;rw [hn] at hs;cases hs),hV⟩
theorem GS.shape (h:GS cx U X ρ F st sh V a w):ShapeKept U sh (vah st):=by
 intro j _ ver e l hs;cases hn:st.node j with
 |none=>unfold vah at hs;rw [hn] at hs;cases hs
 |some n=>rw [<-h.agree j n hn] at hs;exact ⟨ver,hs,λ_=>rfl⟩
theorem GS.toG (h:GS cx U X ρ F st sh V a w) {U':Nat->Prop} (hU:∀i,U i->U' i) (hV:U' (V-1)):G cx U' X ρ F st a w:=by
 have same:∀b o,zU cx.Z b o->SameAt w w b o:=λb o _ cur _ _ hb=>⟨cur,hb,rfl,rfl⟩
 have hk:∀j,U j->∀ver e l,vah st j=some (ver,e,l)->(ver=0\/U (ver-1))->NavKept cx.P w w (F j) (F j) (ρ j):=
  λ_ _ _ _ _ _ _ _ _ h=>h
 refine ⟨λt=>(h.slots t).mono (h.ids t) same (λ_ _=>rfl) h.shape hk,λt=>(h.ids t).mono hU,λid n hn=> ?_,λid n hn=>⟨hU id (h.used id n hn).1,?_⟩,h.apart,h.apartX,h.mine,h.mineX,h.one,h.kept,h.zold,h.size,h.small,h.defers⟩
 ·exact (h.nodes id n hn).mono' (h.used id n hn).1 (h.used id n hn).2 same (λ_ _=>rfl) h.shape hk (λ_ _=>Iff.rfl) λb o _ cur _ _ hb=>⟨cur,hb,rfl,rfl⟩
 ·have:=(h.used id n hn).2;cases n with
  |bx z cs=>exact vap.mono hU this
  |sl q ver e es=>
   rcases this with h1|h1|h1
   ·exact .inl h1
   ·exact .inr (hU _ h1)
   ·exact .inr (h1▸hV)
mutual
theorem vtq {q:Bool}:∀{c:CV} {b:Nat} {st:St} {tv:TV} {b':Nat} {st':St},(vay q b c).run st=some ((tv,b'),st')->b<=b'
 | .a _,b,st,tv,b',st',h=>by simp only [vay] at h;cases run_pure h;exact Ab _
 | .sl z e es,b,st,tv,b',st',h=>by
  simp only [vay] at h;split at h
  ·cases run_pure h;exact Ab _
  ·obtain ⟨_,s1,h1,h2⟩:=vaa h;cases run_pure h2;omega
 | .bx z cs,b,st,tv,b',st',h=>by
  simp only [vay] at h;obtain ⟨r,s1,h1,h2⟩:=vaa h;obtain ⟨_,s2,h3,h4⟩:=vaa h2;cases run_pure h4;have:=ve4 h1;omega
 | .st cs,b,st,tv,b',st',h=>by
  simp only [vay] at h;obtain ⟨r,s1,h1,h2⟩:=vaa h;cases run_pure h2;exact ve4 h1
 | .tp cs,b,st,tv,b',st',h=>by
  simp only [vay] at h;obtain ⟨r,s1,h1,h2⟩:=vaa h;cases run_pure h2;exact ve4 h1
 | .fn f fs cs,b,st,tv,b',st',h=>by
  simp only [vay] at h;obtain ⟨r,s1,h1,h2⟩:=vaa h;obtain ⟨r2,s2,h3,h4⟩:=vaa h2;cases run_pure h4;exact Aq (ve4 h1) (ve4 h3)
 | .ic t c,b,st,tv,b',st',h=>by
  simp only [vay] at h;obtain ⟨r,s1,h1,h2⟩:=vaa h;cases run_pure h2;exact vtq h1
 | .un,b,st,tv,b',st',h=>by simp only [vay] at h;cases run_pure h;exact Ab _
theorem ve4 {q:Bool}:∀{cs:List CV} {b:Nat} {st:St} {r:List TV×Nat} {st':St},(vbg q b cs).run st=some (r,st')->b<=r.2
 | [],b,st,r,st',h=>by simp only [vbg] at h;cases run_pure h;exact Ab _
 |c::cs,b,st,r,st',h=>by
  simp only [vbg] at h;obtain ⟨r1,s1,h1,h2⟩:=vaa h;obtain ⟨r2,s2,h3,h4⟩:=vaa h2;cases run_pure h4;exact Aq (vtq (tv:=r1.1) (b':=r1.2) h1) (ve4 (r:=r2) h3)
end
structure Old (U:Nat->Prop) (ρ ρ':Nat->Value) (F F':Nat->vaj) (sh sh':va2) (st st':St):Prop where
 rho:∀i,U i->ρ' i=ρ i
 f:∀i,U i->F' i=F i
 shape:∀i,U i->sh' i=sh i
 node:∀i,U i->st'.node i=st.node i
 slots:st'.slots=st.slots
theorem Old.refl (U:Nat->Prop) (ρ:Nat->Value) (F:Nat->vaj) (sh:va2) (st:St):Old U ρ ρ F F sh sh st st:=⟨λ_ _=>rfl,λ_ _=>rfl,λ_ _=>rfl,λ_ _=>rfl,rfl⟩
theorem Old.trans {U U':Nat->Prop} {ρ ρ1 ρ2:Nat->Value} {F F1 F2:Nat->vaj} {sh sh1 sh2:va2} {st st1 st2:St} (h:Old U ρ ρ1 F F1 sh sh1 st st1) (h':Old U' ρ1 ρ2 F1 F2 sh1 sh2 st1 st2) (hu:∀i,U i->U' i):
  Old U ρ ρ2 F F2 sh sh2 st st2:=
 ⟨λi hi=>(h'.rho i (hu i hi)).trans (h.rho i hi),λi hi=>(h'.f i (hu i hi)).trans (h.f i hi),λi hi=>(h'.shape i (hu i hi)).trans (h.shape i hi),λi hi=>(h'.node i (hu i hi)).trans (h.node i hi),h'.slots.trans h.slots⟩
theorem Old.tr {U:Nat->Prop} {ρ ρ':Nat->Value} {F F':Nat->vaj} {sh sh':va2} {st st':St} (h:Old U ρ ρ' F F' sh sh' st st') {P:Program} {Z:Zn} {c:TV} {v:Value} (hc:TR P w Z ρ F sh c v) (hi:idsIn U c):TR P w Z ρ' F' sh' c v:=
 hc.mono hi (λ_ _ _ cur _ _ hb=>⟨cur,hb,rfl,rfl⟩) h.rho (λid hu ver e l hs=>by rw [h.shape id hu] at hs;exact ⟨ver,hs,λ_=>rfl⟩) λid hu _ _ _ _ _=>by rw [h.f id hu];exact λ_ _ h=>h
theorem Old.trl {U:Nat->Prop} {ρ ρ':Nat->Value} {F F':Nat->vaj} {sh sh':va2} {st st':St} (h:Old U ρ ρ' F F' sh sh' st st') {P:Program} {Z:Zn} {cs:List TV} {vs:List Value} (hc:TRL P w Z ρ F sh cs vs) (hi:vap U cs):TRL P w Z ρ' F' sh' cs vs:=
 .of hc.length λi c u h1 h2=>h.tr (hc.get i c u h1 h2) (vbm hi h1)
theorem GS.more (h:GS cx U X ρ F st sh V a w) {U':Nat->Prop} (hu:∀i,U i->U' i) (hfr:¬U' (V-1)):GS cx U' X ρ F st sh V a w:=
 ⟨h.slots,λt=>(h.ids t).mono hu,h.nodes,λi n hn=>⟨hu i (h.used i n hn).1,Node.idsOk_mono hu (h.used i n hn).2⟩,h.apart,h.apartX,h.mine,h.mineX,h.one,h.kept,h.zold,h.size,h.small,h.defers,h.agree,h.dead,h.fresh.1,hfr⟩
abbrev To (U:Nat->Prop) (b b':Nat):Nat->Prop:=λi=>U i\/(b<=i/\i<b')
theorem vbz {b b':Nat} (hfr:¬U (V-1)) (hb:b'<=V-1):¬To U b b' (V-1):=by
 rintro (h|⟨_,h⟩)
 ·exact hfr h
 ·omega
mutual
theorem vy4 {q:Bool}:∀{c:CV} {U:Nat->Prop} {X:vaj} {ρ:Nat->Value} {F:Nat->vaj} {st:St} {sh:va2} {b b':Nat} {v:Value} {Fc:vaj} {tv:TV} {st':St},GS cx U X ρ F st sh V a w->(∀i,b<=i->i<V->¬U i)->
  CR cx.P w cx.Z c v Fc->(∀b o,Fc b o->X b o)->(vay q b c).run st=some ((tv,b'),st')->b'<=V-1->
  ∃ρ' F' sh',GS cx (To U b b') (λb o=>X b o/\¬Fc b o) ρ' F' st' sh' V a w/\TR cx.P w cx.Z ρ' F' sh' tv v/\idsIn (To U b b') tv/\Old U ρ ρ' F F' sh sh' st st'
 | .a u,U,X,ρ,F,st,sh,b,b',v,Fc,tv,st',h,hb,hc,hF,hr,hle=>by
  simp only [vay] at hr;simp only [CR] at hc;cases run_pure hr;obtain ⟨rfl,he⟩:=hc;exact ⟨ρ,F,sh,(h.less λ_ _ hx=>hx.1).more (λ_ hi=> .inl hi) (vbz h.fresh.2 hle),.a _,trivial,.refl _ _ _ _ _⟩
 | .sl z e es,U,X,ρ,F,st,sh,b,b',v,Fc,tv,st',h,hb,hc,hF,hr,hle=>by
  simp only [vay] at hr;simp only [CR] at hc;split at hr
  ·rename_i hz;rw [if_pos hz] at hc;cases run_pure hr;exact ⟨ρ,F,sh,(h.less λ_ _ hx=>hx.1).more (λ_ hi=> .inl hi) (vbz h.fresh.2 hle),.sz _ _ _ hc.1,trivial,.refl _ _ _ _ _⟩
  ·rename_i hz;rw [if_neg hz] at hc;obtain ⟨_,s1,h1,h2⟩:=vaa hr;cases vby h1;cases run_pure h2;have hbU:¬U b:=hb b (Ab _) zo;have hnone:st.node b=none:=by
    cases hn:st.node b with
    |none=>rfl
    |some n=>exact absurd (h.used b n hn).1 hbU
   have hne:∀i,U i->i≠b:=λi hi e=>hbU (e▸hi);have hp:=h.place (id:=b) (n:= .sl q 0 e es) (v':=v) (Fn:=Fc) (X':=λb o=>X b o/\¬Fc b o) (sh':=λj=>if j=b then some (0,e,es.length) else sh j) hnone zo (λhu=>absurd hu hbU) hc.one
    (by unfold vah;rw [St.setNode_node,if_pos rfl,if_pos rfl]) (λj hj=>if_neg hj) (λhu=>absurd hu hbU) hF (λ_ _ hx=>hx.1) (λb o hf hx=>hx.2 hf) (.sl q 0 e es (by rw [va5,va5];exact hc)) (.inl rfl)
   refine ⟨_,_,_,hp.more (λi hi=>hi.imp (λh=>h) λe=>by subst e;omega) (vbz h.fresh.2 hle),?_,.inr ⟨Ab _,zo⟩,λi hi=>vce _ _ (hne i hi),λi hi=>vce _ _ (hne i hi),λi hi=>if_neg (hne i hi),λi hi=> ?_,rfl⟩
   ·have:=TR.rf (P:=cx.P) (w:=w) (Z:=cx.Z) (ρ:=upd ρ b v) (F:=upd F b Fc) (sh:=λj=>if j=b then some (0,e,es.length) else sh j) b
    rwa [va5] at this
   ·exact (St.setNode_node st b i _).trans (if_neg λe=>hne i hi e.symm)
 | .bx z cs,U,X,ρ,F,st,sh,b,b',v,Fc,tv,st',h,hb,hc,hF,hr,hle=>by
  simp only [vay] at hr;simp only [CR] at hc;obtain ⟨b0,off,cur,t,Fi,rfl,h2,h3,h4,h5,h6,h7,h8⟩:=hc;obtain ⟨r,s1,hr1,hr2⟩:=vaa hr;obtain ⟨_,s2,hr3,hr4⟩:=vaa hr2;cases vby hr3;cases run_pure hr4;have hle1:=ve4 hr1;have hbU:¬U b:=hb b (Ab _) zo;obtain ⟨ρ1,F1,sh1,g1,t1,i1,o1⟩:=vhc h (b:=b+1) (λi hi hi2=>hb i zo hi2) h5 (λb' o' hf=>hF b' o' ((h8 b' o').2 (.inr hf))) hr1 hle;have hbU1:¬To U (b+1) r.2 b:=by
   rintro (h|⟨h,_⟩)
   ·exact hbU h
   ·omega
  have hnone:s1.node b=none:=by
   cases hn:s1.node b with
   |none=>rfl
   |some n=>exact absurd (g1.used b n hn).1 hbU1
  have hne:∀i,To U (b+1) r.2 i->i≠b:=λi hi e=>hbU1 (e▸hi);let Fn:vaj:=λb' o'=>z=false/\b'=b0/\off<=o'/\o'<off+cs.length;have hFn:∀b' o',Fn b' o'->X b' o'/\¬Fi b' o':=by
   rintro b' o' ⟨hz,rfl,ho1,ho2⟩
   exact ⟨hF _ _ ((h8 _ _).2 (.inl ⟨hz,rfl,ho1,ho2⟩)),h7 hz o' ho1 ho2⟩
  have hlen:r.1.length=cs.length:=by rw [<-t1.length];simp;omega
  have hX:∀b' o',(X b' o'/\¬Fc b' o')->(X b' o'/\¬Fi b' o'):=λb' o' hx=>⟨hx.1,λhf=>hx.2 ((h8 b' o').2 (.inr hf))⟩
  have hp:=g1.place (id:=b) (n:= .bx z r.1) (v':= .pointer (some ⟨b0,off,none⟩)) (Fn:=Fn) (X':=λb o=>X b o/\¬Fc b o) (sh':=λj=>if j=b then none else sh1 j) hnone zo (λhu=>absurd hu hbU1) rfl
   (by unfold vah;rw [St.setNode_node,if_pos rfl,if_pos rfl]) (λj hj=>if_neg hj) (λhu=>absurd hu hbU1) hFn hX (λb' o' hf hx=>hx.2 ((h8 b' o').2 (.inl hf)))
   (.bx z r.1 b0 off cur t (va5 _ _ _) h2 zo (by intro e;rw [e] at hlen;exact h4 (Ah hlen.symm))
    (λi c hi u hu=>by
     have:=t1.get i c u hi (by
      rw [Ac,if_pos (by rw [<-hlen];exact (Ad.1 hi).1),Ae,Array.getElem?_toList]
      exact hu)
     exact this.mono (vbm i1 hi) (λ_ _ _ cur _ _ hb=>⟨cur,hb,rfl,rfl⟩) (λj hj=>vce _ _ (hne j hj)) (λj hj ver e l hs=>by
      rw [if_neg (hne j hj)] at hs;exact ⟨ver,hs,λ_=>rfl⟩) λj hj _ _ _ _ _=>by rw [vce _ _ (hne j hj)];exact λ_ _ h=>h)
    (λb' o'=>by rw [va5,hlen]) (λhz i hi=>(h6 hz).2 i zo))
   (vap.mono (λi hi=> .inl hi) i1)
  refine ⟨_,_,_,hp.more (λi hi=> ?_) (vbz h.fresh.2 hle),?_,.inr ⟨Ab _,zo⟩,?_⟩
  ·rcases hi with (hi|hi)|rfl
   ·exact .inl hi
   ·exact .inr ⟨zo,hi.2⟩
   ·exact .inr ⟨Ab _,zo⟩
  ·have:=TR.rf (P:=cx.P) (w:=w) (Z:=cx.Z) (ρ:=upd ρ1 b (.pointer (some ⟨b0,off,none⟩))) (F:=upd F1 b Fn) (sh:=λj=>if j=b then none else sh1 j) b
   rwa [va5] at this
  ·refine o1.trans (U':=To U (b+1) r.2) ⟨λi hi=>vce _ _ (hne i hi),λi hi=>vce _ _ (hne i hi),λi hi=>if_neg (hne i hi),λi hi=> ?_,rfl⟩ λi hi=> .inl hi;exact (St.setNode_node s1 b i _).trans (if_neg λe=>hne i hi e.symm)
 | .st cs,U,X,ρ,F,st,sh,b,b',v,Fc,tv,st',h,hb,hc,hF,hr,hle=>by
  simp only [vay] at hr;simp only [CR] at hc;obtain ⟨us,rfl,h2⟩:=hc;obtain ⟨r,s1,hr1,hr2⟩:=vaa hr;cases run_pure hr2;obtain ⟨ρ1,F1,sh1,g1,t1,i1,o1⟩:=vhc h hb h2 hF hr1 hle;exact ⟨ρ1,F1,sh1,g1,.st _ us (by rw [<-Aa];exact t1.length) λi c u k1 k2=>t1.get i c u k1 (by simpa using k2),i1,o1⟩
 | .tp cs,U,X,ρ,F,st,sh,b,b',v,Fc,tv,st',h,hb,hc,hF,hr,hle=>by
  simp only [vay] at hr;simp only [CR] at hc;obtain ⟨us,rfl,h2⟩:=hc;obtain ⟨r,s1,hr1,hr2⟩:=vaa hr;cases run_pure hr2;obtain ⟨ρ1,F1,sh1,g1,t1,i1,o1⟩:=vhc h hb h2 hF hr1 hle;exact ⟨ρ1,F1,sh1,g1,.tp _ us (by rw [<-Aa];exact t1.length) λi c u k1 k2=>t1.get i c u k1 (by simpa using k2),i1,o1⟩
 | .fn f fs cs,U,X,ρ,F,st,sh,b,b',v,Fc,tv,st',h,hb,hc,hF,hr,hle=>by
  simp only [vay] at hr;simp only [CR] at hc;obtain ⟨xs,us,G1,G2,rfl,h2,h3,h4,h5⟩:=hc;obtain ⟨p,s1,hr1,hr2⟩:=vaa hr;obtain ⟨r,s2,hr3,hr4⟩:=vaa hr2;cases run_pure hr4;have hle1:=ve4 hr1;have hle2:=ve4 hr3;obtain ⟨ρ1,F1,sh1,g1,t1,i1,o1⟩:=vhc h hb h2 (λb o hf=>hF b o ((h5 b o).2 (.inl hf))) hr1 zo
  obtain ⟨ρ2,F2,sh2,g2,t2,i2,o2⟩:=vhc g1 (λi hi hi2=>by
   rintro (hu|hu)
   ·exact hb i zo hi2 hu
   ·omega) h3 (λb o hf=>⟨hF b o ((h5 b o).2 (.inr hf)),λhg=>h4 b o hg hf⟩) hr3 hle
  have hsub:∀i,To (To U b p.2) p.2 r.2 i->To U b r.2 i:=by
   rintro i ((hi|hi)|hi)
   ·exact .inl hi
   ·exact .inr ⟨hi.1,zo⟩
   ·exact .inr ⟨zo,hi.2⟩
  refine ⟨ρ2,F2,sh2,(g2.less λb o hx=>⟨⟨hx.1,λhg=>hx.2 ((h5 b o).2 (.inl hg))⟩,λhg=>hx.2 ((h5 b o).2 (.inr hg))⟩).more hsub (vbz h.fresh.2 hle),?_,⟨vap.mono (λi hi=>hsub i (.inl hi)) i1,vap.mono hsub i2⟩,o1.trans o2 λi hi=> .inl hi⟩;have t1':=o2.trl t1 i1;exact .fn f p.1 r.1 xs us (by rw [<-Aa];exact t1'.length) (by rw [<-Aa];exact t2.length) (λi c u k1 k2=>t1'.get i c u k1 (by simpa using k2)) λi c u k1 k2=>t2.get i c u k1 (by simpa using k2)
 | .ic t c,U,X,ρ,F,st,sh,b,b',v,Fc,tv,st',h,hb,hc,hF,hr,hle=>by
  simp only [vay] at hr;simp only [CR] at hc;obtain ⟨u,rfl,h2⟩:=hc;obtain ⟨r,s1,hr1,hr2⟩:=vaa hr;cases run_pure hr2;obtain ⟨ρ1,F1,sh1,g1,t1,i1,o1⟩:=vy4 h hb h2 hF hr1 hle;exact ⟨ρ1,F1,sh1,g1,.ic t _ u t1,i1,o1⟩
 | .un,U,X,ρ,F,st,sh,b,b',v,Fc,tv,st',h,hb,hc,hF,hr,hle=>by
  simp only [vay] at hr;cases run_pure hr;exact ⟨ρ,F,sh,(h.less λ_ _ hx=>hx.1).more (λ_ hi=> .inl hi) (vbz h.fresh.2 hle),.un _,trivial,.refl _ _ _ _ _⟩
theorem vhc {q:Bool}:∀{cs:List CV} {U:Nat->Prop} {X:vaj} {ρ:Nat->Value} {F:Nat->vaj} {st:St} {sh:va2} {b:Nat} {vs:List Value} {Fc:vaj} {r:List TV×Nat} {st':St},GS cx U X ρ F st sh V a w->(∀i,b<=i->i<V->¬U i)->
  CRL cx.P w cx.Z cs vs Fc->(∀b o,Fc b o->X b o)->(vbg q b cs).run st=some (r,st')->r.2<=V-1->
  ∃ρ' F' sh',GS cx (To U b r.2) (λb o=>X b o/\¬Fc b o) ρ' F' st' sh' V a w/\TRL cx.P w cx.Z ρ' F' sh' r.1 vs/\vap (To U b r.2) r.1/\Old U ρ ρ' F F' sh sh' st st'
 | [],U,X,ρ,F,st,sh,b,vs,Fc,r,st',h,hb,hc,hF,hr,hle=>by
  simp only [vbg] at hr;simp only [CRL] at hc;cases run_pure hr;obtain ⟨rfl,_⟩:=hc;exact ⟨ρ,F,sh,(h.less λ_ _ hx=>hx.1).more (λ_ hi=> .inl hi) (vbz h.fresh.2 hle),.nil,trivial,.refl _ _ _ _ _⟩
 |c::cs,U,X,ρ,F,st,sh,b,vs,Fc,r,st',h,hb,hc,hF,hr,hle=>by
  simp only [vbg] at hr;simp only [CRL] at hc;obtain ⟨v,vs',G1,G2,rfl,h2,h3,h4,h5⟩:=hc;obtain ⟨p,s1,hr1,hr2⟩:=vaa hr;obtain ⟨r2,s2,hr3,hr4⟩:=vaa hr2;cases run_pure hr4;have hle1:=vtq (tv:=p.1) (b':=p.2) hr1;have hle2:=ve4 hr3;obtain ⟨ρ1,F1,sh1,g1,t1,i1,o1⟩:=vy4 (tv:=p.1) (b':=p.2) h hb h2 (λb o hf=>hF b o ((h5 b o).2 (.inl hf))) hr1 (by simp only at hle;omega)
  obtain ⟨ρ2,F2,sh2,g2,t2,i2,o2⟩:=vhc g1 (λi hi hi2=>by
   rintro (hu|hu)
   ·exact hb i zo hi2 hu
   ·omega) h3 (λb o hf=>⟨hF b o ((h5 b o).2 (.inr hf)),λhg=>h4 b o hg hf⟩) hr3 hle
  have hsub:∀i,To (To U b p.2) p.2 r2.2 i->To U b r2.2 i:=by
   rintro i ((hi|hi)|hi)
   ·exact .inl hi
   ·exact .inr ⟨hi.1,zo⟩
   ·exact .inr ⟨zo,hi.2⟩
  exact ⟨ρ2,F2,sh2,(g2.less λb o hx=>⟨⟨hx.1,λhg=>hx.2 ((h5 b o).2 (.inl hg))⟩,λhg=>hx.2 ((h5 b o).2 (.inr hg))⟩).more hsub (vbz h.fresh.2 hle),.cons (o2.tr t1 i1) t2,⟨idsIn.mono (λi hi=>hsub i (.inl hi)) i1,vap.mono hsub i2⟩,o1.trans o2 λi hi=> .inl hi⟩
end
def th1:PV->PV
 | .fz e es=> .sl e es
 |c=>c
theorem vwi (x:PV):x.thaw.cells=x.cells.map th1:=by
 cases x<;>rfl
theorem vy5 (es:List PV):flat (es.map PV.thaw)=(flat es).map th1:=by
 induction es with
 |nil=>rfl
 |cons y es ih=>
  have e1:flat (y::es)=y.cells++flat es:=by simp [flat]
  have e2:flat ((y::es).map PV.thaw)=y.thaw.cells++flat (es.map PV.thaw):=by simp [flat]
  rw [e1,e2,ih,vwi,List.map_append]
theorem RC.th1 {P:Program} {Z:Zn} {c:PV} {v:Value} (h:RC P w Z c v):RC P w Z (th1 c) v:=by
 cases c with
 |fz e es=>exact h.ofFz
 |_=>exact h
theorem RC.thaw {P:Program} {Z:Zn} {e:Nat} {es:List PV} {v:Value} (h:RC P w Z (.sl e es) v):RC P w Z (.sl e (es.map PV.thaw)) v:=by
 cases h with
 |sl _ _ x len cap m vs hl hm hw hx hn hc hr=>
  refine .sl e _ x len cap m vs (by rw [Aj];exact hl) hm ?_ (λy hy hne=>hx y hy λh0=>hne (by rw [h0];rfl)) hn ?_ ?_
  ·intro y hy;obtain ⟨z,hz,rfl⟩:=List.mem_map.1 hy;rw [vwi,Aj];exact hw z hz
  ·intro k c hk;rw [vy5,An] at hk;obtain ⟨c0,hc0,rfl⟩:=Af.1 hk;exact hc k c0 hc0
  ·intro k c hk;rw [vy5,An] at hk;obtain ⟨c0,hc0,rfl⟩:=Af.1 hk;exact (hr k c0 hc0).th1
theorem RC.thawIf {P:Program} {Z:Zn} {e:Nat} {es:List PV} {v:Value} (q:Bool) (h:RC P w Z (.sl e es) v):RC P w Z (.sl e (if q then es.map PV.thaw else es)) v:=by
 cases q
 ·exact h
 ·exact h.thaw
theorem RC.nilZ {P:Program} {Z Z':Zn} {e:Nat} {v:Value} (h:RC P w Z (.sl e []) v):RC P w Z' (.sl e []) v:=by
 cases h with
 |sl _ _ x len cap m vs hl hm hw hx hn hc hr=>exact .sl e [] x len cap m vs hl hm hw hx hn (by simp [flat]) (by simp [flat])
def ZR (z:Bool) (cx:Cx) (F:Nat->vaj) (st:St):Zn:=λe b o=>cx.Z e b o\/(z=false/\∃i,(st.node i).isSome=true/\F i b o)
theorem qv9 (z:Bool) {c:PV} {v:Value} (h:RC cx.P w cx.Z c v):RC cx.P w (ZR z cx F st) c v:=h.mono (λ_ _ _ cur _ _ hb=>⟨cur,hb,rfl,rfl⟩) λ_ _ _ h=> .inl h
theorem qfu {c:PV} {v:Value} (h:RC cx.P w (ZS cx F st) c v):RC cx.P w (ZR false cx F st) c v:=h.mono (λ_ _ _ cur _ _ hb=>⟨cur,hb,rfl,rfl⟩) λ_ _ _ h=>h.imp (λh=>h) λh=>⟨rfl,h⟩
abbrev Nil:vaj:=λ_ _=>False
theorem qm7 {P:Program} {Z:Zn} {c:CV} {cs:List CV} {v:Value} {vs:List Value} (h:CR P w Z c v Nil) (hs:CRL P w Z cs vs Nil):CRL P w Z (c::cs) (v::vs) Nil:=by
 simp only [CRL];exact ⟨v,vs,Nil,Nil,rfl,h,hs,λ_ _ h=>h.elim,λb o=>⟨λh=>h.elim,λh=>h.elim (λh=>h) λh=>h⟩⟩
theorem voi {P:Program} {Z:Zn}:CRL P w Z [] [] Nil:=by
 simp only [CRL];exact ⟨trivial,λ_ _ h=>h⟩
theorem vme {α:Type} {p:Bool} {m:M α} {st:St} {r:α×St} (h:(if p=true then M.fail else m).run st=some r):p=false/\m.run st=some r:=by
 cases p with
 |true=>exact (vac h).elim
 |false=>exact ⟨rfl,h⟩
theorem qe3 {id:Nat} {q:Bool} {ver e:Nat} {es:List PV} (hn:st.node id=some (.sl q ver e es)):(elems (.rf id)).run st=some ((e,es),st):=by simp [elems,getN,M.bind,M.run,hn]
theorem qag {id lo k:Nat} {q:Bool} {ver e:Nat} {es:List PV} (hn:st.node id=some (.sl q ver e es)):(elems (.sb id lo k)).run st=some ((e,(es.drop lo).take k),st):=by simp [elems,getN,M.bind,M.run,hn]
theorem qco {id ver:Nat} {p:List (Nat×Nat×Nat)} {q:Bool} {e:Nat} {es:List PV} (hn:st.node id=some (.sl q ver e es)) {r:Nat×List PV} (hg:dget es p=some r):(elems (.ri id ver p)).run st=some (r,st):=by simp [elems,getN,M.bind,M.run,hn,hg]
theorem qh5 (h:G cx U X ρ F st a w) {z:Bool} {id:Nat} {z0:Bool} (hzz:z=false\/z0=true) {cs:List TV} (hn:st.node id=some (.bx z0 cs)) {o n:Nat} (hn0:0<n) (hfit:o+n<=cs.length) {cs':List CV} (hl:cs'.length=n)
  (hcs:∀us,TRL cx.P w cx.Z ρ F (vah st) ((cs.drop o).take n) us->CRL cx.P w (ZR z cx F st) cs' us Nil) {v:Value} (hv:∃b off,ρ id= .pointer (some ⟨b,off,none⟩)/\v= .pointer (some ⟨b,off+o,none⟩)):
  CR cx.P w (ZR z cx F st) (.bx true cs') v Nil:=by
 obtain ⟨b,off,cur,t,hr,hb,hsz,htr,hi,hF,hz⟩:=vno h hn;obtain ⟨b',off',hr',rfl⟩:=hv;rw [hr] at hr';injection hr' with hr'
 injection hr' with hr'
 injection hr' with e1 e2
 subst e1 e2;simp only [CR];have hd:=htr.drop o;have ht:TRL cx.P w cx.Z ρ F (vah st) ((cs.drop o).take n) ((cur.toList.drop (off+o)).take n):=by
  refine .of (by simp;omega) λi c u hc hu=> ?_;rw [Ac] at hc hu;split at hc
  ·rename_i hin;rw [if_pos hin,Ae] at hu;refine hd.get i c u hc ?_;rw [Ae,Ac,if_pos zo,Ae];rw [<-hu];congr 1;omega
  ·cases hc
 refine ⟨b,off+o,cur,t,Nil,rfl,hb,zo,by intro e;rw [e] at hl;simp at hl;omega,by rw [hl];exact hcs _ ht,λ_=>⟨λ_ _ h=>h,λi hi=> ?_⟩,λe=>(by cases e),λb' o'=>⟨λh=>h.elim,λh=>h.elim (λh=>by cases h.1) λh=>h⟩⟩;cases z0 with
 |true=>rw [Nat.add_assoc];obtain ⟨e,he⟩:=hz rfl (o+i) zo;exact ⟨e,.inl he⟩
 |false=>exact ⟨0,.inr ⟨hzz.resolve_right (by simp),id,by rw [hn];rfl,(hF _ _).2 ⟨rfl,rfl,zo,zo⟩⟩⟩
theorem qw5 (h:G cx U X ρ F st a w) {id:Nat} {z0:Bool} {cs:List TV} (hn:st.node id=some (.bx z0 cs)) {o n:Nat} (hn0:0<n) (hfit:o+n<=cs.length) {cs':List CV} (hl:cs'.length=n)
  (hcs:∀us,TRL cx.P w cx.Z ρ F (vah st) ((cs.drop o).take n) us->CRL cx.P w (ZR false cx F st) cs' us Nil) {v:Value} (hv:∃b off,ρ id= .pointer (some ⟨b,off,none⟩)/\v= .pointer (some ⟨b,off+o,none⟩)):
  CR cx.P w (ZR false cx F st) (.bx true cs') v Nil:=qh5 h (.inl rfl) hn hn0 hfit hl hcs hv
theorem TRL.take {P:Program} {Z:Zn} {cs:List TV} {us:List Value} (h:TRL P w Z ρ F sh cs us) (n:Nat):TRL P w Z ρ F sh (cs.take n) (us.take n):=
 .of (by have:=h.length;simp;omega) λi c u k1 k2=>by
  rw [Ac] at k1 k2;split at k1
  ·rename_i hin;rw [if_pos hin] at k2;exact h.get i c u k1 k2
  ·cases k1
mutual
theorem vqq (h:G cx U X ρ F st a w) {z:Bool}:∀(k:Nat) {n:Nat} {c:TV} {v:Value} {y:CV} {st':St},TR cx.P w cx.Z ρ F (vah st) c v->idsIn U c->(vba z k n c).run st=some (y,st')->
  st'=st/\CR cx.P w (ZR z cx F st) y v Nil
 |0,n,c,v,y,st',hc,hi,hr=>by simp only [vba] at hr;exact (vac hr).elim
 |k+1,n,c,v,y,st',hc,hi,hr=>by
  cases c with
  |a u=>
   simp only [vba] at hr;cases run_pure hr;exact ⟨rfl,by simp only [CR];exact ⟨vib hc,λ_ _ h=>h⟩⟩
  |nl e=>
   simp only [vba] at hr;cases run_pure hr;cases hc with
   |nl _ m hm=>exact ⟨rfl,by simp only [CR,if_true];exact ⟨.empty hm,λ_ _ h=>h⟩⟩
  |sz e es=>
   simp only [vba] at hr;cases run_pure hr;cases hc with
   |sz _ _ _ hrc=>exact ⟨rfl,by simp only [CR,if_true];exact ⟨qv9 z hrc,λ_ _ h=>h⟩⟩
  |st cs=>
   simp only [vba] at hr;obtain ⟨ys,s1,h1,h2⟩:=vaa hr;cases run_pure h2;cases hc with
   |st _ us hl hcc=>
    obtain ⟨e1,hcr⟩:=vil h k (.of (by rw [Aa];exact hl) λi c u k1 k2=>hcc i c u k1 (by simpa using k2)) hi h1;have e1':=e1.symm;subst e1';exact ⟨rfl,by simp only [CR];exact ⟨us,rfl,hcr⟩⟩
  |fn f fs cs=>
   simp only [vba] at hr;obtain ⟨ys,s1,h1,h2⟩:=vaa hr;obtain ⟨zs,s2,h3,h4⟩:=vaa h2;cases run_pure h4;cases hc with
   |fn _ _ _ xs us hx hl hf hcc=>
    obtain ⟨e1,hcr1⟩:=vil h k (.of (by rw [Aa];exact hx) λi c u k1 k2=>hf i c u k1 (by simpa using k2)) hi.1 h1;have e1':=e1.symm;subst e1';obtain ⟨e1,hcr2⟩:=vil h k (.of (by rw [Aa];exact hl) λi c u k1 k2=>hcc i c u k1 (by simpa using k2)) hi.2 h3;have e1':=e1.symm;subst e1';exact ⟨rfl,by simp only [CR];exact ⟨xs,us,Nil,Nil,rfl,hcr1,hcr2,λ_ _ h=>h.elim,λ_ _=>⟨λh=>h.elim,λh=>h.elim (λh=>h) λh=>h⟩⟩⟩
  |ic t x=>
   simp only [vba] at hr;obtain ⟨y',s1,h1,h2⟩:=vaa hr;cases run_pure h2;cases hc with
   |ic _ _ u hx=>
    obtain ⟨e1,hcr⟩:=vqq h k hx hi h1;have e1':=e1.symm;subst e1';exact ⟨rfl,by simp only [CR];exact ⟨u,rfl,hcr⟩⟩
  |un=>
   simp only [vba] at hr;cases run_pure hr;exact ⟨rfl,by simp only [CR];exact λ_ _ h=>h⟩
  |rf id=>
   simp only [vba] at hr;obtain ⟨nd,s1,h1,h2⟩:=vaa hr;cases vbn h1;split at h2
   ·rename_i q ver e es hn;obtain ⟨hz,h2⟩:=vme h2;cases run_pure h2;obtain ⟨_,hrc⟩:=vp8 h hc (qe3 hn);have hrz:=(qfu hrc).thawIf q;refine ⟨rfl,?_⟩;simp only [CR,if_true];refine ⟨?_,λ_ _ h=>h⟩;cases z with
    |false=>exact hrz
    |true=>
     have he:es= []:=by simpa using hz
     subst he;have:(if q=true then List.map PV.thaw [] else ([]:List PV))= []:=by cases q<;>rfl
     rw [this] at hrz⊢;exact hrz.nilZ
   ·rename_i z0 cs hn;obtain ⟨hzz,h2⟩:(z=false\/z0=true)/\((vbo z k cs).bind λcs'=>M.pure (.bx true cs')).run st=some (y,st'):=by
     split at h2
     ·exact (vac h2).elim
     ·rename_i hc0;refine ⟨?_,h2⟩;cases z<;>cases z0<;>simp_all
    obtain ⟨ys,s2,h3,h4⟩:=vaa h2;cases run_pure h4;obtain ⟨b,off,cur,t,hr0,hb,hsz,htr,hib,hF,hz⟩:=vno h hn;obtain ⟨e1,hcr⟩:=vil h k htr hib h3;have e1':=e1.symm;subst e1';have hN:=h.nodes id _ hn;have hne:cs≠[]:=by cases hN with|bx _ _ _ _ _ _ _ _ _ hne _ _ _=>exact hne
    have hv:v=ρ id:=by cases hc;rfl
    refine ⟨rfl,qh5 h hzz hn (o:=0) (n:=cs.length) (Al.2 hne) zo (by rw [<-hcr.length];simp;omega) (λus htu=> ?_) ⟨b,off,hr0,by rw [hv,hr0];rfl⟩⟩;rw [List.drop_zero,List.take_length] at htu;exact (vil h k htu hib h3).2
   ·exact (vac h2).elim
  |sb id lo j=>
   simp only [vba] at hr;obtain ⟨hz,hr⟩:=vme hr;subst hz;obtain ⟨nd,s1,h1,h2⟩:=vaa hr;cases vbn h1;split at h2
   ·rename_i q ver e es hn;cases run_pure h2;obtain ⟨_,hrc⟩:=vp8 h hc (qag hn);exact ⟨rfl,by simp only [CR,if_true];exact ⟨(qfu hrc).thawIf q,λ_ _ h=>h⟩⟩
   ·exact (vac h2).elim
  |ri id ver p=>
   simp only [vba] at hr;obtain ⟨hz,hr⟩:=vme hr;subst hz;obtain ⟨nd,s1,h1,h2⟩:=vaa hr;cases vbn h1;split at h2
   ·rename_i q ver' e es hn;split at h2
    ·rename_i hver;subst hver;split at h2
     ·rename_i e' es' hg;cases run_pure h2;obtain ⟨_,hrc⟩:=vp8 h hc (qco hn hg);exact ⟨rfl,by simp only [CR,if_true];exact ⟨(qfu hrc).thawIf q,λ_ _ h=>h⟩⟩
     ·exact (vac h2).elim
    ·exact (vac h2).elim
   ·exact (vac h2).elim
  |ad id o=>
   simp only [vba] at hr;obtain ⟨hz,hr⟩:=vme hr;subst hz;obtain ⟨nd,s1,h1,h2⟩:=vaa hr;cases vbn h1;split at h2
   ·rename_i z0 cs hn;split at h2
    ·rename_i hcond;obtain ⟨hn0,hfit⟩:=hcond;obtain ⟨ys,s2,h3,h4⟩:=vaa h2;cases run_pure h4;obtain ⟨b,off,hr0,rfl⟩:=qhf hc;obtain ⟨_,_,_,_,_,_,_,htr,hib,_,_⟩:=vno h hn;have hib':vap U ((cs.drop o).take n):=vdc λc hc=>vco hib c (List.mem_of_mem_drop (List.mem_of_mem_take hc));have hd2:=(htr.drop o).take n;obtain ⟨e1,hcr⟩:=vil h k hd2 hib' h3;have e1':=e1.symm;subst e1';refine ⟨rfl,qw5 h hn hn0 hfit (by rw [<-hcr.length,hd2.length];simp;omega) (λus htu=>(vil h k htu hib' h3).2) ⟨b,off,hr0,rfl⟩⟩
    ·exact (vac h2).elim
   ·exact (vac h2).elim
  |tp cs=>simp only [vba] at hr;exact (vac hr).elim
  |ea id i m o=>simp only [vba] at hr;exact (vac hr).elim
  |ei id ver p i m o=>simp only [vba] at hr;exact (vac hr).elim
  |ez cs o=>simp only [vba] at hr;exact (vac hr).elim
theorem vil (h:G cx U X ρ F st a w) {z:Bool}:∀(k:Nat) {cs:List TV} {vs:List Value} {ys:List CV} {st':St},TRL cx.P w cx.Z ρ F (vah st) cs vs->vap U cs->(vbo z k cs).run st=some (ys,st')->
  st'=st/\CRL cx.P w (ZR z cx F st) ys vs Nil
 |0,cs,vs,ys,st',hc,hi,hr=>by simp only [vbo] at hr;exact (vac hr).elim
 |k+1,cs,vs,ys,st',hc,hi,hr=>by
  cases hc with
  |nil=>
   simp only [vbo] at hr;cases run_pure hr;exact ⟨rfl,voi⟩
  |cons hx hs=>
   simp only [vbo] at hr;obtain ⟨y,s1,h1,h2⟩:=vaa hr;obtain ⟨ys',s2,h3,h4⟩:=vaa h2;cases run_pure h4;obtain ⟨e1,k1⟩:=vqq h k hx hi.1 h1;have e1':=e1.symm;subst e1';obtain ⟨e1,k2⟩:=vil h k hs hi.2 h3;have e1':=e1.symm;subst e1';exact ⟨rfl,qm7 k1 k2⟩
end
set_option maxRecDepth 10000 in
theorem DC.fill {P:Program} {Z:Zn} {S Fc:vaj} {c:PV} {v':Value} (hcc:c.cells= [c]) (hc:DC P w Z c v' Fc):∀(p:List (Nat×Nat×Nat)) {e:Nat} {es:List PV} {v:Value} {Fd:vaj} {es1:List PV},DC P w Z (.sl e es) v Fd->dat es p=some .un->dput es p c=some es1->Nav P w S v p v'->
  Apart Fd Fc->DC P w Z (.sl e es1) v (λb o=>Fd b o\/Fc b o)/\es1.length=es.length
 | [],e,es,v,Fd,es1,h,hg,hp,hn,ha=>by simp [dat] at hg
 |(i,m,o)::p,e,es,v,Fd,es1,h,hg,hp,hn,ha=>by
  simp only [dat] at hg;simp only [dput] at hp;split at hg
  ·cases hg
  ·rename_i x hx;rw [hx] at hp;simp only at hp;split at hg
   ·rename_i hm;rw [if_pos hm] at hp;split at hg
    ·cases hg
    ·rename_i c0 hxo;rw [hxo] at hp;simp only at hp;obtain ⟨g,off,len,cap,u,Fr,Fk,rfl,k2,k3,k4,k5,k6,k7,k8⟩:=h.cellAt hx hm hxo;have apr:Apart Fr Fc:=λb o h1 h2=>ha b o ((k4 b o).2 (.inl h1)) h2;cases hn with
     |cons _ _ _ _ _ _ _ u' _ _ hcu hk hu hS hrest=>
      rw [k2] at hcu;cases hcu;split at hg
      ·cases hg;cases hp;have e0:=hrest.nil_eq rfl;subst e0;refine ⟨(k8 c Fc hcc hc apr).congr λb o=> ?_,by simp⟩;rw [k4 b o];cases k3 with
       |un _ _ _ hF=>
        constructor
        ·rintro ((h|h)|h)
         ·exact .inl h
         ·exact absurd h (hF b o)
         ·exact .inr h
        ·rintro (h|h)
         ·exact .inl (.inl h)
         ·exact .inr h
      ·split at hg
       ·rename_i e0 es0;simp only at hp;split at hp
        ·rename_i in' hin;cases hp;obtain ⟨m1,_⟩:=DC.fill hcc hc _ k3 hg hin hrest λb o h1 h2=>ha b o ((k4 b o).2 (.inr h1)) h2;refine ⟨(k8 _ _ rfl m1 ?_).congr λb o=>by rw [k4 b o,or_assoc],by simp⟩
         rintro b o h1 (h2|h2)
         ·exact k5 b o h1 h2
         ·exact apr b o h1 h2
        ·cases hp
       ·cases hg
   ·cases hg
theorem qng {α:Type} (cs:List α) (o:Nat) (ho:o<=cs.length) (r:List α):(cs.take o++r).take o=cs.take o:=by
 rw [List.take_append_of_le_length (by rw [Ai];omega),List.take_take,Nat.min_self]
theorem qlj {α:Type} (cs:List α) (o:Nat) (ho:o<=cs.length) (u:α) (r:List α):(cs.take o++(u::r)).drop (o+1)=r:=by
 have h1:(cs.take o).length=o:=by rw [Ai];omega
 rw [List.drop_append,h1,List.drop_of_length_le zo,show o+1-o=1 by omega];simp
theorem vrx {x:PV} {o:Nat} {u c:PV} (ho:o<x.cells.length) (hu:u.cells= [u]):vbu (vbu x o [u]) o [c]=vbu x o [c]:=by
 cases x with
 |st cs=>
  simp only [vbu,Ak];simp only [PV.cells] at ho;congr 1;rw [Ao (cs.take o) [u],qng cs o zo,List.singleton_append,qlj cs o zo]
 |_=>
  simp only [PV.cells,Ak] at ho;obtain rfl:o=0:=zo
  have:∀cs,u≠ .st cs:=by
   intro cs e;subst e;simp only [PV.cells] at hu;cases cs with
   |nil=>cases hu
   |cons y ys=>
    simp only [List.cons.injEq] at hu;have:=congrArg SizeOf.sizeOf hu.1;simp at this;omega
  cases u<;>first|rfl|exact (this _ rfl).elim
theorem vzd:∀(p:List (Nat×Nat×Nat)) {es es1:List PV},dput es p .un=some es1->dat es1 p=some .un/\∀c,dput es1 p c=dput es p c
 | [],es,es1,h=>by simp [dput] at h
 |(i,m,o)::p,es,es1,h=>by
  simp only [dput] at h;split at h
  ·cases h
  ·rename_i x hx;have hi:i<es.length:=(Ad.1 hx).1;split at h
   ·rename_i hm;split at h
    ·cases h
    ·rename_i c0 hc0;have ho:o<x.cells.length:=(Ad.1 hc0).1;have key:∀(u:PV),u.cells= [u]->(vbu x o [u]).cells.length=m/\(vbu x o [u]).cells[o]? =some u:=by
      intro u hu;rw [vkv (by simp;omega) (by simpa using hu)];refine ⟨by simp;omega,?_⟩;rw [Ao,List.getElem?_append_right (by simp;omega),Ai,Nat.min_eq_left zo,Nat.sub_self];rfl
     split at h
     ·cases h;obtain ⟨k1,k2⟩:=key .un rfl;refine ⟨?_,λc=> ?_⟩
      ·simp only [dat,Ag hi,k1,if_true,k2]
      ·simp only [dput,Ag hi,k1,if_true,k2,hx,hm,hc0,Ar,vrx ho (show PV.un.cells= [.un] from rfl)]
     ·rename_i q p';split at h
      ·rename_i e es';split at h
       ·rename_i in' hin;cases h;obtain ⟨k1,k2⟩:=key (.sl e in') rfl;obtain ⟨d1,d2⟩:=vzd (q::p') hin;refine ⟨?_,λc=> ?_⟩
        ·simp only [dat,Ag hi,k1,if_true,k2];exact d1
        ·simp only [dput,Ag hi,k1,if_true,k2,hx,hm,hc0,d2 c];cases dput es' (q::p') c with
         |none=>rfl
         |some in2=>simp only [Ar,vrx ho (show (PV.sl e in').cells= [.sl e in'] from rfl)]
       ·cases h
      ·cases h
   ·cases h
theorem vza:∀(p:List (Nat×Nat×Nat)) {es:List PV} {r:Nat×List PV} (c:PV),dget es p=some r->∃es1,dput es p c=some es1
 | [],es,r,c,h=>by simp [dget] at h
 |(i,m,o)::p,es,r,c,h=>by
  simp only [dget] at h;simp only [dput];split at h
  ·cases h
  ·split at h
   ·rename_i hm;rw [if_pos hm];split at h
    ·rename_i hx;rw [hx];split at h
     ·exact ⟨_,rfl⟩
     ·obtain ⟨es1,k⟩:=vza _ c h;simp only [k];exact ⟨_,rfl⟩
    ·cases h
   ·cases h
theorem vvh:∀{cs:List TV} {ys:List PV} {vs:List Value},vej cs=some ys->TRL cx.P w cx.Z ρ F (vah st) cs vs->Parts cx w (λ_ _=>False) ys vs λ_=>Nil
 | [],ys,vs,h,hs=>by cases h;cases hs;exact ⟨rfl,by simp,by simp,by simp,by simp⟩
 |c::cs,ys,vs,h,hs=>by
  unfold vej at h;split at h
  ·rename_i y ys' h1 h2;cases h;cases hs with
   | @cons _ v _ vs' k1 k2=>
    obtain ⟨q1,q2,q3,q4,q5⟩:=vvh h2 k2;have hy:∃u,c= .a u/\one1 u=true/\y= .a u:=by
     cases c with
     |a u=>
      simp only [atomPV] at h1;split at h1
      ·rename_i ho;cases h1;exact ⟨u,rfl,ho,rfl⟩
      ·cases h1
     |_=>cases h1
    obtain ⟨u,rfl,ho,rfl⟩:=hy;cases k1;refine ⟨by simp [q1],?_,?_,λ_ _ _ _ _ _ _ h=>h.elim,λ_ _ _ _ h=>h.elim⟩
    ·intro j c v' hc hv';cases j with
     |zero=>simp at hc hv';subst hc hv';exact .a _ _ ho λ_ _ h=>h
     |succ j=>exact q2 j c v' (by simpa using hc) (by simpa using hv')
    ·intro y hy;cases hy with
     |head=>rfl
     |tail _ hy=>exact q3 y hy
  ·cases h
theorem qf7 (h:G cx U X ρ F st a w) {n t:Nat} (hn:va8 cx.P t=some n) {b id ver:Nat} {pt:List (Nat×Nat×Nat)} {i m o:Nat} {c:TV} {v p:Value} (hc:TR cx.P w cx.Z ρ F (vah st) c v)
  (hp:TR cx.P w cx.Z ρ F (vah st) (.ei id ver pt i m o) p) (hid:idsIn U (.ei id ver pt i m o)) {s1:St} (hr:(storeAt b n (.ei id ver pt i m o) c).run st=some ((),s1)):
  ∃w' F',(Instr.storeAt t p v).run cx.P w= .ok () w'/\G cx (Win U b) X ρ F' s1 a w':=by
 obtain ⟨nd,s3,h3,h4⟩:=vaa hr;cases vbn h3;split at h4
 ·rename_i q ver' e es hnd;split at h4
  ·rename_i hver;subst hver;unfold vm1 at h4;split at h4
   ·rename_i e' es' ys hget hys;split at h4
    ·rename_i x hx;split at h4
     ·rename_i hcond;obtain ⟨hxm,hlen,hfit,hat⟩:=hcond;split at h4
      ·rename_i es2 hput;have e1:=vby h4;have e2:s1=st.setNode id _:=congrArg Prod.snd e1;clear e1 h4;subst e2;obtain ⟨hd,hsh⟩:=vdt h hnd;have hsome:(st.node id).isSome=true:=by rw [hnd];rfl
       have hZ:Apart (F id) (zU cx.Z):=λb' k hf=>(h.mine id hsome b' k hf).1;have hrow:∃cs,c.row=some cs/\c.cells=cs:=by
        cases c with
        |a u=>
         simp only [TV.cells,vej,atomPV] at hys;cases h1:one1 u with
         |false=>simp [h1] at hys
         |true=>exact ⟨[.a u],by simp [TV.row,h1],rfl⟩
        |st cs=>exact ⟨cs,rfl,rfl⟩
        |_=>simp [TV.cells,vej,atomPV] at hys
       obtain ⟨cs,hrow,hcells⟩:=hrow;obtain ⟨k1,k2⟩:=hc.row h.one hrow;have hs:TRL cx.P w cx.Z ρ F (vah st) c.cells v.cells.toList:=by rw [k2];exact k1
       have hparts:=vvh hys hs;have hul:=hparts.len;obtain ⟨es1,hput1⟩:=vza pt .un hget;obtain ⟨hdat,hdput⟩:=vzd pt hput1;obtain ⟨g,off,len,cap,hnav,hpv⟩:∃g off l' c',Nav cx.P w (F id) (ρ id) pt (.slice (some ⟨g,off,none⟩) l' c')/\p= .pointer (some ⟨g,off+(i * m+o),none⟩):=by
        cases hp with
        |ei _ _ _ _ _ _ _ _ hcl=>exact hcl e _ hsh
       subst hpv;obtain ⟨F1,F2,d1,d2,d3,d4,d5,d6⟩:=hd.carve pt hget hput1 hnav;have hZ2:Apart F2 (zU cx.Z):=λb' k hf=>hZ b' k ((d3 b' k).2 (.inr hf));obtain ⟨g',off',len',cap',fr,cur,m',hv,hg,hfr,hm,hxm',hcur,hFg,hslice,F2',hd',hsub,hsup⟩:=d2.write (o:=o) hZ2 hx hparts zo (λ_ _ _ _ h=>h.elim);cases hv;have hmm:m'=m:=zo
       subst hmm;have hold:((x.cells.drop o).take ys.length).all isAtom=true:=by
        unfold vet at hat;rw [hlen];exact (Bool.and_eq_true _ _▸hat:_/\_).2
       have hvl:v.cells.size=n:=by rw [<-Aa,hul,hlen]
       have hone:∀u∈v.cells.toList,u.oneCell'=true:=by
        intro u hu;obtain ⟨j,hj⟩:=List.getElem?_of_mem hu;have hlt:j<ys.length:=by rw [<-hul];exact (Ad.1 hj).1
        rw [<-vrc];exact (hparts.dc j _ u (List.getElem?_eq_getElem hlt) hj).one
       have hrun:=vtt (o:=off+(i * m'+o)) hn hg hfr hvl (by simp only [Aa] at hcur;omega) hone;have hk:=vmw (o:=off+(i * m'+o)) (vs:=v.cells.toList) hg hcur;have hM2:∀b' k,(b'=g/\off+(i * m'+o)<=k/\k<off+(i * m'+o)+v.cells.toList.length)->F2 b' k:=λb' k hM=>hM.1▸hFg k;have hMF:∀b' k,(b'=g/\off+(i * m'+o)<=k/\k<off+(i * m'+o)+v.cells.toList.length)->F id b' k:=λb' k hM=>(d3 b' k).2 (.inr (hM2 b' k hM));have hsub':∀b' k,F2' b' k->F2 b' k:=λb' k hf=>(hsub b' k hf).resolve_right λ⟨_,_,h⟩=>h;have d1':=d1.mono (λb' k hf=>hk.same λhM=>d4 b' k hf (hM2 b' k hM)) (λb' k hz=>hk.same λhM=>hZ b' k (hMF b' k hM) hz) λ_ _ _ h=>h;have d5':Nav cx.P (w.setRow g (cur.toList.take (off+(i * m'+o))++v.cells.toList++cur.toList.drop (off+(i * m'+o)+v.cells.toList.length)).toArray) F1 (ρ id) pt (.slice (some ⟨g,off,none⟩) len cap):=
        NavKept.of hk.ty (λb' k hf=>⟨hf,λy hy _=>(hk.same λhM=>d4 b' k hf (hM2 b' k hM)).cell hy⟩) _ _ d5
       have hput2:dput es1 pt (.sl e' (es'.set i (vbu x o ys)))=some es2:=by rw [hdput];exact hput
       obtain ⟨d7,d8⟩:=DC.fill (c:= .sl e' (es'.set i (vbu x o ys))) rfl hd' pt d1' hdat hput2 d5' λb' k h1 h2=>d4 b' k h1 (hsub' b' k h2);have hiff:∀b' k,(F1 b' k\/F2' b' k)↔F id b' k:=λb' k=>by
        rw [d3 b' k];exact ⟨λh=>h.imp (λh=>h) (hsub' b' k),λh=>h.imp (λh=>h) (hsup hold b' k)⟩
       have d9:=d7.congr (F':=F id) λb' k=>(hiff b' k).symm;have hshape:∀ver1 e1 l,vah (st.setNode id (some (.sl q ver' e es2))) id=some (ver1,e1,l)->ver1=ver'/\e1=e/\l=es.length:=by
        intro ver1 e1 l hs1;unfold vah at hs1;rw [St.setNode_node,if_pos rfl] at hs1;simp only [d8,d6] at hs1;cases hs1;exact ⟨rfl,rfl,rfl⟩
       have hup:=h.update (U':=Win U b) (id:=id) (o:=some (.sl q ver' e es2)) (v':=ρ id) (Fn:=F id) (X':=X)
        (λ_ h=> .inl h) hk (λb' k hM=>(h.mine id hsome b' k (hMF b' k hM)).1)
        (λb' k hM hlt=>((h.mine id hsome b' k (hMF b' k hM)).2).resolve_right zo)
        (λj hj hjs b' k hf hM=>h.apart j id hj hjs hsome b' k hf (hMF b' k hM)) (λ_=>rfl) (h.one id)
        (by
         intro j hj ver1 e1 l hs1;by_cases ej:j=id
         ·subst ej;obtain ⟨rfl,rfl,rfl⟩:=hshape ver1 e1 l hs1;exact ⟨_,hsh,λ_=>rfl⟩
         ·rw [ve2 st _ ej] at hs1;exact ⟨ver1,hs1,λ_=>rfl⟩)
        (by
         intro _ ver1 e1 l hs1 hver b' k hf;refine ⟨hf,λy hy hys=> ?_⟩;by_cases hM:b'=g/\off+(i * m'+o)<=k/\k<off+(i * m'+o)+v.cells.toList.length
         ·obtain ⟨rfl,h5,h6⟩:=hM;rw [vef hg] at hy;rw [hslice hold k h5 h6 y hy] at hys;cases hys
         ·exact (hk.same hM).cell hy)
        (by
         intro nd hnd';cases hnd';refine ⟨?_,.inl hid.1,((h.used id _ hnd).2).imp (λh=>h) .inl⟩;refine .sl _ _ e _ ?_;rw [va5,va5]
         exact d9)
        (λ_=>⟨λb' k hf=>h.mine id hsome b' k hf,λj hj hjs b' k hf hf'=>h.apart j id hj hjs hsome b' k hf hf',λb' k hf hx=>h.apartX id hsome b' k hf hx⟩)
        (λb' k hx=>by
         obtain ⟨k1,k2,k3⟩:=h.mineX b' k hx
         exact ⟨k1,k2,Am k3 hk.size⟩)
        (λj _ hjs b' k hf hx=>h.apartX j hjs b' k hf hx)
       rw [vd6] at hup;exact ⟨_,_,hrun,hup⟩
      ·exact (vac h4).elim
     ·exact (vac h4).elim
    ·exact (vac h4).elim
   ·exact (vac h4).elim
  ·exact (vac h4).elim
 ·exact (vac h4).elim
theorem qf8 (h:G cx U X ρ F st a w) {n t:Nat} (hn:va8 cx.P t=some n) {b:Nat} (hb:¬U b) {c d:TV} {v p:Value} (hc:TR cx.P w cx.Z ρ F (vah st) c v) (hi:idsIn U c)
  (hp:TR cx.P w cx.Z ρ F (vah st) d p) (hid:idsIn U d) {s1:St} (hr:(storeAt b n d c).run st=some ((),s1)):
  ∃w' F',(Instr.storeAt t p v).run cx.P w= .ok () w'/\G cx (Win U b) X ρ F' s1 a w':=by
 cases d with
 |rf id=>
  have hv:p=ρ id:=by cases hp;rfl
  obtain ⟨w',h1,h2⟩:=vu9 h hn (p:=p) hc hi (λb off e=>by rw [hv,e];rfl) hr;exact ⟨w',F,h1,h2.more λ_ h=> .inl h⟩
 |ad id o=>
  obtain ⟨b',off',hr',rfl⟩:=qhf hp;obtain ⟨w',h1,h2⟩:=vu9 h hn (p:= .pointer (some ⟨b',off'+o,none⟩)) hc hi (λb off e=>by rw [hr'] at e;cases e;rfl) hr;exact ⟨w',F,h1,h2.more λ_ h=> .inl h⟩
 |ea id i m o=>exact qfn h hn hb hc hi hp hid hr
 |ei id ver p i m o=>exact qf7 h hn hc hp hid hr
 |_=>exact (vac hr).elim
abbrev Wp (U:Nat->Prop) (b:Nat):Nat->Prop:=λi=>U i\/i=b+50\/i=b+60
theorem ql3 (h:G cx U X ρ F st a w) {b:Nat} (hb:¬U (b+50)) (hb2:¬U (b+60)) {c c':TV} {v:Value} (hri:isRi c=true) (hc:TR cx.P w cx.Z ρ F (vah st) c v) (hi:idsIn U c) {s1:St} (hr:(pull1 b c).run st=some (c',s1)):
  ∃ρ' F',G cx (Wp U b) X ρ' F' s1 a w/\TR cx.P w cx.Z ρ' F' (vah s1) c' v/\idsIn (Wp U b) c'/\∀d u,TR cx.P w cx.Z ρ F (vah st) d u->idsIn U d->TR cx.P w cx.Z ρ' F' (vah s1) d u:=by
 cases c with
 |ri id ver p=>
  simp only [pull1] at hr;obtain ⟨nd,s2,h1,h2⟩:=vaa hr;cases vbn h1;split at h2
  ·rename_i q ver' e' es hn;split at h2
   ·rename_i hver;unfold pullK at h2;split at h2
    ·rename_i r hg;obtain ⟨z,s3,h3,h4⟩:=vaa h2;obtain ⟨_,s4,h5,h6⟩:=vaa h4;cases vby h5;cases run_pure h6;have hat:(appTo b r.1 (.ri id ver p)).run st=some (z,s3):=by
      simp only [appTo,getN,M.bind,M.run,hn,hver,if_true,hg];exact h3
     obtain ⟨Fd,F1,hd,hap,hG,hsk⟩:=qbs h hb hc hi hat;have hnb:¬Wb U b (b+60):=λh=>h.elim hb2 zo;have hrho:one1 v=true:=hd.one
     have hadd:=hG.add hnb (n:= .sl z.2 0 r.1 z.1) (v:=v) (Fn:=Fd) (X':=X) hrho (λ_ _ h=> .inr h) (λ_ _ h=> .inl h) hap (by
      refine .sl _ _ _ _ ?_;rw [va5,va5]
      exact hd) (.inl rfl)
     refine ⟨_,_,hadd.more λi hi=> ?_,?_,.inr (.inr rfl),λd u hdu hdi=> ?_⟩
     ·rcases hi with (hi|hi)|hi
      ·exact .inl hi
      ·exact .inr (.inl hi)
      ·exact .inr (.inr hi)
     ·have:=TR.rf (P:=cx.P) (w:=w) (Z:=cx.Z) (ρ:=upd ρ (b+60) v) (F:=upd F1 (b+60) Fd) (sh:=vah (s3.setNode (b+60) (some (.sl z.2 0 r.1 z.1)))) (b+60);rw [va5] at this;exact this
     ·exact hG.tr_new hnb _ _ _ (hsk d u hdu hdi) (hdi.mono λ_ h=> .inl h)
    ·exact (vac h2).elim
   ·exact (vac h2).elim
  ·exact (vac h2).elim
 |_=>cases hri
theorem qak {b:Nat} (h:G cx U X ρ F st a w) (hb:¬U (b+50)) (hb2:¬U (b+60)):∀{cs cs':List TV} {vs:List Value} {s1:St},TRL cx.P w cx.Z ρ F (vah st) cs vs->vap U cs->(pullL b cs).run st=some (cs',s1)->
  ∃ρ' F',G cx (Wp U b) X ρ' F' s1 a w/\TRL cx.P w cx.Z ρ' F' (vah s1) cs' vs/\vap (Wp U b) cs'/\∀d u,TR cx.P w cx.Z ρ F (vah st) d u->idsIn U d->TR cx.P w cx.Z ρ' F' (vah s1) d u
 | [],cs',vs,s1,hc,hi,hr=>by
  cases run_pure hr;exact ⟨ρ,F,h.more λ_ h=> .inl h,hc,trivial,λ_ _ h _=>h⟩
 |c::cs,cs',vs,s1,hc,hi,hr=>by
  cases hc with
  | @cons _ v _ vs' h1 hs=>
   unfold pullL at hr;split at hr
   ·rename_i hri;obtain ⟨y,s2,h2,h3⟩:=vaa hr;cases run_pure h3;obtain ⟨ρ',F',k1,k2,k3,k4⟩:=ql3 h hb hb2 hri h1 hi.1 h2;refine ⟨ρ',F',k1,.cons k2 ?_,⟨k3,hi.2.mono λ_ h=> .inl h⟩,k4⟩;exact .of hs.length λi c u hci hu=>k4 c u (hs.get i c u hci hu) (vbm hi.2 hci)
   ·obtain ⟨ys,s2,h2,h3⟩:=vaa hr;cases run_pure h3;obtain ⟨ρ',F',k1,k2,k3,k4⟩:=qak h hb hb2 hs hi.2 h2;exact ⟨ρ',F',k1,.cons (k4 _ _ h1 hi.1) k2,⟨hi.1.mono λ_ h=> .inl h,k3⟩,k4⟩
theorem vye {b:Nat} (h:G cx U X ρ F st a w) (hb:¬U (b+50)) (hb2:¬U (b+60)) {u c c':TV} {v:Value} {s1:St} (hc:TR cx.P w cx.Z ρ F (vah st) c v) (hi:idsIn U c) (hr:(pullTo b u c).run st=some (c',s1)):
  ∃ρ' F',G cx (Wp U b) X ρ' F' s1 a w/\TR cx.P w cx.Z ρ' F' (vah s1) c' v/\idsIn (Wp U b) c'/\∀d u,TR cx.P w cx.Z ρ F (vah st) d u->idsIn U d->TR cx.P w cx.Z ρ' F' (vah s1) d u:=by
 unfold pullTo at hr;split at hr
 ·rename_i cs;obtain ⟨cs',s2,h1,h2⟩:=vaa hr;cases run_pure h2;cases hc with
  |st _ us hl hcc=>
   obtain ⟨ρ',F',k1,k2,k3,k4⟩:=qak h hb hb2 (.of (by rw [Aa];exact hl) λi c u k1 k2=>hcc i c u k1 (by simpa using k2)) hi h1;exact ⟨ρ',F',k1,.st _ us (by rw [<-k2.length,Aa]) λi c u h1 h2=>k2.get i c u h1 (by simpa using h2),k3,k4⟩
 ·cases run_pure hr;exact ⟨ρ,F,h.more λ_ h=> .inl h,hc,hi.mono λ_ h=> .inl h,λ_ _ h _=>h⟩
theorem qct (h:G cx U (λ_ _=>False) ρ F st a w) {b:Nat} (hb:∀i,b<=i->i<b+100->¬U i) {o:Oper} (ho:o.dst=none) {t t' n:TypeId} {x y:Operand} {x' y':Opd} (hop:o.op= .store t x y)
  (hn:va8 cx.P t=some n) (hx:cOpd cx.P t' x=some x') (hy:cOpd cx.P t y=some y') {s1:St} (hr:((opd x').bind λu=>(opd y').bind λv=>(pullTo b u v).bind λv=>storeAt b n u v).run st=some ((),s1)):Now cx U b o s1 a w:=by
 obtain ⟨c,s2,h1,h2⟩:=vaa hr;obtain ⟨rfl,g1,i1⟩:=vbw h hx h1;obtain ⟨c',s3,h3,h4⟩:=vaa h2;obtain ⟨rfl,g2,i2⟩:=vbw h hy h3;obtain ⟨c2,s4,h5,h6⟩:=vaa h4;obtain ⟨ρ1,F1,k1,k2,k3,k4⟩:=vye h (hb (b+50) zo zo) (hb (b+60) zo zo) g2 i2 h5;have hb1:¬Wp U b b:=λh=>h.elim (hb b (Ab _) zo) λh=>zo
 obtain ⟨w',F',hrun,hG⟩:=qf8 k1 hn hb1 k2 k3 (k4 _ _ g1 i1) (i1.mono λ_ h=> .inl h) h6;have hG:=hG.more (U':=Win U b) λi hi=>hi.elim (λh=>h.elim .inl λh=> .inr zo) .inr;refine .skip w' ?_ ?_
 ·unfold execOp;rw [hop];simp only [Sem.run_bind,hrun,Result.andThen_ok,Sem.run_pure]
 ·rw [ho];exact ⟨ρ1,F',hG⟩
theorem Now.of {b:Nat} {o:Oper} {U1:Nat->Prop} (h:Now cx U1 b o st a w) (hu:∀i,U1 i->Win U b i):Now cx U b o st a w:=by
 have key:∀a w,Rel cx (Win U1 b) st a w->Rel cx (Win U b) st a w:=λ_ _ h=>h.more λi hi=>hi.elim (hu i) .inr;cases h with
 |value v w' h hr=>exact .value v w' h (key _ _ hr)
 |skip w' h hr=>exact .skip w' h (key _ _ hr)
 |call h=>exact .call λK Q hk=>h K Q λa w hr=>hk a w (key a w hr)
theorem qre (h:G cx U (λ_ _=>False) ρ F st a w) {b:Nat} (hb:∀i,b<=i->i<b+100->¬U i) {o:Oper} {d:Nat} (ho:o.dst=some d) (hd:d<cx.n) {t e m n:Nat} {zs:List ZC} {ps:Array (Nat×Operand)} {qs:List (Nat×Opd)} (hop:o.op= .buildSlice t n ps)
  (ht:cx.P.underlying t=some (.slice e)) (hm:va8 cx.P e=some m) (hz:zeros cx.P e=some zs) (hq:cElems cx.P e ps.toList=some qs) (hbig:0<m/\n * m<=16777216) {s1:St}
  (hr:((bslQ b (flatZ zs) m qs (Ap n (zeroEl m zs))).bind λes=>(setN b (some (.sl es.2 0 e es.1))).bind λ_=>setS d (.rf b)).run st=some ((),s1)):Now cx U b o s1 a w:=by
 unfold bslQ at hr;split at hr
 ·rename_i i x hfl;obtain ⟨es,s2,h1,h2⟩:=vaa hr;obtain ⟨_,s3,h3,h4⟩:=vaa h2;cases vby h3;cases vbd h4;obtain ⟨c,s4,h5,h6⟩:=vaa h1;obtain ⟨c',s5,h7,h8⟩:=vaa h6;obtain ⟨y,s6,h9,h10⟩:=vaa h8;split at h10
  ·rename_i hcond;cases run_pure h10;obtain ⟨px,hps,hx⟩:∃px,ps.toList= [(i,px)]/\cOpd cx.P e px=some x:=by
    cases hl:ps.toList with
    |nil=>rw [hl] at hq;cases hq
    |cons p l=>
     obtain ⟨j,px⟩:=p;rw [hl] at hq;simp only [cElems] at hq;split at hq
     ·rename_i y ys hy hys;cases hq;cases l with
      |nil=>exact ⟨px,rfl,hy⟩
      |cons p l=>
       obtain ⟨j,px⟩:=p;simp only [cElems] at hys;split at hys<;>cases hys
     ·cases hq
   obtain ⟨rfl,g1,i1⟩:=vbw h hx h5;obtain ⟨ρ1,F1,k1,k2,k3,_⟩:=vye h (hb (b+50) zo zo) (hb (b+60) zo zo) g1 i1 h7;obtain ⟨i',z,hi,hz0,hsz,hfit⟩:=vjr hz;have hmz:m=zs.length:=by unfold va8 at hm;rw [hi] at hm;simp only [Option.map_some,Option.some.injEq] at hm;omega
   subst hmz;have hw0:∀y∈Ap n (zeroEl zs.length zs),y.cells.length=zs.length:=by
    intro y hy;rw [(List.mem_replicate.1 hy).2,vl8 rfl,Aj]
   have hb1:¬Wp U b b:=λh=>h.elim (hb b (Ab _) zo) λh=>zo
   obtain ⟨us',Gk',f1,f2,f3,f4⟩:=qcb (k1.less vlz) k2 k3 hw0 (vr9 (cx:=cx) (w:=w) hfit n (λ_ _=>False)) h9 hcond.1 hcond.2;have key:=qdu f2 hb1 ho hd hop ht hm hi hz0 hbig (q:=y.2) (by rw [hps];exact f1 []) f3 f4 (by rw [List.length_set,List.length_replicate]);exact key.of λi hi=>hi.elim .inl λhi=> .inr zo
  ·exact (vac h10).elim
 ·exact qi2 h hb ho hd hop ht hm hz hq hbig hr
structure Away (U:Nat->Prop) (V:Nat) (sh sh':va2) (st st':St):Prop where
 node:∀j,st'.node j=st.node j\/st'.node j=none
 shape:ShapeKept U sh sh'
 dead:∀j e l,sh j=some (V,e,l)->sh' j=some (V,e,l)
 slots:st'.slots=st.slots
theorem Away.refl (U:Nat->Prop) (V:Nat) (sh:va2) (st:St):Away U V sh sh st st:=⟨λ_=> .inl rfl,.refl _ _,λ_ _ _ h=>h,rfl⟩
theorem Away.trans {sh1 sh2 sh3:va2} {st1 st2 st3:St} (h:Away U V sh1 sh2 st1 st2) (h':Away U V sh2 sh3 st2 st3):Away U V sh1 sh3 st1 st3:=
 ⟨λj=>(h'.node j).elim (λe=>e▸h.node j) .inr,h.shape.trans h'.shape,λj e l hs=>h'.dead j e l (h.dead j e l hs),h'.slots.trans h.slots⟩
theorem Away.drop (h:GS cx U X ρ F st sh V a w) (id:Nat):Away U V sh (dropSh sh V id) st (st.setNode id none):=by
 refine ⟨λj=> ?_,vlb h.fresh id,λj e l hs=> ?_,rfl⟩
 ·rw [St.setNode_node];split
  ·exact .inr rfl
  ·exact .inl rfl
 ·unfold dropSh;split
  ·rw [hs];rfl
  ·exact hs
mutual
def Pk (R:Nat->Nat->Nat->Prop):TV->CV->Prop
 | .rf id,.sl false e es=>R id e es.length
 | .fn _ fs cs,.fn _ fs0 cs0=>PkL R fs fs0/\PkL R cs cs0
 | .st cs,.st cs0=>PkL R cs cs0
 | .ic _ x,.ic _ x0=>Pk R x x0
 |_,_=>True
def PkL (R:Nat->Nat->Nat->Prop):List TV->List CV->Prop
 |x::xs,y::ys=>Pk R x y/\PkL R xs ys
 |_,_=>True
end
mutual
theorem Pk.mono {R R':Nat->Nat->Nat->Prop} (hR:∀id e l,R id e l->R' id e l):∀{x:TV} {y:CV},Pk R x y->Pk R' x y
 | .rf id,y,h=>by
  cases y with
  |sl z e es=>
   cases z with
   |false=>simp only [Pk] at h⊢;exact hR _ _ _ h
   |true=>simp only [Pk]
  |_=>simp only [Pk]
 | .fn f fs cs,y,h=>by
  cases y with
  |fn g fs0 cs0=>simp only [Pk] at h⊢;exact ⟨PkL.mono hR h.1,PkL.mono hR h.2⟩
  |_=>simp only [Pk]
 | .st cs,y,h=>by
  cases y with
  |st cs0=>simp only [Pk] at h⊢;exact PkL.mono hR h
  |_=>simp only [Pk]
 | .ic t x,y,h=>by
  cases y with
  |ic t0 x0=>simp only [Pk] at h⊢;exact Pk.mono hR h
  |_=>simp only [Pk]
 | .a _,y,h=>by simp only [Pk]
 | .nl _,y,h=>by simp only [Pk]
 | .ri _ _ _,y,h=>by simp only [Pk]
 | .sb _ _ _,y,h=>by simp only [Pk]
 | .ad _ _,y,h=>by simp only [Pk]
 | .ea _ _ _ _,y,h=>by simp only [Pk]
 | .ei _ _ _ _ _ _,y,h=>by simp only [Pk]
 | .sz _ _,y,h=>by simp only [Pk]
 | .ez _ _,y,h=>by simp only [Pk]
 | .tp _,y,h=>by simp only [Pk]
 | .un,y,h=>by simp only [Pk]
theorem PkL.mono {R R':Nat->Nat->Nat->Prop} (hR:∀id e l,R id e l->R' id e l):∀{xs:List TV} {ys:List CV},PkL R xs ys->PkL R' xs ys
 | [],ys,h=>by simp only [PkL]
 |x::xs,[],h=>by simp only [PkL]
 |x::xs,y::ys,h=>by simp only [PkL] at h⊢;exact ⟨Pk.mono hR h.1,PkL.mono hR h.2⟩
end
def Rl (U:Nat->Prop) (ρ:Nat->Value) (sh:va2) (V:Nat):Nat->Nat->Nat->Prop:=λid e l=>U id/\sh id=some (V,e,l)/\∃x cap,ρ id= .slice x l cap
theorem Away.rl {sh1 sh2:va2} {st1 st2:St} (h:Away U V sh1 sh2 st1 st2):∀id e l,Rl U ρ sh1 V id e l->Rl U ρ sh2 V id e l:=λid e l hr=>⟨hr.1,h.dead id e l hr.2.1,hr.2.2⟩
mutual
theorem vup {fz:Bool}:∀(k:Nat) {X:vaj} {st:St} {sh:va2} {c:TV} {v:Value} {y:CV} {st':St},GS cx U X ρ F st sh V a w->TR cx.P w cx.Z ρ F sh c v->idsIn U c->(pack fz k c).run st=some (y,st')->
  ∃Fc sh',CR cx.P w cx.Z y v Fc/\GS cx U (λb o=>X b o\/Fc b o) ρ F st' sh' V a w/\Apart Fc X/\Away U V sh sh' st st'/\Pk (Rl U ρ sh' V) c y
 |0,X,st,sh,c,v,y,st',h,hc,hi,hr=>by simp only [pack] at hr;exact (vac hr).elim
 |k+1,X,st,sh,c,v,y,st',h,hc,hi,hr=>by
  have none_:GS cx U (λb o=>X b o\/Nil b o) ρ F st sh V a w:=h.less λ_ _ hx=>hx.elim (λh=>h) λh=>h.elim;cases c with
  |a u=>
   simp only [pack] at hr;cases run_pure hr;exact ⟨Nil,sh,by simp only [CR];exact ⟨vib hc,λ_ _ h=>h⟩,none_,λ_ _ h=>h.elim,.refl _ _ _ _,by simp only [Pk]⟩
  |nl e=>
   simp only [pack] at hr;cases run_pure hr;cases hc with
   |nl _ m hm=>exact ⟨Nil,sh,by simp only [CR];exact .nil e m _ hm λ_ _ h=>h,none_,λ_ _ h=>h.elim,.refl _ _ _ _,by simp only [Pk]⟩
  |sz e es=>
   simp only [pack] at hr;split at hr
   ·cases run_pure hr;cases hc with
    |sz _ _ _ hrc=>exact ⟨Nil,sh,by simp only [CR,if_true];exact ⟨hrc,λ_ _ h=>h⟩,none_,λ_ _ h=>h.elim,.refl _ _ _ _,by simp only [Pk]⟩
   ·exact (vac hr).elim
  |st cs=>
   simp only [pack] at hr;obtain ⟨ys,s1,h1,h2⟩:=vaa hr;cases run_pure h2;cases hc with
   |st _ us hl hcc=>
    obtain ⟨Fc,sh',k1,k2,k3,k4,k5⟩:=voo k h (.of (by rw [Aa];exact hl) λi c u k1 k2=>hcc i c u k1 (by simpa using k2)) hi h1;exact ⟨Fc,sh',by simp only [CR];exact ⟨us,rfl,k1⟩,k2,k3,k4,by simp only [Pk];exact k5⟩
  |fn f fs cs=>
   simp only [pack] at hr;obtain ⟨ys,s1,h1,h2⟩:=vaa hr;obtain ⟨zs,s2,h3,h4⟩:=vaa h2;cases run_pure h4;cases hc with
   |fn _ _ _ xs us hx hl hf hcc=>
    obtain ⟨F1,sh1,k1,k2,k3,k4,k5⟩:=voo k h (.of (by rw [Aa];exact hx) λi c u k1 k2=>hf i c u k1 (by simpa using k2)) hi.1 h1;obtain ⟨F2,sh2,l1,l2,l3,l4,l5⟩:=voo k k2 (.of (by rw [Aa];exact hl) λi c u k1 k2=>(hcc i c u k1 (by simpa using k2)).shape (vbm hi.2 k1) k4.shape) hi.2 h3;refine ⟨λb o=>F1 b o\/F2 b o,sh2,?_,l2.less λb o hx=>hx.elim (λh=> .inl (.inl h)) λh=>h.elim (λh=> .inl (.inr h)) .inr,?_,k4.trans l4,?_⟩
    ·simp only [CR];exact ⟨xs,us,F1,F2,rfl,k1,l1,λb o h1 h2=>l3 b o h2 (.inr h1),λ_ _=>Iff.rfl⟩
    ·rintro b o (hf|hf) hx
     ·exact k3 b o hf hx
     ·exact l3 b o hf (.inl hx)
    ·simp only [Pk];exact ⟨PkL.mono l4.rl k5,l5⟩
  |ic t x=>
   simp only [pack] at hr;obtain ⟨y',s1,h1,h2⟩:=vaa hr;cases run_pure h2;cases hc with
   |ic _ _ u hx=>
    obtain ⟨Fc,sh',k1,k2,k3,k4,k5⟩:=vup k h hx hi h1;exact ⟨Fc,sh',by simp only [CR];exact ⟨u,rfl,k1⟩,k2,k3,k4,by simp only [Pk];exact k5⟩
  |un=>
   simp only [pack] at hr;cases run_pure hr;exact ⟨Nil,sh,by simp only [CR];exact λ_ _ h=>h,none_,λ_ _ h=>h.elim,.refl _ _ _ _,by simp only [Pk]⟩
  |rf id=>
   simp only [pack] at hr;obtain ⟨nd,s1,h1,h2⟩:=vaa hr;cases vbn h1;have hv:v=ρ id:=by cases hc;rfl
   split at h2
   ·rename_i q ver e es hn;split at h2
    ·exact (vac h2).elim
    ·obtain ⟨_,s2,h3,h4⟩:=vaa h2;cases vby h3;cases run_pure h4;have hN:=h.nodes id _ hn;cases hN with
     |sl _ _ _ _ hd=>
      refine ⟨F id,_,?_,h.drop hn,h.apartX id (by rw [hn];rfl),Away.drop h id,?_⟩
      ·simp only [CR];rw [hv];exact hd
      ·simp only [Pk];obtain ⟨x,cap,hs,_⟩:=hd.rd.slice;refine ⟨hi,?_,x,cap,hs⟩;unfold dropSh;rw [if_pos rfl,h.agree id _ hn];unfold vah;rw [hn];rfl
   ·rename_i z cs hn;split at h2
    ·exact (vac h2).elim
    ·rename_i hz;have hz':z=false:=by cases z with|false=>rfl|true=>exact absurd rfl hz
     subst hz';obtain ⟨_,s2,h3,h4⟩:=vaa h2;cases vby h3;obtain ⟨ys,s3,h5,h6⟩:=vaa h4;cases run_pure h6;have hN:=h.nodes id _ hn;have hus:=(h.used id _ hn).2;cases hN with
     |bx _ _ b off cur t hr0 hb hsz hne hcc hF hzz=>
      have htr:TRL cx.P w cx.Z ρ F (dropSh sh V id) cs ((cur.toList.drop off).take cs.length):=by
       refine .of (by simp;omega) λi c u k1 k2=>(hcc i c k1 u ?_).shape (vbm hus k1) (vlb h.fresh id);rw [Ac] at k2;split at k2
       ·simpa using k2
       ·cases k2
      obtain ⟨Fi,sh',k1,k2,k3,k4,_⟩:=voo k (h.drop hn) htr hus h5;have hlen:ys.length=cs.length:=by rw [<-k1.length];simp;omega
      refine ⟨λb o=>F id b o\/Fi b o,sh',?_,k2.less λb o hx=>hx.elim (λh=> .inl (.inl h)) λh=>h.elim (λh=> .inl (.inr h)) .inr,?_,(Away.drop h id).trans k4,by simp only [Pk]⟩
      ·simp only [CR];refine ⟨b,off,cur,t,Fi,hv.trans hr0,hb,zo,by intro e;rw [e] at hlen;exact hne (Ah hlen.symm),by rw [hlen];exact k1,(λe=>by cases e),λ_ o h1 h2 hf=> ?_,λb' o'=> ?_⟩
       ·exact k3 b o hf (.inr ((hF b o).2 ⟨rfl,rfl,h1,zo⟩))
       ·simp only [hF b' o',hlen,true_and]
      ·rintro b o (hf|hf) hx
       ·exact h.apartX id (by rw [hn];rfl) b o hf hx
       ·exact k3 b o hf (.inl hx)
   ·cases run_pure h2;exact ⟨Nil,sh,by simp only [CR];exact λ_ _ h=>h,none_,λ_ _ h=>h.elim,.refl _ _ _ _,by simp only [Pk]⟩
  |ri id ver p=>simp only [pack] at hr;exact (vac hr).elim
  |sb id lo n=>
   simp only [pack] at hr;obtain ⟨nd,s1,h1,h2⟩:=vaa hr;cases vbn h1;split at h2
   ·rename_i q ver e es hn;split at h2
    ·exact (vac h2).elim
    ·rename_i hcond;have hle:lo+n<=es.length:=Nat.le_of_not_lt λh=>hcond (.inr h);obtain ⟨_,s2,h3,h4⟩:=vaa h2;cases vby h3;cases run_pure h4;have hN:=h.nodes id _ hn;have hsh:sh id=some (ver,e,es.length):=by rw [h.agree id _ hn];unfold vah;rw [hn]
     cases hN with
     |sl _ _ _ _ hd=>
      cases hc with
      |sb _ _ _ _ _ hcl=>
       obtain ⟨x,cap,rfl,hcap,_,hnz⟩:=hcl _ _ _ hsh;have key:∃F',DC cx.P w cx.Z (.sl e ((es.drop lo).take n)) (.slice x n cap) F'/\∀b o,F' b o->F id b o:=by
        by_cases hc0:cap=0
        ·obtain ⟨m,hm⟩:=hd.esize;obtain rfl:n=0:=zo
         subst hc0;rw [List.take_zero];exact ⟨λ_ _=>False,.nil _ m _ hm λ_ _ h=>h,λ_ _ h=>h.elim⟩
        ·obtain ⟨g,off,l',c',m,hr0,hm,rfl,hcc⟩:=hnz hc0;rw [hr0] at hd;obtain ⟨F1,hd1,hs1⟩:=hd.behind hm (lo:=lo) zo hc0 hcc;obtain ⟨F2,hd2,hs2⟩:=hd1.front n zo;exact ⟨F2,hd2,λb o hf=>hs1 b o (hs2 b o hf)⟩
       obtain ⟨F',hd',hsub⟩:=key;refine ⟨F',_,by simp only [CR];exact hd',(h.drop hn).less λb o hx=>hx.imp (λh=>h) (hsub b o),λb o hf hx=>h.apartX id (by rw [hn];rfl) b o (hsub b o hf) hx,Away.drop h id,by simp only [Pk]⟩
   ·exact (vac h2).elim
  |ad id o=>simp only [pack] at hr;exact (vac hr).elim
  |tp cs=>simp only [pack] at hr;exact (vac hr).elim
  |ea id i m o=>simp only [pack] at hr;exact (vac hr).elim
  |ei id ver p i m o=>simp only [pack] at hr;exact (vac hr).elim
  |ez cs o=>simp only [pack] at hr;exact (vac hr).elim
theorem voo {fz:Bool}:∀(k:Nat) {X:vaj} {st:St} {sh:va2} {cs:List TV} {vs:List Value} {ys:List CV} {st':St},GS cx U X ρ F st sh V a w->TRL cx.P w cx.Z ρ F sh cs vs->vap U cs->(vck fz k cs).run st=some (ys,st')->
  ∃Fc sh',CRL cx.P w cx.Z ys vs Fc/\GS cx U (λb o=>X b o\/Fc b o) ρ F st' sh' V a w/\Apart Fc X/\Away U V sh sh' st st'/\PkL (Rl U ρ sh' V) cs ys
 |0,X,st,sh,cs,vs,ys,st',h,hc,hi,hr=>by simp only [vck] at hr;exact (vac hr).elim
 |k+1,X,st,sh,cs,vs,ys,st',h,hc,hi,hr=>by
  cases hc with
  |nil=>
   simp only [vck] at hr;cases run_pure hr;exact ⟨Nil,sh,voi,h.less λ_ _ hx=>hx.elim (λh=>h) λh=>h.elim,λ_ _ h=>h.elim,.refl _ _ _ _,by simp only [PkL]⟩
  | @cons c v cs vs hx hs=>
   simp only [vck] at hr;obtain ⟨y,s1,h1,h2⟩:=vaa hr;obtain ⟨ys',s2,h3,h4⟩:=vaa h2;cases run_pure h4;obtain ⟨F1,sh1,k1,k2,k3,k4,k5⟩:=vup k h hx hi.1 h1;have hs':TRL cx.P w cx.Z ρ F sh1 cs vs:= .of hs.length λi c u k1 k2=>(hs.get i c u k1 k2).shape (vbm hi.2 k1) k4.shape;obtain ⟨F2,sh2,l1,l2,l3,l4,l5⟩:=voo k k2 hs' hi.2 h3;refine ⟨λb o=>F1 b o\/F2 b o,sh2,?_,l2.less λb o hx=>hx.elim (λh=> .inl (.inl h)) λh=>h.elim (λh=> .inl (.inr h)) .inr,?_,k4.trans l4,?_⟩
   ·simp only [CRL];exact ⟨v,vs,F1,F2,rfl,k1,l1,λb o h1 h2=>l3 b o h2 (.inr h1),λ_ _=>Iff.rfl⟩
   ·rintro b o (hf|hf) hx
    ·exact k3 b o hf hx
    ·exact l3 b o hf (.inl hx)
   ·simp only [PkL];exact ⟨Pk.mono l4.rl k5,l5⟩
end
