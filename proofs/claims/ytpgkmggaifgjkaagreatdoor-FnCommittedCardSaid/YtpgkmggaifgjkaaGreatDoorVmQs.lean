/- The interpreter 'VM'. -/
import Derived.Test.YtpgkmggaifgjkaaGreatDoorVmLo
open Nat renaming le_refl->Aa,le_trans->Aq,lt_of_lt_of_le->Ar,add_zero->Ax
open Bool renaming and_eq_true->Ab,false_eq_true->Ah,not_eq_true'->At
open List renaming replicate->Ac,length_replicate->Ad,eq_nil_of_length_eq_zero->Ae,mem_cons->Af,mem_replicate->Ai,getElem?_eq_some_iff->Ak,getElem?_eq_getElem->Al,getElem?_replicate->Am,mem_of_getElem?->Ao,flatMap_cons->Au,cons_append->Av
open Array renaming length_toList->Ag,ext'->Ap,map->Aw
open Option.some renaming injEq->Aj
open Go.Value renaming iface->An
set_option linter.all false
namespace Go.Proofs.YtpgkmggaifgjkaaGreatDoor.VM
open Go
variable {cx:Cx} {U:Nat->Prop} {X:vaj} {ρ:Nat->Value} {F:Nat->vaj} {st:St} {sh:va2} {V:Nat} {a:Act} {w:World}
mutual
theorem vog {q:Bool}:∀{x:TV} {c0 y:CV} {b:Nat} {st:St} {b':Nat} {st':St},(vaf q V b x c0 y).run st=some (b',st')->b<=b'
 | .rf id,c0,y,b,st,b',st',h=>by
  have triv:(M.pure b).run st=some (b',st')->b<=b':=λh=>by cases run_pure h;exact Aa _
  cases c0 with
  |sl z0 e0 es0=>
   cases y with
   |sl z e es=>
    cases z0<;>cases z<;>simp only [vaf] at h
    ·obtain ⟨nd,s1,h1,h2⟩:=vaa h;split at h2
     ·obtain ⟨_,s2,h3,h4⟩:=vaa h2;cases run_pure h4;exact Aa _
     ·exact (vac h2).elim
    all_goals exact triv h
   |_=>simp only [vaf] at h;exact triv h
  |bx z0 cs0=>
   cases y with
   |bx z cs=>
    cases z0<;>cases z<;>simp only [vaf] at h
    ·obtain ⟨nd,s1,h1,h2⟩:=vaa h;split at h2
     ·obtain ⟨r,s2,h3,h4⟩:=vaa h2;obtain ⟨_,s3,h5,h6⟩:=vaa h4;cases run_pure h6;exact ve4 h3
     ·exact (vac h2).elim
    all_goals exact triv h
   |_=>simp only [vaf] at h;exact triv h
  |_=>simp only [vaf] at h;exact triv h
 | .fn f fs cs,c0,y,b,st,b',st',h=>by
  have triv:(M.pure b).run st=some (b',st')->b<=b':=λh=>by cases run_pure h;exact Aa _
  cases c0 with
  |fn f0 fs0 cs0=>
   cases y with
   |fn f1 fs1 cs1=>
    simp only [vaf] at h;obtain ⟨b1,s1,h1,h2⟩:=vaa h;exact Aq (viy h1) (viy h2)
   |_=>simp only [vaf] at h;exact triv h
  |_=>simp only [vaf] at h;exact triv h
 | .st cs,c0,y,b,st,b',st',h=>by
  have triv:(M.pure b).run st=some (b',st')->b<=b':=λh=>by cases run_pure h;exact Aa _
  cases c0 with
  |st cs0=>
   cases y with
   |st cs1=>simp only [vaf] at h;exact viy h
   |_=>simp only [vaf] at h;exact triv h
  |_=>simp only [vaf] at h;exact triv h
 | .ic t x,c0,y,b,st,b',st',h=>by
  have triv:(M.pure b).run st=some (b',st')->b<=b':=λh=>by cases run_pure h;exact Aa _
  cases c0 with
  |ic t0 x0=>
   cases y with
   |ic t1 x1=>simp only [vaf] at h;exact vog h
   |_=>simp only [vaf] at h;exact triv h
  |_=>simp only [vaf] at h;exact triv h
 | .a _,c0,y,b,st,b',st',h=>by simp only [vaf] at h;cases run_pure h;exact Aa _
 | .nl _,c0,y,b,st,b',st',h=>by simp only [vaf] at h;cases run_pure h;exact Aa _
 | .ri _ _ _,c0,y,b,st,b',st',h=>by simp only [vaf] at h;cases run_pure h;exact Aa _
 | .sb _ _ _,c0,y,b,st,b',st',h=>by simp only [vaf] at h;cases run_pure h;exact Aa _
 | .ad _ _,c0,y,b,st,b',st',h=>by simp only [vaf] at h;cases run_pure h;exact Aa _
 | .ea _ _ _ _,c0,y,b,st,b',st',h=>by simp only [vaf] at h;cases run_pure h;exact Aa _
 | .ei _ _ _ _ _ _,c0,y,b,st,b',st',h=>by simp only [vaf] at h;cases run_pure h;exact Aa _
 | .sz _ _,c0,y,b,st,b',st',h=>by simp only [vaf] at h;cases run_pure h;exact Aa _
 | .ez _ _,c0,y,b,st,b',st',h=>by simp only [vaf] at h;cases run_pure h;exact Aa _
 | .tp _,c0,y,b,st,b',st',h=>by simp only [vaf] at h;cases run_pure h;exact Aa _
 | .un,c0,y,b,st,b',st',h=>by simp only [vaf] at h;cases run_pure h;exact Aa _
theorem viy {q:Bool}:∀{xs:List TV} {cs0 ys:List CV} {b:Nat} {st:St} {b':Nat} {st':St},(vbh q V b xs cs0 ys).run st=some (b',st')->b<=b'
 | [],cs0,ys,b,st,b',st',h=>by simp only [vbh] at h;cases run_pure h;exact Aa _
 |x::xs,[],ys,b,st,b',st',h=>by simp only [vbh] at h;cases run_pure h;exact Aa _
 |x::xs,c0::cs0,[],b,st,b',st',h=>by simp only [vbh] at h;cases run_pure h;exact Aa _
 |x::xs,c0::cs0,y::ys,b,st,b',st',h=>by
  simp only [vbh] at h;obtain ⟨b1,s1,h1,h2⟩:=vaa h;exact Aq (vog h1) (viy h2)
end
structure Old2 (U:Nat->Prop) (V:Nat) (ρ ρ':Nat->Value) (F F':Nat->vaj) (sh sh':va2) (st st':St):Prop where
 rho:∀i,U i->ρ' i=ρ i
 shape:∀i,U i->sh' i=sh i\/sh' i=none
 f:∀i,U i->∀ver e l,sh' i=some (ver,e,l)->ver≠V->∀b o,F i b o->F' i b o
 live:∀i,U i->(st.node i).isSome=true->(st'.node i).isSome=true/\∀b o,F i b o->F' i b o
 dead:∀i,U i->st'.node i=none->st.node i=none/\sh' i=sh i
 slots:st'.slots=st.slots
theorem Old2.refl (U:Nat->Prop) (V:Nat) (ρ:Nat->Value) (F:Nat->vaj) (sh:va2) (st:St):Old2 U V ρ ρ F F sh sh st st:=⟨λ_ _=>rfl,λ_ _=> .inl rfl,λ_ _ _ _ _ _ _ _ _ h=>h,λ_ _ h=>⟨h,λ_ _ h=>h⟩,λ_ _ h=>⟨h,rfl⟩,rfl⟩
theorem Old.to2 {U:Nat->Prop} {ρ ρ':Nat->Value} {F F':Nat->vaj} {sh sh':va2} {st st':St} (h:Old U ρ ρ' F F' sh sh' st st'):Old2 U V ρ ρ' F F' sh sh' st st':=
 ⟨h.rho,λi hi=> .inl (h.shape i hi),λi hi _ _ _ _ _=>by rw [h.f i hi];exact λ_ _ h=>h,λi hi hs=>⟨by rw [h.node i hi];exact hs,by rw [h.f i hi];exact λ_ _ h=>h⟩,λi hi hn=>⟨by rw [<-h.node i hi];exact hn,h.shape i hi⟩,h.slots⟩
theorem Old2.trans {U U':Nat->Prop} {ρ ρ1 ρ2:Nat->Value} {F F1 F2:Nat->vaj} {sh sh1 sh2:va2} {st st1 st2:St} (h:Old2 U V ρ ρ1 F F1 sh sh1 st st1) (h':Old2 U' V ρ1 ρ2 F1 F2 sh1 sh2 st1 st2) (hu:∀i,U i->U' i):
  Old2 U V ρ ρ2 F F2 sh sh2 st st2:=by
 refine ⟨λi hi=>(h'.rho i (hu i hi)).trans (h.rho i hi),λi hi=> ?_,λi hi ver e l hs hv=> ?_,λi hi hs=> ?_,λi hi hn=> ?_,h'.slots.trans h.slots⟩
 ·rcases h'.shape i (hu i hi) with e|e
  ·rw [e];exact h.shape i hi
  ·exact .inr e
 ·rcases h'.shape i (hu i hi) with e1|e1
  ·exact λb o hf=>h'.f i (hu i hi) ver e l hs hv b o (h.f i hi ver e l (by rw [<-e1];exact hs) hv b o hf)
  ·rw [e1] at hs;cases hs
 ·obtain ⟨k1,k2⟩:=h.live i hi hs;obtain ⟨k3,k4⟩:=h'.live i (hu i hi) k1;exact ⟨k3,λb o hf=>k4 b o (k2 b o hf)⟩
 ·obtain ⟨k1,k2⟩:=h'.dead i (hu i hi) hn;obtain ⟨k3,k4⟩:=h.dead i hi k1;exact ⟨k3,k2.trans k4⟩
theorem Old2.tr {U:Nat->Prop} {ρ ρ':Nat->Value} {F F':Nat->vaj} {sh sh':va2} {st st':St} (h:Old2 U V ρ ρ' F F' sh sh' st st') (hV:V≠0/\¬U (V-1)) {P:Program} {Z:Zn} {c:TV} {v:Value} (hc:TR P w Z ρ F sh c v) (hi:idsIn U c):
  TR P w Z ρ' F' sh' c v:=
 hc.mono hi (λ_ _ _ cur _ _ hb=>⟨cur,hb,rfl,rfl⟩) h.rho (λid hu ver e l hs=>by
  rcases h.shape id hu with e1|e1
  ·rw [e1] at hs;exact ⟨ver,hs,λ_=>rfl⟩
  ·rw [e1] at hs;cases hs) λid hu ver e l hs hv=> .of (.refl _) λb o hf=>⟨h.f id hu ver e l hs (λe=>by subst e;exact hv.elim hV.1 hV.2) b o hf,λ_ hy _=>hy⟩
theorem Old2.trl {U:Nat->Prop} {ρ ρ':Nat->Value} {F F':Nat->vaj} {sh sh':va2} {st st':St} (h:Old2 U V ρ ρ' F F' sh sh' st st') (hV:V≠0/\¬U (V-1)) {P:Program} {Z:Zn} {cs:List TV} {vs:List Value} (hc:TRL P w Z ρ F sh cs vs) (hi:vap U cs):
  TRL P w Z ρ' F' sh' cs vs:= .of hc.length λi c u h1 h2=>h.tr hV (hc.get i c u h1 h2) (vbm hi h1)
def Rd (U:Nat->Prop) (ρ:Nat->Value) (sh:va2) (V:Nat) (st:St):Nat->Nat->Nat->Prop:=λid e l=>U id/\(st.node id=none->sh id=some (V,e,l)/\∃x cap,ρ id= .slice x l cap)
theorem Rl.rd {id e l:Nat} (h:Rl U ρ sh V id e l):Rd U ρ sh V st id e l:=⟨h.1,λ_=>h.2⟩
theorem Old2.rd {U U':Nat->Prop} {ρ ρ':Nat->Value} {F F':Nat->vaj} {sh sh':va2} {st st':St} (h:Old2 U V ρ ρ' F F' sh sh' st st') (hu:∀i,U i->U' i):∀id e l,Rd U ρ sh V st id e l->Rd U' ρ' sh' V st' id e l:=by
 rintro id e l ⟨h1,h2⟩
 refine ⟨hu id h1,λhn=> ?_⟩;obtain ⟨k1,k2⟩:=h.dead id h1 hn;obtain ⟨k3,k4⟩:=h2 k1;exact ⟨k2.trans k3,by rw [h.rho id h1];exact k4⟩
mutual
theorem vs1 {q:Bool}:∀{x:TV} {c0 y:CV} {U:Nat->Prop} {X:vaj} {ρ:Nat->Value} {F:Nat->vaj} {st:St} {sh:va2} {b b':Nat} {v:Value} {Fc:vaj} {st':St},GS cx U X ρ F st sh V a w->(∀i,b<=i->i<V->¬U i)->
  TR cx.P w cx.Z ρ F sh x v->idsIn U x->Pk (Rd U ρ sh V st) x c0->CR cx.P w cx.Z y v Fc->(∀b o,Fc b o->X b o)->(vaf q V b x c0 y).run st=some (b',st')->b'<=V-1->
  ∃ρ' F' sh',GS cx (To U b b') (λb o=>X b o/\¬Fc b o) ρ' F' st' sh' V a w/\Old2 U V ρ ρ' F F' sh sh' st st'
 | .rf id,c0,y,U,X,ρ,F,st,sh,b,b',v,Fc,st',h,hb,hx,hi,hp,hy,hF,hr,hle=>by
  have triv:(M.pure b).run st=some (b',st')->∃ρ' F' sh',GS cx (To U b b') (λb o=>X b o/\¬Fc b o) ρ' F' st' sh' V a w/\Old2 U V ρ ρ' F F' sh sh' st st':=λhr=>by
   cases run_pure hr;exact ⟨ρ,F,sh,(h.less λ_ _ hx=>hx.1).more (λ_ hi=> .inl hi) (vbz h.fresh.2 hle),.refl _ _ _ _ _ _⟩
  have hv:v=ρ id:=by cases hx;rfl
  have hidV:id≠V-1:=λe=>h.fresh.2 (e▸hi);cases c0 with
  |sl z0 e0 es0=>
   cases y with
   |sl z e es=>
    cases z0<;>cases z<;>simp only [vaf] at hr
    ·obtain ⟨nd,s1,h1,h2⟩:=vaa hr;cases vbn h1;split at h2
     ·rename_i hcond;obtain ⟨hnone,rfl⟩:=hcond;rw [Option.isNone_iff_eq_none] at hnone;obtain ⟨_,s2,h3,h4⟩:=vaa h2;cases vby h3;cases run_pure h4;simp only [CR] at hy;simp only [Pk] at hp;obtain ⟨_,hp2⟩:=hp;obtain ⟨hsh,x0,cap0,hs0⟩:=hp2 hnone;have hy':DC cx.P w cx.Z (.sl e0 es) (ρ id) Fc:=by rw [<-hv];exact hy
      obtain ⟨x1,cap1,hs1,_⟩:=hy'.rd.slice;rw [hs0] at hs1;injection hs1 with _ hlen _
      have hpl:=h.place (id:=id) (n:= .sl q V e0 es) (v':=ρ id) (Fn:=Fc) (X':=λb o=>X b o/\¬Fc b o) (sh':=sh) hnone hidV (λ_=>rfl) (h.one id)
       (by unfold vah;rw [St.setNode_node,if_pos rfl,hsh,hlen]) (λ_ _=>rfl) (λ_=> .inl rfl) hF (λ_ _ hx=>hx.1) (λb o hf hx=>hx.2 hf) (.sl q V e0 es (by rw [va5,va5];exact hy')) (.inr (.inr rfl))
      rw [vd6] at hpl;refine ⟨ρ,_,sh,hpl.more (λi hi'=>hi'.elim .inl λe=> .inl (e▸hi)) (vbz h.fresh.2 hle),λ_ _=>rfl,λ_ _=> .inl rfl,λi _ ver e l hs hv=> ?_,λi _ hs=> ?_,λi _ hn=> ?_,rfl⟩
      ·by_cases ei:i=id
       ·subst ei;rw [hsh] at hs;cases hs;exact absurd rfl hv
       ·rw [vce _ _ ei];exact λ_ _ h=>h
      ·have ei:i≠id:=by rintro rfl;rw [hnone] at hs;cases hs
       refine ⟨?_,by rw [vce _ _ ei];exact λ_ _ h=>h⟩;rw [vgd,if_neg (λe=>ei e.symm)];exact hs
      ·refine ⟨?_,rfl⟩;rw [vgd] at hn;split at hn
       ·cases hn
       ·exact hn
     ·exact (vac h2).elim
    all_goals exact triv hr
   |_=>simp only [vaf] at hr;exact triv hr
  |bx z0 cs0=>
   cases y with
   |bx z cs=>
    cases z0<;>cases z<;>simp only [vaf] at hr
    ·obtain ⟨nd,s1,h1,h2⟩:=vaa hr;cases vbn h1;split at h2
     ·rename_i hnone;rw [Option.isNone_iff_eq_none] at hnone;obtain ⟨r,s2,h3,h4⟩:=vaa h2;obtain ⟨_,s3,h5,h6⟩:=vaa h4;cases vby h5;cases run_pure h6;simp only [CR] at hy;obtain ⟨b0,off,cur,t,Fi,hval,k2,k3,k4,k5,k6,k7,k8⟩:=hy;obtain ⟨ρ1,F1,sh1,g1,t1,i1,o1⟩:=vhc h hb k5 (λb' o' hf=>hF b' o' ((k8 b' o').2 (.inr hf))) h3 hle;have hlen:r.1.length=cs.length:=by rw [<-t1.length];simp;omega
      have hnone1:s2.node id=none:=by rw [o1.node id hi];exact hnone
      let Fn:vaj:=λb' o'=>b'=b0/\off<=o'/\o'<off+cs.length;have hFn:∀b' o',Fn b' o'->X b' o'/\¬Fi b' o':=by
       rintro b' o' ⟨rfl,ho1,ho2⟩
       exact ⟨hF _ _ ((k8 _ _).2 (.inl ⟨trivial,rfl,ho1,ho2⟩)),k7 trivial o' ho1 ho2⟩
      have hX:∀b' o',(X b' o'/\¬Fc b' o')->(X b' o'/\¬Fi b' o'):=λb' o' hx=>⟨hx.1,λhf=>hx.2 ((k8 b' o').2 (.inr hf))⟩
      have hρ:ρ1 id= .pointer (some ⟨b0,off,none⟩):=by rw [o1.rho id hi,<-hv];exact hval
      have hshk:∀j,To U b r.2 j->∀ver e l,(if j=id then none else sh1 j)=some (ver,e,l)->∃ver0,sh1 j=some (ver0,e,l)/\((ver=0\/To U b r.2 (ver-1))->ver0=ver):=by
       intro j _ ver e l hs;split at hs
       ·cases hs
       ·exact ⟨ver,hs,λ_=>rfl⟩
      have hpl:=g1.place (id:=id) (n:= .bx false r.1) (v':=ρ1 id) (Fn:=Fn) (X':=λb o=>X b o/\¬Fc b o) (sh':=λj=>if j=id then none else sh1 j) hnone1 hidV (λ_=>rfl) (g1.one id)
       (by unfold vah;rw [St.setNode_node,if_pos rfl,if_pos rfl]) (λj hj=>if_neg hj) (λ_=> .inr (if_pos rfl)) hFn hX (λb' o' hf hx=>hx.2 ((k8 b' o').2 (.inl ⟨trivial,hf⟩)))
       (.bx false r.1 b0 off cur t (by rw [va5];exact hρ) k2 zo (by intro e;rw [e] at hlen;exact k4 (Ae hlen.symm))
        (λi c hic u hu=>by
         have:=t1.get i c u hic (by
          rw [List.getElem?_take,if_pos (by rw [<-hlen];exact (Ak.1 hic).1),List.getElem?_drop,Array.getElem?_toList]
          exact hu)
         rw [vd6];exact this.mono (vbm i1 hic) (λ_ _ _ cur _ _ hb=>⟨cur,hb,rfl,rfl⟩) (λ_ _=>rfl) hshk λj hj ver e l hs hkn=>by
          by_cases ej:j=id
          ·rw [if_pos ej] at hs;cases hs
          ·rw [vce _ _ ej];exact λ_ _ h=>h)
        (λb' o'=>by rw [va5,hlen];simp only [Fn,true_and]) (λhz=>by cases hz))
       (vap.mono (λi hi=> .inl hi) i1)
      rw [vd6] at hpl;have o2:Old2 (To U b r.2) V ρ1 ρ1 F1 (upd F1 id Fn) sh1 (λj=>if j=id then none else sh1 j) s2 (s2.setNode id (some (.bx false r.1))):=by
       refine ⟨λ_ _=>rfl,λj _=> ?_,λi _ ver e l hs _=> ?_,λi _ hs=> ?_,λi _ hn=> ?_,rfl⟩
       ·by_cases ej:j=id
        ·exact .inr (if_pos ej)
        ·exact .inl (if_neg ej)
       ·by_cases ei:i=id
        ·rw [if_pos ei] at hs;cases hs
        ·rw [vce _ _ ei];exact λ_ _ h=>h
       ·have ei:i≠id:=by rintro rfl;rw [hnone1] at hs;cases hs
        refine ⟨?_,by rw [vce _ _ ei];exact λ_ _ h=>h⟩;rw [St.setNode_node,if_neg (λe=>ei e.symm)];exact hs
       ·rw [St.setNode_node] at hn;split at hn
        ·cases hn
        ·rename_i hne;exact ⟨hn,if_neg λe=>hne e.symm⟩
      exact ⟨ρ1,_,_,hpl.more (λi hi'=>hi'.elim (λh=>h) λe=> .inl (e▸hi)) (vbz h.fresh.2 hle),o1.to2.trans o2 λi hi=> .inl hi⟩
     ·exact (vac h2).elim
    all_goals exact triv hr
   |_=>simp only [vaf] at hr;exact triv hr
  |_=>simp only [vaf] at hr;exact triv hr
 | .fn f fs cs,c0,y,U,X,ρ,F,st,sh,b,b',v,Fc,st',h,hb,hx,hi,hp,hy,hF,hr,hle=>by
  have triv:(M.pure b).run st=some (b',st')->∃ρ' F' sh',GS cx (To U b b') (λb o=>X b o/\¬Fc b o) ρ' F' st' sh' V a w/\Old2 U V ρ ρ' F F' sh sh' st st':=λhr=>by
   cases run_pure hr;exact ⟨ρ,F,sh,(h.less λ_ _ hx=>hx.1).more (λ_ hi=> .inl hi) (vbz h.fresh.2 hle),.refl _ _ _ _ _ _⟩
  cases c0 with
  |fn f0 fs0 cs0=>
   cases y with
   |fn f1 fs1 cs1=>
    simp only [vaf] at hr;obtain ⟨b1,s1,h1,h2⟩:=vaa hr;have le1:=viy h1;have le2:=viy h2;simp only [CR] at hy;simp only [Pk] at hp;obtain ⟨xs,us,G1,G2,rfl,k2,k3,k4,k5⟩:=hy;cases hx with
    |fn _ _ _ _ _ hxl hul hxs hus=>
     have t1:TRL cx.P w cx.Z ρ F sh fs xs.toList:= .of (by rw [Ag];exact hxl) λi c u k1 k2=>hxs i c u k1 (by simpa using k2);have t2:TRL cx.P w cx.Z ρ F sh cs us.toList:= .of (by rw [Ag];exact hul) λi c u k1 k2=>hus i c u k1 (by simpa using k2);obtain ⟨ρ1,F1,sh1,g1,o1⟩:=vm8 h hb t1 hi.1 hp.1 k2 (λb o hf=>hF b o ((k5 b o).2 (.inl hf))) h1 zo
     obtain ⟨ρ2,F2,sh2,g2,o2⟩:=vm8 g1 (λi hi hi2=>by
      rintro (hu|hu)
      ·exact hb i zo hi2 hu
      ·omega) (o1.trl h.fresh t2 hi.2) (vap.mono (λi hi=> .inl hi) hi.2) (PkL.mono (o1.rd λi hi=> .inl hi) hp.2) k3 (λb o hf=>⟨hF b o ((k5 b o).2 (.inr hf)),λhg=>k4 b o hg hf⟩) h2 hle
     have hsub:∀i,To (To U b b1) b1 b' i->To U b b' i:=by
      rintro i ((hi|hi)|hi)
      ·exact .inl hi
      ·exact .inr ⟨hi.1,zo⟩
      ·exact .inr ⟨zo,hi.2⟩
     exact ⟨ρ2,F2,sh2,(g2.less λb o hx=>⟨⟨hx.1,λhg=>hx.2 ((k5 b o).2 (.inl hg))⟩,λhg=>hx.2 ((k5 b o).2 (.inr hg))⟩).more hsub (vbz h.fresh.2 hle),o1.trans o2 λi hi=> .inl hi⟩
   |_=>simp only [vaf] at hr;exact triv hr
  |_=>simp only [vaf] at hr;exact triv hr
 | .st cs,c0,y,U,X,ρ,F,st,sh,b,b',v,Fc,st',h,hb,hx,hi,hp,hy,hF,hr,hle=>by
  have triv:(M.pure b).run st=some (b',st')->∃ρ' F' sh',GS cx (To U b b') (λb o=>X b o/\¬Fc b o) ρ' F' st' sh' V a w/\Old2 U V ρ ρ' F F' sh sh' st st':=λhr=>by
   cases run_pure hr;exact ⟨ρ,F,sh,(h.less λ_ _ hx=>hx.1).more (λ_ hi=> .inl hi) (vbz h.fresh.2 hle),.refl _ _ _ _ _ _⟩
  cases c0 with
  |st cs0=>
   cases y with
   |st cs1=>
    simp only [vaf] at hr;simp only [CR] at hy;simp only [Pk] at hp;obtain ⟨us,rfl,k2⟩:=hy;exact vm8 h hb (qow hx) hi hp k2 hF hr hle
   |_=>simp only [vaf] at hr;exact triv hr
  |_=>simp only [vaf] at hr;exact triv hr
 | .ic t x,c0,y,U,X,ρ,F,st,sh,b,b',v,Fc,st',h,hb,hx,hi,hp,hy,hF,hr,hle=>by
  have triv:(M.pure b).run st=some (b',st')->∃ρ' F' sh',GS cx (To U b b') (λb o=>X b o/\¬Fc b o) ρ' F' st' sh' V a w/\Old2 U V ρ ρ' F F' sh sh' st st':=λhr=>by
   cases run_pure hr;exact ⟨ρ,F,sh,(h.less λ_ _ hx=>hx.1).more (λ_ hi=> .inl hi) (vbz h.fresh.2 hle),.refl _ _ _ _ _ _⟩
  cases c0 with
  |ic t0 x0=>
   cases y with
   |ic t1 x1=>
    simp only [vaf] at hr;simp only [CR] at hy;simp only [Pk] at hp;obtain ⟨u,rfl,k2⟩:=hy;cases hx with
    |ic _ _ _ hx=>exact vs1 h hb hx hi hp k2 hF hr hle
   |_=>simp only [vaf] at hr;exact triv hr
  |_=>simp only [vaf] at hr;exact triv hr
 | .a _,c0,y,U,X,ρ,F,st,sh,b,b',v,Fc,st',h,_,_,_,_,_,_,hr,hle=>by
  simp only [vaf] at hr;cases run_pure hr;exact ⟨ρ,F,sh,(h.less λ_ _ hx=>hx.1).more (λ_ hi=> .inl hi) (vbz h.fresh.2 hle),.refl _ _ _ _ _ _⟩
 | .nl _,c0,y,U,X,ρ,F,st,sh,b,b',v,Fc,st',h,_,_,_,_,_,_,hr,hle=>by
  simp only [vaf] at hr;cases run_pure hr;exact ⟨ρ,F,sh,(h.less λ_ _ hx=>hx.1).more (λ_ hi=> .inl hi) (vbz h.fresh.2 hle),.refl _ _ _ _ _ _⟩
 | .ri _ _ _,c0,y,U,X,ρ,F,st,sh,b,b',v,Fc,st',h,_,_,_,_,_,_,hr,hle=>by
  simp only [vaf] at hr;cases run_pure hr;exact ⟨ρ,F,sh,(h.less λ_ _ hx=>hx.1).more (λ_ hi=> .inl hi) (vbz h.fresh.2 hle),.refl _ _ _ _ _ _⟩
 | .sb _ _ _,c0,y,U,X,ρ,F,st,sh,b,b',v,Fc,st',h,_,_,_,_,_,_,hr,hle=>by
  simp only [vaf] at hr;cases run_pure hr;exact ⟨ρ,F,sh,(h.less λ_ _ hx=>hx.1).more (λ_ hi=> .inl hi) (vbz h.fresh.2 hle),.refl _ _ _ _ _ _⟩
 | .ad _ _,c0,y,U,X,ρ,F,st,sh,b,b',v,Fc,st',h,_,_,_,_,_,_,hr,hle=>by
  simp only [vaf] at hr;cases run_pure hr;exact ⟨ρ,F,sh,(h.less λ_ _ hx=>hx.1).more (λ_ hi=> .inl hi) (vbz h.fresh.2 hle),.refl _ _ _ _ _ _⟩
 | .ea _ _ _ _,c0,y,U,X,ρ,F,st,sh,b,b',v,Fc,st',h,_,_,_,_,_,_,hr,hle=>by
  simp only [vaf] at hr;cases run_pure hr;exact ⟨ρ,F,sh,(h.less λ_ _ hx=>hx.1).more (λ_ hi=> .inl hi) (vbz h.fresh.2 hle),.refl _ _ _ _ _ _⟩
 | .ei _ _ _ _ _ _,c0,y,U,X,ρ,F,st,sh,b,b',v,Fc,st',h,_,_,_,_,_,_,hr,hle=>by
  simp only [vaf] at hr;cases run_pure hr;exact ⟨ρ,F,sh,(h.less λ_ _ hx=>hx.1).more (λ_ hi=> .inl hi) (vbz h.fresh.2 hle),.refl _ _ _ _ _ _⟩
 | .sz _ _,c0,y,U,X,ρ,F,st,sh,b,b',v,Fc,st',h,_,_,_,_,_,_,hr,hle=>by
  simp only [vaf] at hr;cases run_pure hr;exact ⟨ρ,F,sh,(h.less λ_ _ hx=>hx.1).more (λ_ hi=> .inl hi) (vbz h.fresh.2 hle),.refl _ _ _ _ _ _⟩
 | .ez _ _,c0,y,U,X,ρ,F,st,sh,b,b',v,Fc,st',h,_,_,_,_,_,_,hr,hle=>by
  simp only [vaf] at hr;cases run_pure hr;exact ⟨ρ,F,sh,(h.less λ_ _ hx=>hx.1).more (λ_ hi=> .inl hi) (vbz h.fresh.2 hle),.refl _ _ _ _ _ _⟩
 | .tp _,c0,y,U,X,ρ,F,st,sh,b,b',v,Fc,st',h,_,_,_,_,_,_,hr,hle=>by
  simp only [vaf] at hr;cases run_pure hr;exact ⟨ρ,F,sh,(h.less λ_ _ hx=>hx.1).more (λ_ hi=> .inl hi) (vbz h.fresh.2 hle),.refl _ _ _ _ _ _⟩
 | .un,c0,y,U,X,ρ,F,st,sh,b,b',v,Fc,st',h,_,_,_,_,_,_,hr,hle=>by
  simp only [vaf] at hr;cases run_pure hr;exact ⟨ρ,F,sh,(h.less λ_ _ hx=>hx.1).more (λ_ hi=> .inl hi) (vbz h.fresh.2 hle),.refl _ _ _ _ _ _⟩
theorem vm8 {q:Bool}:∀{xs:List TV} {cs0 ys:List CV} {U:Nat->Prop} {X:vaj} {ρ:Nat->Value} {F:Nat->vaj} {st:St} {sh:va2} {b b':Nat} {vs:List Value} {Fc:vaj} {st':St},GS cx U X ρ F st sh V a w->(∀i,b<=i->i<V->¬U i)->
  TRL cx.P w cx.Z ρ F sh xs vs->vap U xs->PkL (Rd U ρ sh V st) xs cs0->CRL cx.P w cx.Z ys vs Fc->(∀b o,Fc b o->X b o)->(vbh q V b xs cs0 ys).run st=some (b',st')->b'<=V-1->
  ∃ρ' F' sh',GS cx (To U b b') (λb o=>X b o/\¬Fc b o) ρ' F' st' sh' V a w/\Old2 U V ρ ρ' F F' sh sh' st st'
 | [],cs0,ys,U,X,ρ,F,st,sh,b,b',vs,Fc,st',h,_,_,_,_,_,_,hr,hle=>by
  simp only [vbh] at hr;cases run_pure hr;exact ⟨ρ,F,sh,(h.less λ_ _ hx=>hx.1).more (λ_ hi=> .inl hi) (vbz h.fresh.2 hle),.refl _ _ _ _ _ _⟩
 |x::xs,[],ys,U,X,ρ,F,st,sh,b,b',vs,Fc,st',h,_,_,_,_,_,_,hr,hle=>by
  simp only [vbh] at hr;cases run_pure hr;exact ⟨ρ,F,sh,(h.less λ_ _ hx=>hx.1).more (λ_ hi=> .inl hi) (vbz h.fresh.2 hle),.refl _ _ _ _ _ _⟩
 |x::xs,c0::cs0,[],U,X,ρ,F,st,sh,b,b',vs,Fc,st',h,_,_,_,_,_,_,hr,hle=>by
  simp only [vbh] at hr;cases run_pure hr;exact ⟨ρ,F,sh,(h.less λ_ _ hx=>hx.1).more (λ_ hi=> .inl hi) (vbz h.fresh.2 hle),.refl _ _ _ _ _ _⟩
 |x::xs,c0::cs0,y::ys,U,X,ρ,F,st,sh,b,b',vs,Fc,st',h,hb,hx,hi,hp,hy,hF,hr,hle=>by
  simp only [vbh] at hr;obtain ⟨b1,s1,h1,h2⟩:=vaa hr;have le1:=vog h1;have le2:=viy h2;simp only [CRL] at hy;simp only [PkL] at hp;obtain ⟨v,vs',G1,G2,rfl,k2,k3,k4,k5⟩:=hy;cases hx with
  |cons t1 t2=>
   obtain ⟨ρ1,F1,sh1,g1,o1⟩:=vs1 h hb t1 hi.1 hp.1 k2 (λb o hf=>hF b o ((k5 b o).2 (.inl hf))) h1 zo
   obtain ⟨ρ2,F2,sh2,g2,o2⟩:=vm8 g1 (λi hi hi2=>by
    rintro (hu|hu)
    ·exact hb i zo hi2 hu
    ·omega) (o1.trl h.fresh t2 hi.2) (vap.mono (λi hi=> .inl hi) hi.2) (PkL.mono (o1.rd λi hi=> .inl hi) hp.2) k3 (λb o hf=>⟨hF b o ((k5 b o).2 (.inr hf)),λhg=>k4 b o hg hf⟩) h2 hle
   have hsub:∀i,To (To U b b1) b1 b' i->To U b b' i:=by
    rintro i ((hi|hi)|hi)
    ·exact .inl hi
    ·exact .inr ⟨hi.1,zo⟩
    ·exact .inr ⟨zo,hi.2⟩
   exact ⟨ρ2,F2,sh2,(g2.less λb o hx=>⟨⟨hx.1,λhg=>hx.2 ((k5 b o).2 (.inl hg))⟩,λhg=>hx.2 ((k5 b o).2 (.inr hg))⟩).more hsub (vbz h.fresh.2 hle),o1.trans o2 λi hi=> .inl hi⟩
end
def PkM (R:Nat->Nat->Nat->Prop):List Md->List TV->List CV->Prop
 | .ro _::ms,_::xs,_::cs=>PkM R ms xs cs
 | .mut _::ms,x::xs,c::cs=>Pk R x c/\PkM R ms xs cs
 |_,_,_=>True
theorem PkM.mono {R R':Nat->Nat->Nat->Prop} (hR:∀id e l,R id e l->R' id e l):∀{ms:List Md} {xs:List TV} {ys:List CV},PkM R ms xs ys->PkM R' ms xs ys
 | [],xs,ys,h=>by cases xs<;>cases ys<;>simp only [PkM]
 |m::ms,[],ys,h=>by cases m<;>cases ys<;>simp only [PkM]
 |m::ms,x::xs,[],h=>by cases m<;>simp only [PkM]
 | .ro _::ms,x::xs,y::ys,h=>by simp only [PkM] at h⊢;exact PkM.mono hR h
 | .mut _::ms,x::xs,y::ys,h=>by simp only [PkM] at h⊢;exact ⟨Pk.mono hR h.1,PkM.mono hR h.2⟩
theorem qlo {keeps:Bool} {X:vaj} {st:St} {sh:va2} {c:TV} {v:Value} {y:CV} {st':St} (h:GS cx U X ρ F st sh V a w) (hc:TR cx.P w cx.Z ρ F sh c v) (hi:idsIn U c) (hr:(lend0 keeps c).run st=some (y,st')):
  ∃Fc sh',CR cx.P w cx.Z y v Fc/\GS cx U (λb o=>X b o\/Fc b o) ρ F st' sh' V a w/\Apart Fc X/\Away U V sh sh' st st'/\Pk (Rl U ρ sh' V) c y:=by
 unfold lend0 at hr;split at hr
 ·rename_i hri;cases run_pure hr;refine ⟨Nil,sh,by simp only [CR];exact λ_ _ h=>h,h.less λ_ _ hx=>hx.elim (λh=>h) λh=>h.elim,λ_ _ h=>h.elim,.refl _ _ _ _,?_⟩;cases c<;>first|(cases hri;done)|(unfold Pk;trivial)
 ·exact vup depth h hc hi hr
theorem vxq {keeps:Bool}:∀(ms:List Md) {X:vaj} {st:St} {sh:va2} {xs:List TV} {vs:List Value} {ys:List CV} {st':St},GS cx U X ρ F st sh V a w->TRL cx.P w cx.Z ρ F sh xs vs->vap U xs->(lend keeps ms xs).run st=some (ys,st')->
  ∃Fc sh',CRL cx.P w cx.Z ys vs Fc/\GS cx U (λb o=>X b o\/Fc b o) ρ F st' sh' V a w/\Apart Fc X/\Away U V sh sh' st st'/\PkM (Rl U ρ sh' V) ms xs ys
 | [],X,st,sh,xs,vs,ys,st',h,hx,hi,hr=>by
  cases hx with
  |nil=>
   simp only [lend] at hr;cases run_pure hr;exact ⟨Nil,sh,voi,h.less λ_ _ hx=>hx.elim (λh=>h) λh=>h.elim,λ_ _ h=>h.elim,.refl _ _ _ _,by simp only [PkM]⟩
  |cons=>simp only [lend] at hr;exact (vac hr).elim
 | .ro n::ms,X,st,sh,xs,vs,ys,st',h,hx,hi,hr=>by
  cases hx with
  |nil=>simp only [lend] at hr;exact (vac hr).elim
  | @cons c v cs vs h1 hs=>
   simp only [lend] at hr;obtain ⟨ys',s2,h3,h4⟩:=vaa hr;cases run_pure h4;obtain ⟨F2,sh2,l1,l2,l3,l4,l5⟩:=vxq ms h hs hi.2 h3;refine ⟨F2,sh2,?_,l2,l3,l4,by simp only [PkM];exact l5⟩;simp only [CRL,CR];exact ⟨v,vs,Nil,F2,rfl,λ_ _ h=>h,l1,λ_ _ h=>h.elim,λb o=>⟨.inr,λh=>h.elim (λh=>h.elim) λh=>h⟩⟩
 | .mut n::ms,X,st,sh,xs,vs,ys,st',h,hx,hi,hr=>by
  cases hx with
  |nil=>simp only [lend] at hr;exact (vac hr).elim
  | @cons c v cs vs h1 hs=>
   simp only [lend] at hr;obtain ⟨y,s1,k1,k2⟩:=vaa hr;obtain ⟨ys',s2,h3,h4⟩:=vaa k2;cases run_pure h4;obtain ⟨F1,sh1,k1,k2,k3,k4,k5⟩:=qlo h h1 hi.1 k1;have hs':TRL cx.P w cx.Z ρ F sh1 cs vs:= .of hs.length λi c u k1 k2=>(hs.get i c u k1 k2).shape (vbm hi.2 k1) k4.shape;obtain ⟨F2,sh2,l1,l2,l3,l4,l5⟩:=vxq ms k2 hs' hi.2 h3;refine ⟨λb o=>F1 b o\/F2 b o,sh2,?_,l2.less λb o hx=>hx.elim (λh=> .inl (.inl h)) λh=>h.elim (λh=> .inl (.inr h)) .inr,?_,k4.trans l4,?_⟩
   ·simp only [CRL];exact ⟨v,vs,F1,F2,rfl,k1,l1,λb o h1 h2=>l3 b o h2 (.inr h1),λ_ _=>Iff.rfl⟩
   ·rintro b o (hf|hf) hx
    ·exact k3 b o hf hx
    ·exact l3 b o hf (.inl hx)
   ·simp only [PkM];exact ⟨Pk.mono l4.rl k5,l5⟩
def Hl (P:Program) (w:World) (ρ:Nat->Value) (F:Nat->vaj) (st:St) (V:Nat) (id:Nat) (p:List (Nat×Nat×Nat)) (v:Value):Prop:=(∃q e es,st.node id=some (.sl q V e es))/\Nav P w (F id) (ρ id) p v
def Hd (P:Program) (w:World) (U:Nat->Prop) (ρ:Nat->Value) (F:Nat->vaj) (st:St) (id:Nat) (p:List (Nat×Nat×Nat)) (v:Value):Prop:=U id/\(st.node id).isSome=true/\Nav P w (F id) (ρ id) p v
def HkM (H:Nat->List (Nat×Nat×Nat)->Value->Prop):List Md->List TV->List Value->Prop
 | .ro _::ms,_::xs,_::vs=>HkM H ms xs vs
 | .mut _::ms,x::xs,v::vs=>(∀id ver p,x= .ri id ver p->H id p v)/\HkM H ms xs vs
 |_,_,_=>True
theorem HkM.mono {H H':Nat->List (Nat×Nat×Nat)->Value->Prop} (hH:∀id p v,H id p v->H' id p v):∀{ms:List Md} {xs:List TV} {vs:List Value},HkM H ms xs vs->HkM H' ms xs vs
 | [],xs,vs,h=>by cases xs<;>cases vs<;>simp only [HkM]
 |m::ms,[],vs,h=>by cases m<;>cases vs<;>simp only [HkM]
 |m::ms,x::xs,[],h=>by cases m<;>simp only [HkM]
 | .ro _::ms,x::xs,v::vs,h=>by simp only [HkM] at h⊢;exact HkM.mono hH h
 | .mut _::ms,x::xs,v::vs,h=>by simp only [HkM] at h⊢;exact ⟨λid ver p e=>hH _ _ _ (h.1 id ver p e),HkM.mono hH h.2⟩
structure Carved (U:Nat->Prop) (V:Nat) (F F':Nat->vaj) (sh sh':va2) (st st':St):Prop where
 shape:ShapeKept U sh sh'
 keep:∀j ver e l,sh' j=some (ver,e,l)->ver≠V->sh j=sh' j/\F' j=F j
 dead:∀j e l,sh j=some (V,e,l)->sh' j=some (V,e,l)
 same:∀j q e es,st.node j=some (.sl q V e es)->st'.node j=st.node j/\F' j=F j
 slots:st'.slots=st.slots
theorem Carved.refl (U:Nat->Prop) (V:Nat) (F:Nat->vaj) (sh:va2) (st:St):Carved U V F F sh sh st st:=⟨.refl _ _,λ_ _ _ _ _ _=>⟨rfl,rfl⟩,λ_ _ _ h=>h,λ_ _ _ _ _=>⟨rfl,rfl⟩,rfl⟩
theorem Carved.trans {F1 F2:Nat->vaj} {sh1 sh2:va2} {st1 st2:St} (h:Carved U V F F1 sh sh1 st st1) (h':Carved U V F1 F2 sh1 sh2 st1 st2):Carved U V F F2 sh sh2 st st2:=by
 refine ⟨h.shape.trans h'.shape,λj ver e l k1 k2=> ?_,λj e l k=>h'.dead j e l (h.dead j e l k),λj q e es k=> ?_,h'.slots.trans h.slots⟩
 ·obtain ⟨m1,m2⟩:=h'.keep j ver e l k1 k2;obtain ⟨m3,m4⟩:=h.keep j ver e l (m1.trans k1) k2;exact ⟨m3.trans m1,m2.trans m4⟩
 ·obtain ⟨k1,k2⟩:=h.same j q e es k;obtain ⟨k3,k4⟩:=h'.same j q e es (k1.trans k);exact ⟨k3.trans k1,k4.trans k2⟩
theorem Carved.tr {F':Nat->vaj} {sh':va2} {st':St} (h:Carved U V F F' sh sh' st st') (hV:V≠0/\¬U (V-1)) {P:Program} {Z:Zn} {c:TV} {v:Value} (hc:TR P w Z ρ F sh c v) (hi:idsIn U c):TR P w Z ρ F' sh' c v:=
 hc.mono hi (λ_ _ _ cur _ _ hb=>⟨cur,hb,rfl,rfl⟩) (λ_ _=>rfl) h.shape λid _ ver e l hs hv=>by
  rw [(h.keep id ver e l hs λe=>by subst e;exact hv.elim hV.1 hV.2).2];exact λ_ _ h=>h
theorem Carved.trl {F':Nat->vaj} {sh':va2} {st':St} (h:Carved U V F F' sh sh' st st') (hV:V≠0/\¬U (V-1)) {P:Program} {Z:Zn} {cs:List TV} {vs:List Value} (hc:TRL P w Z ρ F sh cs vs) (hi:vap U cs):TRL P w Z ρ F' sh' cs vs:=
 .of hc.length λi c u h1 h2=>h.tr hV (hc.get i c u h1 h2) (vbm hi h1)
theorem Carved.hl {F':Nat->vaj} {sh':va2} {st':St} (h:Carved U V F F' sh sh' st st') {P:Program} {id:Nat} {p:List (Nat×Nat×Nat)} {v:Value} (hh:Hl P w ρ F st V id p v):Hl P w ρ F' st' V id p v:=by
 obtain ⟨⟨q,e,es,k⟩,hn⟩:=hh;obtain ⟨k1,k2⟩:=h.same id q e es k;exact ⟨⟨q,e,es,k1.trans k⟩,by rw [k2];exact hn⟩
theorem Carved.rl {F':Nat->vaj} {sh':va2} {st':St} (h:Carved U V F F' sh sh' st st'):∀id e l,Rl U ρ sh V id e l->Rl U ρ sh' V id e l:=λid e l hr=>⟨hr.1,h.dead id e l hr.2.1,hr.2.2⟩
theorem qnr {keeps:Bool} {st:St} {sh:va2} {x:TV} {v:Value} {y y':CV} {F1:vaj} {st':St} (h:GS cx U X ρ F st sh V a w) (hx:TR cx.P w cx.Z ρ F sh x v) (hi:idsIn U x) (hy:CR cx.P w cx.Z y v F1) (hF1:∀b o,F1 b o->X b o) (hr:(lend1 keeps V x y).run st=some (y',st')):
  ∃X' G1 F' sh',GS cx U X' ρ F' st' sh' V a w/\CR cx.P w cx.Z y' v G1/\(∀b o,G1 b o->X' b o)/\(∀b o,X b o->X' b o)/\(∀b o,G1 b o->F1 b o\/¬X b o)/\Carved U V F F' sh sh' st st'/\
   (∀id ver p,x= .ri id ver p->Hl cx.P w ρ F' st' V id p v)/\∀R,Pk R x y->Pk R x y':=by
 have triv:(∀id ver p,x≠ .ri id ver p)->(M.pure y).run st=some (y',st')->∃X' G1 F' sh',GS cx U X' ρ F' st' sh' V a w/\CR cx.P w cx.Z y' v G1/\(∀b o,G1 b o->X' b o)/\(∀b o,X b o->X' b o)/\(∀b o,G1 b o->F1 b o\/¬X b o)/\Carved U V F F' sh sh' st st'/\
   (∀id ver p,x= .ri id ver p->Hl cx.P w ρ F' st' V id p v)/\∀R,Pk R x y->Pk R x y':=by
  intro hne hr;cases run_pure hr;exact ⟨X,F1,F,sh,h,hy,hF1,λ_ _ h=>h,λ_ _ h=> .inl h,.refl _ _ _ _ _,λid ver p e=>absurd e (hne id ver p),λ_ h=>h⟩
 cases x with
 |ri id ver p=>
  simp only [lend1] at hr;obtain ⟨nd,s1,h1,h2⟩:=vaa hr;cases vbn h1;split at h2
  ·rename_i q ver' e es hn;split at h2
   ·exact (vac h2).elim
   ·rename_i hcond;have hver:ver'=ver:=by
     by_cases e:ver'=ver
     ·exact e
     ·exact absurd (.inr e) hcond
    subst hver;split at h2
    ·rename_i r es1 hg hp;obtain ⟨_,s2,h3,h4⟩:=vaa h2;cases vby h3;cases run_pure h4;have hN:=h.nodes id _ hn;have hsh:sh id=some (ver',e,es.length):=by rw [h.agree id _ hn];unfold vah;rw [hn]
     have hsome:(st.node id).isSome=true:=by rw [hn];rfl
     have hkn:ver'≠V:=by
      rintro rfl
      exact hi.2.elim h.fresh.1 h.fresh.2
     cases hN with
     |sl _ _ _ _ hd=>
      cases hx with
      |ri _ _ _ _ _ hnav=>
       obtain ⟨G0,G1,k1,k2,k3,k4,k5,k6⟩:=hd.carve p hg hp (hnav e _ hsh);have hsub0:∀b o,G0 b o->F id b o:=λb o hg=>(k3 b o).2 (.inl hg);have hsub1:∀b o,G1 b o->F id b o:=λb o hg=>(k3 b o).2 (.inr hg);have hsh':dropSh sh V id id=some (V,e,es.length):=by unfold dropSh;rw [if_pos rfl,hsh];rfl
       have hch:=h.change (U':=U) (id:=id) (o:=some (.sl q V e es1)) (v':=ρ id) (Fn:=G0) (X':=λb o=>X b o\/G1 b o) (sh':=dropSh sh V id) (λ_ h=>h) h.fresh.2 (λ_=>rfl) (h.one id) (vlb h.fresh id)
        (λ_ ver1 e1 l1 hs1 hv1=>by
         rw [hsh'] at hs1;cases hs1
         exact (hv1.elim h.fresh.1 h.fresh.2).elim)
        (λn hn'=>by
         cases hn';refine ⟨?_,(h.used id _ hn).1,.inr (.inr rfl)⟩;refine .sl q V e es1 ?_
         rw [va5,va5];exact k1)
        (λ_=>⟨λb o hg=>h.mine id hsome b o (hsub0 b o hg),λi hi' his b o hf hg=>h.apart i id hi' his hsome b o hf (hsub0 b o hg),λb o hg hx=>hx.elim (λhx=>h.apartX id hsome b o (hsub0 b o hg) hx) λhx=>k4 b o hg hx⟩)
        (λb o hx=>hx.elim (h.mineX b o) λhx=>⟨(h.mine id hsome b o (hsub1 b o hx)).1,(h.mine id hsome b o (hsub1 b o hx)).2,h.inside hsome b o (hsub1 b o hx)⟩)
        (λi hi' his b o hf hx=>hx.elim (λhx=>h.apartX i his b o hf hx) λhx=>h.apart i id hi' his hsome b o hf (hsub1 b o hx))
        (λn hn'=>by cases hn';rw [hsh'];unfold vah;rw [St.setNode_node,if_pos rfl];simp only [k6])
        (λj hj=>by unfold dropSh;rw [if_neg hj]) (λhh=>by cases hh)
       rw [vd6] at hch;refine ⟨_,G1,_,_,hch,by simp only [CR];exact k2,λb o hg=> .inr hg,λb o hx=> .inl hx,λb o hg=> .inr λhx=>h.apartX id hsome b o (hsub1 b o hg) hx,?_,?_,λR _=>by simp only [Pk]⟩
       ·refine ⟨vlb h.fresh id,λj ver1 e1 l1 hs hv=> ?_,λj e1 l1 hs=> ?_,λj q1 e1 es2 hs=> ?_,rfl⟩
        ·by_cases ej:j=id
         ·subst ej;rw [hsh'] at hs;cases hs;exact absurd rfl hv
         ·exact ⟨by unfold dropSh;rw [if_neg ej],vce _ _ ej⟩
        ·by_cases ej:j=id
         ·subst ej;rw [hsh] at hs;cases hs;exact absurd rfl hkn
         ·unfold dropSh;rw [if_neg ej];exact hs
        ·by_cases ej:j=id
         ·subst ej;rw [hn] at hs;cases hs;exact absurd rfl hkn
         ·exact ⟨by rw [vgd,if_neg (λe=>ej e.symm)],vce _ _ ej⟩
       ·rintro id' ver1 p' e1
        cases e1;exact ⟨⟨q,e,es1,by rw [vgd,if_pos rfl]⟩,by rw [va5];exact k5⟩
    ·exact (vac h2).elim
  ·exact (vac h2).elim
 |_=>simp only [lend1] at hr;exact triv (by intro id ver p e;cases e) hr
theorem qcq {keeps:Bool}:∀(ms:List Md) {X:vaj} {F:Nat->vaj} {st:St} {sh:va2} {xs:List TV} {vs:List Value} {ys ys':List CV} {Fc:vaj} {st':St},GS cx U X ρ F st sh V a w->TRL cx.P w cx.Z ρ F sh xs vs->vap U xs->CRL cx.P w cx.Z ys vs Fc->(∀b o,Fc b o->X b o)->
  PkM (Rl U ρ sh V) ms xs ys->(vbs keeps V ms xs ys).run st=some (ys',st')->
  ∃X' Fc' F' sh',GS cx U X' ρ F' st' sh' V a w/\CRL cx.P w cx.Z ys' vs Fc'/\(∀b o,Fc' b o->X' b o)/\(∀b o,X b o->X' b o)/\(∀b o,Fc' b o->Fc b o\/¬X b o)/\Carved U V F F' sh sh' st st'/\HkM (Hl cx.P w ρ F' st' V) ms xs vs/\PkM (Rl U ρ sh' V) ms xs ys'
 | [],X,F,st,sh,xs,vs,ys,ys',Fc,st',h,hx,hi,hy,hF,hp,hr=>by
  cases hx with
  |nil=>
   cases ys with
   |nil=>simp only [vbs] at hr;cases run_pure hr;exact ⟨X,Fc,F,sh,h,hy,hF,λ_ _ h=>h,λ_ _ h=> .inl h,.refl _ _ _ _ _,by simp only [HkM],by simp only [PkM]⟩
   |cons=>simp only [vbs] at hr;exact (vac hr).elim
  |cons=>simp only [vbs] at hr;exact (vac hr).elim
 |m::ms,X,F,st,sh,xs,vs,ys,ys',Fc,st',h,hx,hi,hy,hF,hp,hr=>by
  cases hx with
  |nil=>cases m<;>simp only [vbs] at hr<;>exact (vac hr).elim
  | @cons c v cs vs h1 hs=>
   cases ys with
   |nil=>cases m<;>simp only [vbs] at hr<;>exact (vac hr).elim
   |cons y ys=>
    simp only [CRL] at hy;obtain ⟨v0,vs0,G1,G2,e0,j1,j2,j3,j4⟩:=hy;cases e0
    have key:∃y1 s1 ys1,(∃X' G1' F' sh',GS cx U X' ρ F' s1 sh' V a w/\CR cx.P w cx.Z y1 v G1'/\(∀b o,G1' b o->X' b o)/\(∀b o,X b o->X' b o)/\(∀b o,G1' b o->G1 b o\/¬X b o)/\Carved U V F F' sh sh' st s1/\
      (∀n,m= .mut n->∀id ver p,c= .ri id ver p->Hl cx.P w ρ F' s1 V id p v)/\(∀n,m= .mut n->Pk (Rl U ρ sh V) c y->Pk (Rl U ρ sh V) c y1))/\(vbs keeps V ms cs ys).run s1=some (ys1,st')/\ys'=y1::ys1:=by
     cases m with
     |ro n=>
      simp only [vbs] at hr;obtain ⟨ys1,s2,h3,h4⟩:=vaa hr;cases run_pure h4;exact ⟨y,st,ys1,⟨X,G1,F,sh,h,j1,λb o hg=>hF b o ((j4 b o).2 (.inl hg)),λ_ _ h=>h,λ_ _ h=> .inl h,.refl _ _ _ _ _,λn hm=>(by cases hm),λn hm=>(by cases hm)⟩,h3,rfl⟩
     |«mut» n=>
      simp only [vbs] at hr;obtain ⟨y1,s1,k1,k2⟩:=vaa hr;obtain ⟨ys1,s2,h3,h4⟩:=vaa k2;cases run_pure h4;obtain ⟨X',G1',F',sh',l1,l2,l3,l4,l5,l6,l7,l8⟩:=qnr h h1 hi.1 j1 (λb o hg=>hF b o ((j4 b o).2 (.inl hg))) k1;exact ⟨y1,s1,ys1,⟨X',G1',F',sh',l1,l2,l3,l4,l5,l6,λ_ _=>l7,λ_ _ hp=>l8 _ hp⟩,h3,rfl⟩
    obtain ⟨y1,s1,ys1,⟨X1,G1',F1,sh1,l1,l2,l3,l4,l5,l6,l7,l8⟩,hrest,rfl⟩:=key;have hp2:PkM (Rl U ρ sh1 V) ms cs ys:=by
     cases m<;>simp only [PkM] at hp
     ·exact PkM.mono l6.rl hp
     ·exact PkM.mono l6.rl hp.2
    obtain ⟨X2,G2',F2,sh2,m1,m2,m3,m4,m5,m6,m7,m8⟩:=qcq ms l1 (l6.trl h.fresh hs hi.2) hi.2 j2 (λb o hg=>l4 b o (hF b o ((j4 b o).2 (.inr hg)))) hp2 hrest;refine ⟨X2,λb o=>G1' b o\/G2' b o,F2,sh2,m1,?_,?_,λb o hx=>m4 b o (l4 b o hx),?_,l6.trans m6,?_,?_⟩
    ·simp only [CRL];refine ⟨v,vs,G1',G2',rfl,l2,m2,λb o h1 h2=> ?_,λ_ _=>Iff.rfl⟩;rcases m5 b o h2 with h2|h2
     ·rcases l5 b o h1 with h1|h1
      ·exact j3 b o h1 h2
      ·exact h1 (hF b o ((j4 b o).2 (.inr h2)))
     ·exact h2 (l3 b o h1)
    ·rintro b o (h1|h1)
     ·exact m4 b o (l3 b o h1)
     ·exact m3 b o h1
    ·rintro b o (h1|h1)
     ·exact (l5 b o h1).imp (λh=>(j4 b o).2 (.inl h)) λh=>h
     ·exact (m5 b o h1).imp (λh=>(j4 b o).2 (.inr h)) λh hx=>h (l4 b o hx)
    ·cases m with
     |ro n=>simp only [HkM];exact m7
     |«mut» n=>simp only [HkM];exact ⟨λid ver p e=>m6.hl (l7 n rfl id ver p e),m7⟩
    ·cases m with
     |ro n=>simp only [PkM];exact m8
     |«mut» n=>
      simp only [PkM] at hp⊢;exact ⟨Pk.mono m6.rl (Pk.mono l6.rl (l8 n rfl hp.1)),m8⟩
theorem Old2.hd {U U':Nat->Prop} {ρ ρ':Nat->Value} {F F':Nat->vaj} {sh sh':va2} {st st':St} (h:Old2 U V ρ ρ' F F' sh sh' st st') (hu:∀i,U i->U' i) {P:Program}:∀id p v,Hd P w U ρ F st id p v->Hd P w U' ρ' F' st' id p v:=by
 rintro id p v ⟨h1,h2,h3⟩
 obtain ⟨k1,k2⟩:=h.live id h1 h2;rw [<-h.rho id h1] at h3;exact ⟨hu id h1,k1,NavKept.of (.refl _) (λb o hf=>⟨k2 b o hf,λ_ hy _=>hy⟩) _ _ h3⟩
theorem qbm {q:Bool} {x:TV} {c f:CV} {b:Nat} {st:St} {b':Nat} {st':St} (h:(back1 q V b x c f).run st=some (b',st')):b<=b':=by
 unfold back1 at h;split at h
 ·split at h
  ·obtain ⟨nd,s1,h1,h2⟩:=vaa h;split at h2
   ·split at h2
    ·obtain ⟨_,s2,h3,h4⟩:=vaa h2;cases run_pure h4;exact Aa _
    ·exact (vac h2).elim
   ·exact (vac h2).elim
  ·exact (vac h).elim
 ·exact vog h
theorem qm5 {q:Bool} {x:TV} {c0 y:CV} {U:Nat->Prop} {X:vaj} {ρ:Nat->Value} {F:Nat->vaj} {st:St} {sh:va2} {b b':Nat} {v:Value} {Fc:vaj} {st':St} (h:GS cx U X ρ F st sh V a w) (hb:∀i,b<=i->i<V->¬U i)
  (hx:TR cx.P w cx.Z ρ F sh x v) (hi:idsIn U x) (hp:Pk (Rd U ρ sh V st) x c0) (hh:∀id ver p,x= .ri id ver p->Hd cx.P w U ρ F st id p v) (hy:CR cx.P w cx.Z y v Fc) (hF:∀b o,Fc b o->X b o) (hr:(back1 q V b x c0 y).run st=some (b',st')) (hle:b'<=V-1):
  ∃ρ' F' sh',GS cx (To U b b') (λb o=>X b o/\¬Fc b o) ρ' F' st' sh' V a w/\Old2 U V ρ ρ' F F' sh sh' st st':=by
 unfold back1 at hr;split at hr
 ·rename_i id ver p;split at hr
  ·rename_i e' es';obtain ⟨nd,s1,h1,h2⟩:=vaa hr;cases vbn h1;split at h2
   ·rename_i q0 ver' e es hn;split at h2
    ·rename_i es1 hat hput;obtain ⟨_,s2,h3,h4⟩:=vaa h2;cases vby h3;cases run_pure h4;obtain ⟨_,_,hnav⟩:=hh id ver p rfl;have hN:=h.nodes id _ hn;have hsome:(st.node id).isSome=true:=by rw [hn];rfl
     have hsh:sh id=some (ver',e,es.length):=by rw [h.agree id _ hn];unfold vah;rw [hn]
     simp only [CR,Ah,if_false] at hy;cases hN with
     |sl _ _ _ _ hd=>
      obtain ⟨k1,k2⟩:=DC.fill (c:= .sl e' es') rfl hy p hd hat hput hnav λb o hf hc=>h.apartX id hsome b o hf (hF b o hc);have hch:=h.change (U':=U) (id:=id) (o:=some (.sl (q0||q) ver' e es1)) (v':=ρ id) (Fn:=λb o=>F id b o\/Fc b o) (X':=λb o=>X b o/\¬Fc b o) (sh':=sh) (λ_ h=>h) h.fresh.2 (λ_=>rfl) (h.one id) (.refl _ _)
       (λ_ _ _ _ _ _=> .of (.refl _) λb o hf=>⟨.inl hf,λ_ hy _=>hy⟩)
       (λn hn'=>by
        cases hn';have hu:=(h.used id _ hn)
        refine ⟨?_,hu.1,hu.2⟩;refine .sl _ ver' e es1 ?_
        rw [va5,va5];exact k1)
       (λ_=>⟨λb o hg=>hg.elim (h.mine id hsome b o) λhc=>⟨(h.mineX b o (hF b o hc)).1,(h.mineX b o (hF b o hc)).2.1⟩,
        λi hi' his b o hf hg=>hg.elim (λhg=>h.apart i id hi' his hsome b o hf hg) λhc=>h.apartX i his b o hf (hF b o hc),λb o hg hx=>hg.elim (λhg=>h.apartX id hsome b o hg hx.1) λhc=>hx.2 hc⟩)
       (λb o hx=>h.mineX b o hx.1) (λi _ his b o hf hx=>h.apartX i his b o hf hx.1)
       (λn hn'=>by cases hn';rw [hsh];unfold vah;rw [St.setNode_node,if_pos rfl];simp only [k2]) (λ_ _=>rfl) (λhh=>by cases hh)
      rw [vd6] at hch;refine ⟨ρ,_,sh,hch.more (λ_ hi=> .inl hi) (vbz h.fresh.2 hle),λ_ _=>rfl,λ_ _=> .inl rfl,λi _ _ _ _ _ _ b o hf=> ?_,λi _ hs=>⟨?_,λb o hf=> ?_⟩,λi _ hn'=>⟨?_,rfl⟩,rfl⟩
      ·by_cases ei:i=id
       ·subst ei;rw [va5];exact .inl hf
       ·rw [vce _ _ ei];exact hf
      ·rw [vgd];split
       ·rfl
       ·exact hs
      ·by_cases ei:i=id
       ·subst ei;rw [va5];exact .inl hf
       ·rw [vce _ _ ei];exact hf
      ·rw [vgd] at hn';split at hn'
       ·cases hn'
       ·exact hn'
    ·exact (vac h2).elim
   ·exact (vac h2).elim
  ·exact (vac hr).elim
 ·exact vs1 h hb hx hi hp hy hF hr hle
theorem vv1 {p:PV->Bool} {q:List PV->Bool} (hq:∀c cs,q (c::cs)=true->p c=true/\q cs=true) (hs:∀cs,p (.st cs)=true->q cs=true) {es:List PV} (h:q es=true):∀(k:Nat) c,(flat es)[k]? =some c->p c=true:=by
 have mem:∀(l:List PV),q l=true->∀y∈l,p y=true:=by
  intro l;induction l with
  |nil=>intro _ y hy;cases hy
  |cons x l ih=>
   intro hl y hy;rcases Af.1 hy with rfl|hy
   ·exact (hq _ _ hl).1
   ·exact ih (hq _ _ hl).2 y hy
 intro k c hk;obtain ⟨y,hy,hcy⟩:=List.mem_flatMap.1 (Ao hk);have h1:=mem es h y hy;cases y with
 |st cs=>exact mem cs (hs _ h1) c hcy
 |_=>simp only [PV.cells,List.mem_singleton] at hcy;subst hcy;exact h1
theorem qcu {t:Nat} {es:List PV} (h:tyNL t es=true):∀(k:Nat) c,(flat es)[k]? =some c->tyN t c=true:=
 vv1 (q:=tyNL t) (λ_ _ h=>by simpa only [tyNL,Ab] using h) (λ_ h=>by simpa only [tyN] using h) h
theorem qlb {es:List PV} (h:atmL es=true):∀(k:Nat) c,(flat es)[k]? =some c->atm c=true:=
 vv1 (q:=atmL) (λ_ _ h=>by simpa only [atmL,Ab] using h) (λ_ h=>by simpa only [atm] using h) h
theorem RC.tyN {P:Program} {Z:Zn} {t:Nat} {c:PV} {v:Value} (h:RC P w Z c v):VM.tyN t c=true->RC P w (λe b o=>e≠t/\Z e b o) c v:=by
 induction h with
 |a v h=>exact λ_=> .a v h
 |un v h=>exact λ_=> .un v h
 |sl e es x len cap m vs hl hm hw hx hn hc hr ih=>
  intro ht;simp only [VM.tyN,Ab,bne_iff_ne,ne_eq] at ht;exact .sl e es x len cap m vs hl hm hw hx hn (λk c hk y hy=>⟨(hc k c hk y hy).1,ht.1,(hc k c hk y hy).2⟩) λk c hk=>ih k c hk (qcu ht.2 k c hk)
 |fz e es x len cap m vs hl hm hw hx hn hc hr ih=>
  intro ht;simp only [VM.tyN,Ab,bne_iff_ne,ne_eq] at ht;exact .fz e es x len cap m vs hl hm hw hx hn (λk c hk y hy=>⟨(hc k c hk y hy).1,ht.1,(hc k c hk y hy).2⟩) λk c hk=>ih k c hk (qcu ht.2 k c hk)
theorem RC.only {P:Program} {Z Z':Zn} {e:Nat} {es:List PV} {v:Value} (h:RC P w Z (.sl e es) v) (ha:atmL es=true) (hz:∀b o,Z e b o->Z' e b o):RC P w Z' (.sl e es) v:=by
 cases h with
 |sl _ _ x len cap m vs hl hm hw hx hn hc hr=>
  refine .sl e es x len cap m vs hl hm hw hx hn (λk c hk y hy=>⟨(hc k c hk y hy).1,hz _ _ (hc k c hk y hy).2⟩) λk c hk=> ?_;have h1:=hr k c hk;have h2:=qlb ha k c hk;generalize vs k=u at h1⊢;cases h1 with
  |a _ h=>exact .a _ h
  |un _ h=>exact .un _ h
  |_=>simp only [atm] at h2;cases h2
theorem qnt {es:List PV} (h:nfzL es=true):∀(k:Nat) c,(flat es)[k]? =some c->nfz c=true:=
 vv1 (q:=nfzL) (λ_ _ h=>by simpa only [nfzL,Ab] using h) (λ_ h=>by simpa only [nfz] using h) h
theorem DC.anyZ {P:Program} {Z Z':Zn} {c:PV} {v:Value} {Fd:vaj} (h:DC P w Z c v Fd):nfz c=true->DC P w Z' c v Fd:=by
 induction h with
 |a v F h hF=>exact λ_=> .a v F h hF
 |un v F h hF=>exact λ_=> .un v F h hF
 |fz e es v F h hF=>intro hh;simp only [nfz] at hh;cases hh
 |nil e m F hm hF=>exact λ_=> .nil e m F hm hF
 |sl e es g off len cap m fr cur vs Fk F hl hm hw hg hfr hlc hcm hsz hc hr hF hd hd0 ih=>
  intro hh;simp only [nfz] at hh;exact .sl e es g off len cap m fr cur vs Fk F hl hm hw hg hfr hlc hcm hsz hc (λk c hk=>ih k c hk (qnt hh k c hk)) hF hd hd0
mutual
theorem CR.only {P:Program} {Z Z':Zn} {t:Nat} (hz:∀b o,Z t b o->Z' t b o):∀{c:CV} {v:Value} {Fd:vaj},CR P w Z c v Fd->onlyC t c=true->CR P w Z' c v Fd
 | .a u,v,F,h,ho=>by simp only [CR] at h⊢;exact h
 | .un,v,F,h,ho=>by simp only [CR] at h⊢;exact h
 | .sl z e es,v,F,h,ho=>by
  cases z with
  |true=>
   simp only [onlyC,if_true,Ab,beq_iff_eq] at ho;simp only [CR,if_true] at h⊢;obtain ⟨rfl,ho⟩:=ho;exact ⟨h.1.only ho hz,h.2⟩
  |false=>
   simp only [onlyC,Ah,if_false] at ho;simp only [CR,Ah,if_false] at h⊢;exact h.anyZ (by simpa only [nfz] using ho)
 | .bx z cs,v,F,h,ho=>by
  simp only [onlyC,Ab,At] at ho;obtain ⟨rfl,ho⟩:=ho;simp only [CR] at h⊢;obtain ⟨b,off,cur,t',Fc,h1,h2,h3,h4,h5,h6,h7,h8⟩:=h;exact ⟨b,off,cur,t',Fc,h1,h2,h3,h4,CRL.only hz h5 ho,λe=>(by cases e),h7,h8⟩
 | .st cs,v,F,h,ho=>by
  simp only [onlyC] at ho;simp only [CR] at h⊢;obtain ⟨us,h1,h2⟩:=h;exact ⟨us,h1,CRL.only hz h2 ho⟩
 | .tp _,_,_,_,ho=>by simp only [onlyC] at ho;cases ho
 | .fn _ _ _,_,_,_,ho=>by simp only [onlyC] at ho;cases ho
 | .ic _ _,_,_,_,ho=>by simp only [onlyC] at ho;cases ho
theorem CRL.only {P:Program} {Z Z':Zn} {t:Nat} (hz:∀b o,Z t b o->Z' t b o):∀{cs:List CV} {vs:List Value} {Fd:vaj},CRL P w Z cs vs Fd->onlyCL t cs=true->CRL P w Z' cs vs Fd
 | [],vs,F,h,ho=>by simp only [CRL] at h⊢;exact h
 |c::cs,vs,F,h,ho=>by
  simp only [onlyCL,Ab] at ho;simp only [CRL] at h⊢;obtain ⟨v,vs',F1,F2,e,h1,h2,h3,h4⟩:=h;exact ⟨v,vs',F1,F2,e,CR.only hz h1 ho.1,CRL.only hz h2 ho.2,h3,h4⟩
end
mutual
theorem CR.shown {P:Program} {Z Z':Zn} {t:Nat} (hz:∀e b o,e≠t->Z e b o->Z' e b o):∀{c:CV} {v:Value} {Fd:vaj},CR P w Z c v Fd->okShow t c=true->CR P w Z' c v Fd
 | .a u,v,F,h,ho=>by simp only [CR] at h⊢;exact h
 | .un,v,F,h,ho=>by simp only [okShow] at ho;cases ho
 | .sl z e es,v,F,h,ho=>by
  simp only [okShow,Ab] at ho;obtain ⟨rfl,ho⟩:=ho;simp only [CR,if_true] at h⊢;exact ⟨(h.1.tyN (t:=t) (by simp only [VM.tyN,Ab];exact ho)).mono (λ_ _ _ cur _ _ hb=>⟨cur,hb,rfl,rfl⟩) λe b o hh=>hz e b o hh.1 hh.2,h.2⟩
 | .st cs,v,F,h,ho=>by
  simp only [okShow] at ho;simp only [CR] at h⊢;obtain ⟨us,h1,h2⟩:=h;exact ⟨us,h1,CRL.shown hz h2 ho⟩
 | .bx _ _,_,_,_,ho=>by simp only [okShow] at ho;cases ho
 | .tp _,_,_,_,ho=>by simp only [okShow] at ho;cases ho
 | .fn _ _ _,_,_,_,ho=>by simp only [okShow] at ho;cases ho
 | .ic _ _,_,_,_,ho=>by simp only [okShow] at ho;cases ho
theorem CRL.shown {P:Program} {Z Z':Zn} {t:Nat} (hz:∀e b o,e≠t->Z e b o->Z' e b o):∀{cs:List CV} {vs:List Value} {Fd:vaj},CRL P w Z cs vs Fd->okShowL t cs=true->CRL P w Z' cs vs Fd
 | [],vs,F,h,ho=>by simp only [CRL] at h⊢;exact h
 |c::cs,vs,F,h,ho=>by
  simp only [okShowL,Ab] at ho;simp only [CRL] at h⊢;obtain ⟨v,vs',F1,F2,e,h1,h2,h3,h4⟩:=h;exact ⟨v,vs',F1,F2,e,CR.shown hz h1 ho.1,CRL.shown hz h2 ho.2,h3,h4⟩
end
def ZM (z:Bool) (o:Option Nat) (cx:Cx) (F:Nat->vaj) (st:St):Zn:=λe b k=>cx.Z e b k\/((z=false\/∃t,o=some t/\e≠t)/\∃i,(st.node i).isSome=true/\F i b k)
theorem qwl {z:Bool} {o:Option Nat}:∀e b k,ZR z cx F st e b k->ZM z o cx F st e b k:=λ_ _ _ h=>h.imp (λh=>h) λh=>⟨.inl h.1,h.2⟩
theorem qrh (h:G cx U X ρ F st a w) {z:Bool} {o:Option Nat} {n:Nat} (ho:1000<=n->o=some (n-1000)) {c:TV} {v:Value} {y:CV} {st':St} (hc:TR cx.P w cx.Z ρ F (vah st) c v) (hi:idsIn U c) (hr:(frz1 z n c).run st=some (y,st')):
  st'=st/\CR cx.P w (ZM z o cx F st) y v Nil:=by
 unfold frz1 at hr;split at hr
 ·rename_i hn;obtain ⟨y1,s1,h1,h2⟩:=vaa hr;split at h2
  ·rename_i hk;cases run_pure h2;obtain ⟨e1,m1⟩:=vqq h depth hc hi h1;exact ⟨e1,CR.shown (λe b k he hz=>hz.imp (λh=>h) λhh=>⟨.inr ⟨_,ho hn,he⟩,hh.2⟩) m1 hk⟩
  ·exact (vac h2).elim
 ·obtain ⟨e1,m1⟩:=vqq h depth hc hi hr;exact ⟨e1,CR.mono (λ_ _ _ cur _ _ hb=>⟨cur,hb,rfl,rfl⟩) qwl m1 λ_ _ _ cur _ _ hb=>⟨cur,hb,rfl,rfl⟩⟩
theorem qw7 {z:Bool} {o:Option Nat} {c:CV} {v:Value} {Fc:vaj} (h:CR cx.P w cx.Z c v Fc):CR cx.P w (ZM z o cx F st) c v Fc:=
 CR.mono (λ_ _ _ cur _ _ hb=>⟨cur,hb,rfl,rfl⟩) (λ_ _ _ h=> .inl h) h λ_ _ _ cur _ _ hb=>⟨cur,hb,rfl,rfl⟩
theorem vxs {keeps:Bool} {o:Option Nat} (h:G cx U X ρ F st a w) {R:Nat->Nat->Nat->Prop}:∀(ms:List Md) (_:∀n,Md.ro n∈ms->1000<=n->o=some (n-1000)) {xs:List TV} {vs:List Value} {ys cs:List CV} {Fc:vaj} {st':St},TRL cx.P w cx.Z ρ F (vah st) xs vs->vap U xs->CRL cx.P w cx.Z ys vs Fc->PkM R ms xs ys->
  (show_ keeps ms xs ys).run st=some (cs,st')->st'=st/\(∃Fd,CRL cx.P w (ZM keeps o cx F st) cs vs Fd/\∀b o,Fd b o->Fc b o)/\PkM R ms xs cs
 | [],hm,xs,vs,ys,cs,Fc,st',hx,hi,hy,hp,hr=>by
  cases hx with
  |nil=>
   cases ys with
   |nil=>
    simp only [show_] at hr;cases run_pure hr;refine ⟨rfl,⟨Fc,?_,λ_ _ h=>h⟩,by simp only [PkM]⟩;simp only [CRL] at hy⊢;exact hy
   |cons=>simp only [show_] at hr;exact (vac hr).elim
  |cons=>simp only [show_] at hr;exact (vac hr).elim
 | .ro n::ms,hm,xs,vs,ys,cs,Fc,st',hx,hi,hy,hp,hr=>by
  cases hx with
  |nil=>simp only [show_] at hr;exact (vac hr).elim
  | @cons c v cs' vs h1 hs=>
   cases ys with
   |nil=>simp only [show_] at hr;exact (vac hr).elim
   |cons y ys=>
    simp only [show_] at hr;obtain ⟨y',s1,k1,k2⟩:=vaa hr;obtain ⟨ys',s2,k3,k4⟩:=vaa k2;cases run_pure k4;obtain ⟨e1,m1⟩:=qrh h (hm n (by simp)) h1 hi.1 k1;have e1':=e1.symm;subst e1';simp only [CRL] at hy⊢;obtain ⟨v0,vs0,F1,F2,e0,j1,j2,j3,j4⟩:=hy;cases e0;simp only [PkM] at hp⊢;obtain ⟨e2,⟨Fd,m2,m4⟩,m3⟩:=vxs h ms (λn hn=>hm n (by simp [hn])) hs hi.2 j2 hp k3;exact ⟨e2,⟨Fd,⟨v,vs,Nil,Fd,rfl,m1,m2,λ_ _ h=>h.elim,λ_ _=>⟨.inr,λh=>h.elim (λh=>h.elim) λh=>h⟩⟩,λb o hf=>(j4 b o).2 (.inr (m4 b o hf))⟩,m3⟩
 | .mut n::ms,hm,xs,vs,ys,cs,Fc,st',hx,hi,hy,hp,hr=>by
  cases hx with
  |nil=>simp only [show_] at hr;exact (vac hr).elim
  | @cons c v cs' vs h1 hs=>
   cases ys with
   |nil=>simp only [show_] at hr;exact (vac hr).elim
   |cons y ys=>
    simp only [show_] at hr;obtain ⟨ys',s2,k3,k4⟩:=vaa hr;cases run_pure k4;simp only [CRL] at hy⊢;obtain ⟨v0,vs0,F1,F2,e0,j1,j2,j3,j4⟩:=hy;cases e0;simp only [PkM] at hp⊢;obtain ⟨e2,⟨Fd,m2,m4⟩,m3⟩:=vxs h ms (λn hn=>hm n (by simp [hn])) hs hi.2 j2 hp.2 k3;exact ⟨e2,⟨λb o=>F1 b o\/Fd b o,⟨v,vs,F1,Fd,rfl,qw7 j1,m2,λb o h1 h2=>j3 b o h1 (m4 b o h2),λ_ _=>Iff.rfl⟩,λb o hf=>(j4 b o).2 (hf.imp (λh=>h) (m4 b o))⟩,hp.1,m3⟩
def muts:List Md->List Value->List Value
 | .ro _::ms,_::vs=>muts ms vs
 | .mut _::ms,v::vs=>v::muts ms vs
 |_,_=> []
theorem vm9 {q:Bool}:∀{ms:List Md} {xs:List TV} {cs fs:List CV} {b:Nat} {st:St} {b':Nat} {st':St},(van q V b ms xs cs fs).run st=some (b',st')->b<=b'
 | [],[],[],[],b,st,b',st',h=>by simp only [van] at h;cases run_pure h;exact Aa _
 | .ro _::ms,x::xs,c::cs,fs,b,st,b',st',h=>by simp only [van] at h;exact vm9 h
 | .mut _::ms,x::xs,c::cs,f::fs,b,st,b',st',h=>by
  simp only [van] at h;obtain ⟨b1,s1,h1,h2⟩:=vaa h;exact Aq (qbm h1) (vm9 h2)
 | [],_::_,_,_,b,st,b',st',h=>by simp only [van] at h;exact (vac h).elim
 | [],[],_::_,_,b,st,b',st',h=>by simp only [van] at h;exact (vac h).elim
 | [],[],[],_::_,b,st,b',st',h=>by simp only [van] at h;exact (vac h).elim
 | .ro _::_,[],_,_,b,st,b',st',h=>by simp only [van] at h;exact (vac h).elim
 | .ro _::_,_::_,[],_,b,st,b',st',h=>by simp only [van] at h;exact (vac h).elim
 | .mut _::_,[],_,_,b,st,b',st',h=>by simp only [van] at h;exact (vac h).elim
 | .mut _::_,_::_,[],_,b,st,b',st',h=>by simp only [van] at h;exact (vac h).elim
 | .mut _::_,_::_,_::_,[],b,st,b',st',h=>by simp only [van] at h;exact (vac h).elim
theorem vqu {q:Bool}:∀{ms:List Md} {xs:List TV} {cs fs:List CV} {U:Nat->Prop} {X:vaj} {ρ:Nat->Value} {F:Nat->vaj} {st:St} {sh:va2} {b b':Nat} {vs:List Value} {Fc:vaj} {st':St},GS cx U X ρ F st sh V a w->
  (∀i,b<=i->i<V->¬U i)->TRL cx.P w cx.Z ρ F sh xs vs->vap U xs->PkM (Rd U ρ sh V st) ms xs cs->HkM (Hd cx.P w U ρ F st) ms xs vs->CRL cx.P w cx.Z fs (muts ms vs) Fc->(∀b o,Fc b o->X b o)->(van q V b ms xs cs fs).run st=some (b',st')->b'<=V-1->
  ∃ρ' F' sh',GS cx (To U b b') (λb o=>X b o/\¬Fc b o) ρ' F' st' sh' V a w/\Old2 U V ρ ρ' F F' sh sh' st st'
 | [],[],[],[],U,X,ρ,F,st,sh,b,b',vs,Fc,st',h,hb,hx,hi,hp,hk,hy,hF,hr,hle=>by
  simp only [van] at hr;cases run_pure hr;exact ⟨ρ,F,sh,(h.less λ_ _ hx=>hx.1).more (λ_ hi=> .inl hi) (vbz h.fresh.2 hle),.refl _ _ _ _ _ _⟩
 | .ro _::ms,x::xs,c::cs,fs,U,X,ρ,F,st,sh,b,b',vs,Fc,st',h,hb,hx,hi,hp,hk,hy,hF,hr,hle=>by
  simp only [van] at hr;cases hx with
  |cons t1 t2=>
   simp only [muts] at hy;simp only [PkM] at hp;simp only [HkM] at hk;exact vqu h hb t2 hi.2 hp hk hy hF hr hle
 | .mut _::ms,x::xs,c::cs,f::fs,U,X,ρ,F,st,sh,b,b',vs,Fc,st',h,hb,hx,hi,hp,hk,hy,hF,hr,hle=>by
  simp only [van] at hr;obtain ⟨b1,s1,h1,h2⟩:=vaa hr;have le1:=qbm h1;have le2:=vm9 h2;cases hx with
  |cons t1 t2=>
   simp only [muts,CRL] at hy;simp only [PkM] at hp;simp only [HkM] at hk;obtain ⟨v,vs',G1,G2,e0,k2,k3,k4,k5⟩:=hy;cases e0;obtain ⟨ρ1,F1,sh1,g1,o1⟩:=qm5 h hb t1 hi.1 hp.1 hk.1 k2 (λb o hf=>hF b o ((k5 b o).2 (.inl hf))) h1 zo
   obtain ⟨ρ2,F2,sh2,g2,o2⟩:=vqu g1 (λi hi hi2=>by
    rintro (hu|hu)
    ·exact hb i zo hi2 hu
    ·omega) (o1.trl h.fresh t2 hi.2) (vap.mono (λi hi=> .inl hi) hi.2) (PkM.mono (o1.rd λi hi=> .inl hi) hp.2) (HkM.mono (o1.hd λi hi=> .inl hi) hk.2) k3 (λb o hf=>⟨hF b o ((k5 b o).2 (.inr hf)),λhg=>k4 b o hg hf⟩) h2 hle
   have hsub:∀i,To (To U b b1) b1 b' i->To U b b' i:=by
    rintro i ((hi|hi)|hi)
    ·exact .inl hi
    ·exact .inr ⟨hi.1,zo⟩
    ·exact .inr ⟨zo,hi.2⟩
   exact ⟨ρ2,F2,sh2,(g2.less λb o hx=>⟨⟨hx.1,λhg=>hx.2 ((k5 b o).2 (.inl hg))⟩,λhg=>hx.2 ((k5 b o).2 (.inr hg))⟩).more hsub (vbz h.fresh.2 hle),o1.trans o2 λi hi=> .inl hi⟩
 | [],_::_,_,_,U,X,ρ,F,st,sh,b,b',vs,Fc,st',h,hb,hx,hi,hp,hk,hy,hF,hr,hle=>by simp only [van] at hr;exact (vac hr).elim
 | [],[],_::_,_,U,X,ρ,F,st,sh,b,b',vs,Fc,st',h,hb,hx,hi,hp,hk,hy,hF,hr,hle=>by simp only [van] at hr;exact (vac hr).elim
 | [],[],[],_::_,U,X,ρ,F,st,sh,b,b',vs,Fc,st',h,hb,hx,hi,hp,hk,hy,hF,hr,hle=>by simp only [van] at hr;exact (vac hr).elim
 | .ro _::_,[],_,_,U,X,ρ,F,st,sh,b,b',vs,Fc,st',h,hb,hx,hi,hp,hk,hy,hF,hr,hle=>by simp only [van] at hr;exact (vac hr).elim
 | .ro _::_,_::_,[],_,U,X,ρ,F,st,sh,b,b',vs,Fc,st',h,hb,hx,hi,hp,hk,hy,hF,hr,hle=>by simp only [van] at hr;exact (vac hr).elim
 | .mut _::_,[],_,_,U,X,ρ,F,st,sh,b,b',vs,Fc,st',h,hb,hx,hi,hp,hk,hy,hF,hr,hle=>by simp only [van] at hr;exact (vac hr).elim
 | .mut _::_,_::_,[],_,U,X,ρ,F,st,sh,b,b',vs,Fc,st',h,hb,hx,hi,hp,hk,hy,hF,hr,hle=>by simp only [van] at hr;exact (vac hr).elim
 | .mut _::_,_::_,_::_,[],U,X,ρ,F,st,sh,b,b',vs,Fc,st',h,hb,hx,hi,hp,hk,hy,hF,hr,hle=>by simp only [van] at hr;exact (vac hr).elim
theorem CRL.split {P:Program} {Z:Zn}:∀{cs ds:List CV} {L:List Value} {Fc:vaj},CRL P w Z (cs++ds) L Fc->∃L1 L2 F1 F2,L=L1++L2/\L1.length=cs.length/\CRL P w Z cs L1 F1/\CRL P w Z ds L2 F2/\Apart F1 F2/\∀b o,Fc b o↔(F1 b o\/F2 b o)
 | [],ds,L,Fc,h=>⟨[],L,Nil,Fc,rfl,rfl,voi,h,λ_ _ h=>h.elim,λ_ _=>⟨.inr,λh=>h.elim (λh=>h.elim) λh=>h⟩⟩
 |c::cs,ds,L,Fc,h=>by
  simp only [Av,CRL] at h;obtain ⟨v,vs',G1,G2,rfl,k2,k3,k4,k5⟩:=h;obtain ⟨L1,L2,F1,F2,rfl,m1,m2,m3,m4,m5⟩:=CRL.split k3;refine ⟨v::L1,L2,λb o=>G1 b o\/F1 b o,F2,rfl,by simp [m1],?_,m3,?_,λb o=> ?_⟩
  ·simp only [CRL];exact ⟨v,L1,G1,F1,rfl,k2,m2,λb o h1 h2=>k4 b o h1 ((m5 b o).2 (.inl h2)),λ_ _=>Iff.rfl⟩
  ·rintro b o (h1|h1) h2
   ·exact k4 b o h1 ((m5 b o).2 (.inr h2))
   ·exact m4 b o h1 h2
  ·rw [k5 b o,m5 b o,or_assoc]
mutual
def nofz:PV->Prop
 | .a _=>True
 | .sl _ es=>vcp es
 | .fz _ _=>False
 | .st cs=>vcp cs
 | .un=>True
def vcp:List PV->Prop
 | []=>True
 |c::cs=>nofz c/\vcp cs
end
mutual
def vbl:CV->Prop
 | .a _=>True
 | .sl z _ es=>z=false->vcp es
 | .bx _ cs=>va1 cs
 | .st cs=>va1 cs
 | .tp cs=>va1 cs
 | .fn _ fs cs=>va1 fs/\va1 cs
 | .ic _ c=>vbl c
 | .un=>True
def va1:List CV->Prop
 | []=>True
 |c::cs=>vbl c/\va1 cs
end
def Qok (st:St):Prop:=∀id ver e es,st.node id=some (.sl false ver e es)->vcp es
def resV:List Value->Value
 | [v]=>v
 |vs=> .tuple vs.toArray
def Answers (P:Program) (f:FuncId) (args:Array Value) (w:World) (R:Value->World->Prop):Prop:=
 ∀(o:Oper) (a:Act) (K:Act->World->Prop) (Q:Exit->Act->World->Prop),(∀v w',R v w'->K (a.put o.dst v) w')->o.upon P a K Q ((callFunc f args).run P w)
theorem Answers.mono {P:Program} {f:FuncId} {args:Array Value} {R R':Value->World->Prop} (h:Answers P f args w R) (hr:∀v w',R v w'->R' v w'):Answers P f args w R':=
 λo a K Q hk=>h o a K Q λv w' r=>hk v w' (hr v w' r)
def outs (keeps:Bool) (Z:Zn):Zn:=λe b o=>keeps=true/\Z e b o
def AnsE (E:World->List Value->List Value->Prop) (P:Program) (f:FuncId) (c:Callee):Prop:=
 ∀(w:World) (Z:Zn) (cs:List CV) (args:List Value) (F:vaj) (rs fs:List CV),CRL P w Z cs args F->(∀b o,zU Z b o->b<w.heap.size/\¬F b o)->(∀b o,F b o->b<w.heap.size)->(c.keeps=false->va1 cs)->c.go cs=some (rs,fs)->
  Answers P f args.toArray w λv w'=>∃vs Fr,v=resV vs/\vs.length=rs.length/\Kept w w' F/\CRL P w' (outs c.keeps Z) (rs++fs) (vs++muts c.modes args) Fr/\
   (∀b o,Fr b o->(F b o\/w.heap.size<=b)/\b<w'.heap.size)/\E w' vs args
def AlsV (w:World) (vs args:List Value):Prop:=∃b off cur t u,vs= [.pointer (some ⟨b,off,none⟩)]/\w.heap[b]? =some (.cells cur t (0,0))/\cur[off]? =some u/\args.head? =some u
def OnlyOk (c:Callee):Prop:=∀t,onlyOf c.modes=some t->∀cs rs fs,c.go cs=some (rs,fs)->msOk t c.modes=true/\onlyCL t (rs++fs)=true
theorem OnlyOk.none {c:Callee} (h:onlyOf c.modes=Option.none):OnlyOk c:=λt ht=>by rw [h] at ht;cases ht
theorem vvy {t:Nat}:∀{ms:List Md},msOk t ms=true->∀n,Md.ro n∈ms->1000<=n->some t=some (n-1000)
 | [],_,_,h,_=>by cases h
 | .ro m::ms,h,n,hn,hb=>by
  simp only [msOk,Ab,Bool.or_eq_true,decide_eq_true_eq,beq_iff_eq] at h;rcases Af.1 hn with e|hn
  ·injection e with e
   rw [<-e] at h;have e1:n=t+1000:=h.1.resolve_left (Nat.not_lt.2 hb);rw [e1,Nat.add_sub_cancel]
  ·exact vvy h.2 n hn hb
 | .mut m::ms,h,n,hn,hb=>by
  simp only [msOk] at h;rcases Af.1 hn with e|hn
  ·cases e
  ·exact vvy h n hn hb
theorem vt3:∀{ms:List Md},onlyOf ms=none->∀n,Md.ro n∈ms->1000<=n->(Option.none:Option Nat)=some (n-1000)
 | [],_,_,h,_=>by cases h
 | .ro m::ms,h,n,hn,hb=>by
  simp only [onlyOf] at h;split at h
  ·cases h
  ·rcases Af.1 hn with e|hn
   ·injection e with e
    rename_i hm;exact absurd (e▸hb) hm
   ·exact vt3 h n hn hb
 | .mut m::ms,h,n,hn,hb=>by
  simp only [onlyOf] at h;rcases Af.1 hn with e|hn
  ·cases e
  ·exact vt3 h n hn hb
structure Sound (P:Program) (f:FuncId) (c:Callee):Prop where
 ans:∀(w:World) (Z:Zn) (cs:List CV) (args:List Value) (F:vaj) (rs fs:List CV),CRL P w Z cs args F->(∀b o,zU Z b o->b<w.heap.size/\¬F b o)->(∀b o,F b o->b<w.heap.size)->(c.keeps=false->va1 cs)->c.go cs=some (rs,fs)->
  Answers P f args.toArray w λv w'=>∃vs Fr,v=resV vs/\vs.length=rs.length/\Kept w w' F/\CRL P w' (outs c.keeps Z) (rs++fs) (vs++muts c.modes args) Fr/\
   ∀b o,Fr b o->(F b o\/w.heap.size<=b)/\b<w'.heap.size
 nofz:c.keeps=false->∀cs rs fs,va1 cs->c.go cs=some (rs,fs)->va1 (rs++fs)
 als:isAls c.modes=true->AnsE AlsV P f c
 only:OnlyOk c
theorem Sound.e {P:Program} {f:FuncId} {c:Callee} (h:Sound P f c):AnsE (λ_ _ _=>True) P f c:=λw Z cs args F rs fs h1 h2 h3 h4 h5=>
 (h.ans w Z cs args F rs fs h1 h2 h3 h4 h5).mono λ_ _ ⟨vs,Fr,k1,k2,k3,k4,k5⟩=>⟨vs,Fr,k1,k2,k3,k4,k5,trivial⟩
mutual
theorem qia {q:Bool}:∀{c:CV} {tv:TV},plain c=some tv->∀b,vay q b c= .pure (tv,b)
 | .a v,tv,h,b=>by simp only [plain,Aj] at h;subst h;simp only [vay]
 | .sl z e es,tv,h,b=>by
  simp only [plain] at h;split at h
  ·rename_i hz;cases h;simp only [vay,hz,if_true]
  ·cases h
 | .st cs,tv,h,b=>by
  simp only [plain] at h;obtain ⟨ts,hts,rfl⟩:=Option.map_eq_some_iff.1 h;simp only [vay,vsl hts b,M.bind]
 | .un,tv,h,b=>by simp only [plain,Aj] at h;subst h;simp only [vay]
 | .bx _ _,tv,h,b=>by simp [plain] at h
 | .tp _,tv,h,b=>by simp [plain] at h
 | .fn _ _ _,tv,h,b=>by simp [plain] at h
 | .ic _ _,tv,h,b=>by simp [plain] at h
theorem vsl {q:Bool}:∀{cs:List CV} {ts:List TV},plainL cs=some ts->∀b,vbg q b cs= .pure (ts,b)
 | [],ts,h,b=>by simp only [plainL,Aj] at h;subst h;simp only [vbg]
 |c::cs,ts,h,b=>by
  simp only [plainL] at h;split at h
  ·rename_i y ys h1 h2;cases h;simp only [vbg,qia h1 b,vsl h2 b,M.bind]
  ·cases h
end
theorem qgm {sc:Bool} {q:Bool} {top b:Nat} {rs:List CV} {st:St} {r:TV×St} (h:(if sc then (if b<=top then (liftO (plainL rs)).bind λts=>M.pure (oneOf ts) else .fail) else vd5 q top b rs).run st=some r):
  (vd5 q top b rs).run st=some r:=by
 split at h
 ·split at h
  ·rename_i hle;obtain ⟨ts,s1,h1,h2⟩:=vaa h;obtain ⟨h3,h4⟩:=vdl h1;simp only at h3 h4;subst h4;simp only [vd5,vsl h3 b,M.bind,hle,if_true];exact h2
  ·exact (vac h).elim
 ·exact h
theorem vzf {E:World->List Value->List Value->Prop} (h:G cx U (λ_ _=>False) ρ F st a w) {b:Nat} (hb:∀i,b<=i->i<b+100->¬U i) {f:FuncId} {c:Callee} (hS:AnsE E cx.P f c) (hO:OnlyOk c) {xs:List TV} {vs:List Value} (hx:TRL cx.P w cx.Z ρ F (vah st) xs vs) (hi:vap U xs)
  (hq:c.keeps=false->∀ps cs s1 s2,(lendA c.keeps (b+100) c.modes xs).run st=some (ps,s1)->(show_ c.keeps c.modes xs ps).run s1=some (cs,s2)->va1 cs) {tv:TV} {st':St} (hr:(callM (some c) b xs).run st=some (tv,st')):
  Answers cx.P f vs.toArray w λv w'=>∃ρ' F',G cx (Win U b) (λ_ _=>False) ρ' F' st' a w'/\TR cx.P w' cx.Z ρ' F' (vah st') tv v/\idsIn (Win U b) tv/\(∀i,U i->ρ' i=ρ i)/\∃rvs,v=resV rvs/\E w' rvs vs:=by
 simp only [callM] at hr;obtain ⟨ps,s1,h1,h2⟩:=vaa hr;obtain ⟨cs,s2,h3,h4⟩:=vaa h2;cases hgo:c.go cs with
 |none=>rw [hgo] at h4;exact (vac h4).elim
 |some rf=>
  obtain ⟨rs,fs⟩:=rf;rw [hgo] at h4;simp only at h4;obtain ⟨b',s3,h5,h6⟩:=vaa h4;have h6:=qgm h6;simp only [vd5] at h6;obtain ⟨r,s4,h7,h8⟩:=vaa h6;have hV:b+100≠0/\¬U (b+100-1):=⟨zo,hb _ zo zo⟩
  have hg0:=h.toGS hV;obtain ⟨ps0,s0,h1a,h1b⟩:=vaa h1;obtain ⟨Fc0,sh0,k1a,k2a,k3a,k4,k5a⟩:=vxq c.modes hg0 hx hi h1a;have hx0:TRL cx.P w cx.Z ρ F sh0 xs vs:= .of hx.length λi c u k h=>(hx.get i c u k h).shape (vbm hi k) k4.shape;obtain ⟨X1,Fc,F1,sh1,k2,k1,hFX,_,_,k6,k7,k5⟩:=qcq c.modes k2a hx0 hi k1a (λb o hf=> .inr hf) k5a h1b;have hlow:∀b o,Fc b o->b<w.heap.size:=λb o hf=>(k2.mineX b o (hFX b o hf)).2.2;have hG1:=(k2.toG (U':=Win U b) (λ_ h=> .inl h) (.inr ⟨zo,zo⟩))
  have hx1:TRL cx.P w cx.Z ρ F1 sh1 xs vs:=k6.trl hV hx0 hi;have hx2:TRL cx.P w cx.Z ρ F1 (vah s1) xs vs:= .of hx.length λi c u k h=>(hx1.get i c u k h).shape (vbm hi k) k2.shape;have hms:∀n,Md.ro n∈c.modes->1000<=n->onlyOf c.modes=some (n-1000):=by
   cases ho:onlyOf c.modes with
   |none=>exact vt3 ho
   |some t=>exact vvy (hO t ho cs rs fs hgo).1
  obtain ⟨e2,⟨Fd,m1,m2⟩,m3⟩:=vxs (o:=onlyOf c.modes) hG1 c.modes hms hx2 (vap.mono (λ_ h=> .inl h) hi) k1 k5 h3;have hcs:=λhk=>hq hk ps cs s1 s2 h1 h3;subst e2;have hZ:∀b o,zU (ZM c.keeps (onlyOf c.modes) cx F1 s2) b o->b<w.heap.size/\¬Fd b o:=by
   rintro b o ⟨e,(hz|⟨_,i,hi,hz⟩)⟩
   ·exact ⟨Ar (h.zold b o ⟨e,hz⟩).1 h.kept.size,λhf=>(k2.mineX b o (hFX b o (m2 b o hf))).1 ⟨e,hz⟩⟩
   ·exact ⟨k2.inside hi b o hz,λhf=>k2.apartX i hi b o hz (hFX b o (m2 b o hf))⟩
  refine (hS w (ZM c.keeps (onlyOf c.modes) cx F1 s2) cs vs Fd rs fs m1 hZ (λb o hf=>hlow b o (m2 b o hf)) hcs hgo).mono ?_
  rintro v w' ⟨rvs,Fr,rfl,hrl,hkept,hcr,hFr,hE⟩
  have hMX:∀b o,Fd b o->¬zU cx.Z b o/\(cx.M0 b o\/cx.w0.heap.size<=b)/\b<w.heap.size:=λb o hf=>k2.mineX b o (hFX b o (m2 b o hf));have hG2:=k2.world (X':=Fr) hkept (λb o hf=>(hMX b o hf).1) (λb o hf hlt=>(hMX b o hf).2.1.resolve_right zo) (λi hi b o hf hd=>k2.apartX i hi b o hf (hFX b o (m2 b o hd)))
   (λb o hf=>(hFr b o hf).1.elim (λhd=> .inl (hFX b o (m2 b o hd))) λhge=> .inr ⟨hge,(hFr b o hf).2⟩)
  have hzs:=vst cx hkept λb o hf=>(hMX b o hf).1;have hcr':CRL cx.P w' cx.Z (rs++fs) (rvs++muts c.modes vs) Fr:=by
   cases ho:onlyOf c.modes with
   |none=>
    rw [ho] at hcr
    exact CRL.mono (λ_ _ _ cur _ _ hb=>⟨cur,hb,rfl,rfl⟩) (λe b o hz=>by
     obtain ⟨hk,hz⟩:=hz;refine hz.resolve_right λhh=> ?_;rcases hh.1 with hh|⟨t,hh,_⟩
     ·rw [hk] at hh;cases hh
     ·cases hh) hcr λ_ _ _ cur _ _ hb=>⟨cur,hb,rfl,rfl⟩
   |some t=>
    rw [ho] at hcr
    exact CRL.only (λb o hz=>by
     obtain ⟨hk,hz⟩:=hz;refine hz.resolve_right λhh=> ?_;rcases hh.1 with hh|⟨u,hh,hne⟩
     ·rw [hk] at hh;cases hh
     ·cases hh;exact hne rfl) hcr (hO t ho cs rs fs hgo).2
  obtain ⟨L1,L2,F3,F2,eL,el,n1,n2,n3,n4⟩:=CRL.split hcr';obtain ⟨rfl,rfl⟩:=List.append_inj eL (by rw [hrl,el])
  have hx3:TRL cx.P w' cx.Z ρ F1 sh1 xs vs:= .of hx1.length λi c u k hu=>(hx1.get i c u k hu).mono (vbm hi k) hzs (λ_ _=>rfl) (.refl _ _) λid hid ver e l hs hv=> .of hkept.ty λb o hf=>⟨hf,λy hy _=>
   (hkept.same λhd=>k2.apartX id (k2.known hs hv) b o hf (hFX b o (m2 b o hd))).cell hy⟩
  have hle:r.2<=b+99/\(M.pure (oneOf r.1)).run s4=some (tv,st'):=by
   split at h8
   ·rename_i hle;exact ⟨hle,h8⟩
   ·exact (vac h8).elim
  have hk3:HkM (Hd cx.P w' U ρ F1 s2) c.modes xs vs:=by
   have key:∀(ms:List Md) (xs:List TV) (vs:List Value),vap U xs->HkM (Hl cx.P w ρ F1 s2 (b+100)) ms xs vs->HkM (Hd cx.P w' U ρ F1 s2) ms xs vs:=by
    intro ms;induction ms with
    |nil=>intro xs vs _ _;cases xs<;>cases vs<;>simp only [HkM]
    |cons m ms ih=>
     intro xs vs hi hk;cases xs with
     |nil=>cases m<;>cases vs<;>simp only [HkM]
     |cons x xs=>
      cases vs with
      |nil=>cases m<;>simp only [HkM]
      |cons v vs=>
       cases m with
       |ro n=>simp only [HkM] at hk⊢;exact ih xs vs hi.2 hk
       |«mut» n=>
        simp only [HkM] at hk⊢;refine ⟨λid ver p e=> ?_,ih xs vs hi.2 hk.2⟩;obtain ⟨⟨q,e1,es1,hn⟩,hnav⟩:=hk.1 id ver p e;subst e;have hs:(s2.node id).isSome=true:=by rw [hn];rfl
        exact ⟨hi.1.1,hs,NavKept.of hkept.ty (λb o hf=>⟨hf,λy hy _=>(hkept.same λhd=>k2.apartX id hs b o hf (hFX b o (m2 b o hd))).cell hy⟩) _ _ hnav⟩
   exact key c.modes xs vs hi k7
  have le1:=vm9 h5;have le2:=ve4 h7;obtain ⟨ρ1,F1',sh2,g1,o1⟩:=vqu hG2 (λi h1 h2=>hb i h1 h2) hx3 hi (PkM.mono (λ_ _ _ h=>h.rd) m3) hk3 n2 (λb o hf=>(n4 b o).2 (.inr hf)) h5 zo
  obtain ⟨ρ2,F2',sh3,g2,t2,i2,o2⟩:=vhc g1 (λi hi hi2=>by
   rintro (hu|hu)
   ·exact hb i zo hi2 hu
   ·omega) n1 (λb o hf=>⟨(n4 b o).2 (.inl hf),λhg=>n3 b o hf hg⟩) h7 zo
  have hsub:∀i,To (To U b b') b' r.2 i->Win U b i:=by
   rintro i ((hi|hi)|hi)
   ·exact .inl hi
   ·exact .inr ⟨hi.1,zo⟩
   ·exact .inr ⟨zo,zo⟩
  have hG3:=(g2.toG hsub (.inr ⟨zo,zo⟩)).less (X':=λ_ _=>False) λ_ _ h=>h.elim;have t3:TRL cx.P w' cx.Z ρ2 F2' (vah s4) r.1 rvs:= .of t2.length λi c u k1 k2=>(t2.get i c u k1 k2).shape (vbm i2 k1) g2.shape;obtain ⟨hle3,h9⟩:=hle;have i3:=vap.mono hsub i2;generalize hr1:r.1=ts at h9 t3 i3;cases run_pure h9;refine ⟨ρ2,F2',hG3,?_,?_,λi hi=>(o2.rho i (Or.inl hi)).trans (o1.rho i hi),rvs,rfl,hE⟩
  ·cases t3 with
   |nil=>exact .tp [] #[] rfl (by simp)
   |cons hc hs=>
    cases hs with
    |nil=>exact hc
    |cons hc' hs'=>
     refine .tp _ _ (by simp [hs'.length]) λi c u k1 k2=> ?_;exact (TRL.cons hc (TRL.cons hc' hs')).get i c u k1 (by simpa using k2)
  ·cases ts with
   |nil=>trivial
   |cons t ts'=>
    cases ts' with
    |nil=>exact i3.1
    |cons t' ts''=>exact i3
theorem vvr (h:G cx U (λ_ _=>False) ρ F st a w) {b:Nat} (hb:∀i,b<=i->i<b+100->¬U i) {f:FuncId} {c:Callee} (hS:Sound cx.P f c) {xs:List TV} {vs:List Value} (hx:TRL cx.P w cx.Z ρ F (vah st) xs vs) (hi:vap U xs)
  (hq:c.keeps=false->∀ps cs s1 s2,(lendA c.keeps (b+100) c.modes xs).run st=some (ps,s1)->(show_ c.keeps c.modes xs ps).run s1=some (cs,s2)->va1 cs) {tv:TV} {st':St} (hr:(callM (some c) b xs).run st=some (tv,st')):
  Answers cx.P f vs.toArray w λv w'=>∃ρ' F',G cx (Win U b) (λ_ _=>False) ρ' F' st' a w'/\TR cx.P w' cx.Z ρ' F' (vah st') tv v/\idsIn (Win U b) tv:=
 (vzf h hb hS.e hS.only hx hi hq hr).mono λ_ _ ⟨ρ',F',h1,h2,h3,_⟩=>⟨ρ',F',h1,h2,h3⟩
theorem G.rebox (h:G cx U X ρ F st a w) {id:Nat} {z:Bool} {cs cs':List TV} (hn:st.node id=some (.bx z cs)) (hl:cs'.length=cs.length) (hi:vap U cs')
  (hc:∀b off cur t,ρ id= .pointer (some ⟨b,off,none⟩)->w.heap[b]? =some (.cells cur t (0,0))->∀(i:Nat) c,cs'[i]? =some c->∀u,cur[off+i]? =some u->TR cx.P w cx.Z ρ F (vah st) c u):
  G cx U X ρ F {st with nodes:=(id,some (.bx z cs'))::st.nodes} a w:=by
 have hnode:∀j,({st with nodes:=(id,some (.bx z cs'))::st.nodes}:St).node j=if j=id then some (.bx z cs') else st.node j:=by
  intro j;show (look ((id,some (.bx z cs'))::st.nodes) j).getD none=_;simp only [look];by_cases hj:j=id
  ·subst hj;simp
  ·rw [if_neg (λe=>hj e.symm),if_neg hj];rfl
 have hsh:vah {st with nodes:=(id,some (.bx z cs'))::st.nodes}=vah st:=by
  funext j;unfold vah;rw [hnode];by_cases hj:j=id
  ·subst hj;rw [if_pos rfl,hn]
  ·rw [if_neg hj]
 have hsome:∀j,(({st with nodes:=(id,some (.bx z cs'))::st.nodes}:St).node j).isSome=true->(st.node j).isSome=true:=by
  intro j hs;rw [hnode] at hs;by_cases hj:j=id
  ·subst hj;rw [hn];rfl
  ·rwa [if_neg hj] at hs
 constructor
 case slots=>intro t;rw [hsh];exact h.slots t
 case ids=>exact h.ids
 case nodes=>
  intro j n hjn;rw [hsh];rw [hnode] at hjn;by_cases hj:j=id
  ·subst hj;rw [if_pos rfl] at hjn;cases hjn;have:=h.nodes j _ hn;cases this with
   |bx _ _ b off cur t k1 k2 k3 k4 k5 k6 k7=>exact .bx z cs' b off cur t k1 k2 (by rw [hl];exact k3) (λe=>k4 (Ae (by rw [<-hl,e];rfl))) (hc b off cur t k1 k2) (by rw [hl];exact k6) (by rw [hl];exact k7)
  ·rw [if_neg hj] at hjn;exact h.nodes j n hjn
 case used=>
  intro j n hjn;rw [hnode] at hjn;by_cases hj:j=id
  ·subst hj;rw [if_pos rfl] at hjn;cases hjn;exact ⟨(h.used j _ hn).1,hi⟩
  ·rw [if_neg hj] at hjn;exact h.used j n hjn
 case apart=>exact λi j hij h1 h2=>h.apart i j hij (hsome i h1) (hsome j h2)
 case apartX=>exact λi h1=>h.apartX i (hsome i h1)
 case mine=>exact λi h1=>h.mine i (hsome i h1)
 case mineX=>exact h.mineX
 case one=>exact h.one
 case kept=>exact h.kept
 case zold=>exact h.zold
 case size=>exact h.size
 case small=>exact h.small
 case defers=>exact h.defers
theorem vso {P:Program} {o:Oper} {c:Call} {x:Operand} (hop:o.op= .call c) (hcal:c.callee= .value x) {f:FuncId} {xs us:Array Value} (hv:a.eval x= .func (.func f) xs us):
  (execOp a.eval o).run P w=(callFunc f (xs++c.args.map a.eval++us)).run P w:=by
 unfold execOp;rw [hop];simp only [resolve,hcal,hv,Deferred.ofValue,Sem.run_bind,Sem.run_pure,Result.andThen_ok,invoke]
theorem vr8 {o:Oper} {d:Option Nat} (ho:o.dst=d) (hd:∀t,d=some t->t<cx.n) {f:FuncId} {args:Array Value} {b:Nat} {tv:TV} {st' s1:St} (hrun:(execOp a.eval o).run cx.P w=(callFunc f args).run cx.P w)
  (hA:Answers cx.P f args w λv w'=>∃ρ' F',G cx (Win U b) (λ_ _=>False) ρ' F' st' a w'/\TR cx.P w' cx.Z ρ' F' (vah st') tv v/\idsIn (Win U b) tv) (hr:(putO d tv).run st'=some ((),s1)):Now cx U b o s1 a w:=by
 refine .call λK Q hK=> ?_;unfold Oper.wp;rw [hrun];refine hA o a K Q ?_
 rintro v w' ⟨ρ',F',hG,htr,hi⟩
 refine hK _ _ ?_;subst ho;cases hdst:o.dst with
 |none=>
  rw [hdst] at hr;cases run_pure hr;exact ⟨ρ',F',hG⟩
 |some t=>
  rw [hdst] at hr;cases vbd hr;exact hG.rel_put (hd t hdst) htr hi
theorem vxj (h:G cx U (λ_ _=>False) ρ F st a w) {b:Nat} (hb:∀i,b<=i->i<b+100->¬U i) {o:Oper} {d:Option Nat} (ho:o.dst=d) (hd:∀t,d=some t->t<cx.n) {f:FuncId} {c:Call} (hop:o.op= .call c)
  (hcal:c.callee= .value (.func f)) (hsz:c.args.size=c.argTypes.size) {xs':List Opd} (hx:cOpds cx.P (c.argTypes.toList.zip c.args.toList)=some xs') {g:Option Callee} (hS:∀c,g=some c->Sound cx.P f c)
  (hq:∀c xs,g=some c->c.keeps=false->∀ps cs s1 s2,(lendA c.keeps (b+100) c.modes xs).run st=some (ps,s1)->(show_ c.keeps c.modes xs ps).run s1=some (cs,s2)->va1 cs) {s1:St}
  (hr:((opds xs').bind λvs=>(callM g b vs).bind (putO d)).run st=some ((),s1)):Now cx U b o s1 a w:=by
 obtain ⟨cs,s2,h1,h2⟩:=vaa hr;obtain ⟨rfl,g1,i1⟩:=vmy h _ hx h1;rw [voy a.eval (by simpa using hsz)] at g1;obtain ⟨tv,s3,h3,h4⟩:=vaa h2;cases g with
 |none=>exact (vac h3).elim
 |some c0=>
  have hA:=vvr h hb (hS c0 rfl) g1 i1 (hq c0 cs rfl) h3;refine vr8 ho hd (f:=f) (args:=(c.args.toList.map a.eval).toArray) ?_ hA h4;rw [vso hop hcal (f:=f) (xs:= #[]) (us:= #[]) rfl];congr 2;apply Ap;simp
theorem qok {cx:Cx} {U U':Nat->Prop} {ρ ρ':Nat->Value} {F F':Nat->vaj} {st st' s1:St} {a:Act} {w w':World} {c:Option Callee} {xs:List TV} {vs rvs:List Value} {tv:TV} {v:Value} (hG:G cx U' (λ_ _=>False) ρ' F' st' a w') (hx:TRL cx.P w cx.Z ρ F (vah st) xs vs) (hi:vap U xs) (hU:∀i,U i->U' i)
  (hρ:∀i,U i->ρ' i=ρ i) (ht:TR cx.P w' cx.Z ρ' F' (vah st') tv v) (hti:idsIn U' tv) (hv:v=resV rvs) (hE:AlsV w' rvs vs) (hr:(alsIn c xs tv).run st'=some ((),s1)):
  (∃c',c=some c'/\isAls c'.modes=true)/\G cx U' (λ_ _=>False) ρ' F' s1 a w'/\TR cx.P w' cx.Z ρ' F' (vah s1) tv v:=by
 unfold alsIn at hr;split at hr
 ·rename_i c' k r id;split at hr
  ·rename_i hals;obtain ⟨m,s2,h1,h2⟩:=vaa hr;obtain ⟨rfl,rfl⟩:=vbn h1;split at h2
   ·rename_i cs hn;cases vby h2;obtain ⟨b,off,cur,t,u,e1,e2,e3,e4⟩:=hE;subst e1;have hv':v= .pointer (some ⟨b,off,none⟩):=hv;cases hx with
    |cons hc hs=>
     rename_i v0 vs';have e5:v0=u:=by simpa using e4
     subst e5;have hk:v0=ρ k:=by cases hc;rfl
     have hid:ρ' id= .pointer (some ⟨b,off,none⟩):=by rw [<-hv'];cases ht;rfl
     have hnr:=hG.nodes id _ hn;refine ⟨⟨c',rfl,hals⟩,hG.rebox hn rfl ⟨hU _ hi.1,(hG.used id _ hn).2.2⟩ ?_,?_⟩
     ·intro b' off' cur' t' k1 k2 i c0 hc0 u0 hu0;rw [hid] at k1;cases k1;rw [e2] at k2;cases k2;cases i with
      |zero=>
       cases hc0;rw [Ax,e3] at hu0;cases hu0;rw [hk,<-hρ k hi.1];exact .rf k
      |succ i=>
       cases hnr with
       |bx _ _ b2 off2 cur2 t2 m1 m2 m3 m4 m5 m6 m7=>
        rw [hid] at m1;cases m1;rw [e2] at m2;cases m2;exact m5 (i+1) c0 hc0 u0 hu0
     ·rw [hv',<-hid];exact .rf id
   ·exact (vac h2).elim
  ·exact (vac hr).elim
 ·exact (vac hr).elim
theorem qeo (h:G cx U (λ_ _=>False) ρ F st a w) {b:Nat} (hb:∀i,b<=i->i<b+100->¬U i) {o:Oper} {d:Option Nat} (ho:o.dst=d) (hd:∀t,d=some t->t<cx.n) {f:FuncId} {c:Call} (hop:o.op= .call c)
  (hcal:c.callee= .value (.func f)) (hsz:c.args.size=c.argTypes.size) {xs':List Opd} (hx:cOpds cx.P (c.argTypes.toList.zip c.args.toList)=some xs') {g:Option Callee} (hS:∀c,g=some c->Sound cx.P f c)
  (hq:∀c xs,g=some c->c.keeps=false->∀ps cs s1 s2,(lendA c.keeps (b+100) c.modes xs).run st=some (ps,s1)->(show_ c.keeps c.modes xs ps).run s1=some (cs,s2)->va1 cs) {s1:St}
  (hr:((opds xs').bind λvs=>(callM g b vs).bind λtv=>(alsIn2 g vs tv).bind λ_=>putO d tv).run st=some ((),s1)):Now cx U b o s1 a w:=by
 unfold alsIn2 at hr;by_cases hac:alsC g=true
 case neg=>
  simp only [if_neg hac] at hr;exact vxj h hb ho hd hop hcal hsz hx hS hq hr
 simp only [if_pos hac] at hr;obtain ⟨cs,s2,h1,h2⟩:=vaa hr;obtain ⟨rfl,g1,i1⟩:=vmy h _ hx h1;rw [voy a.eval (by simpa using hsz)] at g1;obtain ⟨tv,s3,h3,h4⟩:=vaa h2;obtain ⟨_,s4,h5,h6⟩:=vaa h4;cases g with
 |none=>exact (vac h3).elim
 |some c0=>
  have hals:isAls c0.modes=true:=by
   exact hac
  have hA:=vzf h hb ((hS c0 rfl).als hals) (hS c0 rfl).only g1 i1 (hq c0 cs rfl) h3;refine vr8 ho hd (f:=f) (args:=(c.args.toList.map a.eval).toArray) (tv:=tv) (st':=s4) ?_ (hA.mono ?_) h6
  ·rw [vso hop hcal (f:=f) (xs:= #[]) (us:= #[]) rfl];congr 2;apply Ap;simp
  ·rintro v w' ⟨ρ',F',k1,k2,k3,k4,rvs,k5,k6⟩
   obtain ⟨_,k7,k8⟩:=qok k1 g1 i1 (λ_ hi=> .inl hi) k4 k2 k3 k5 k6 h5;exact ⟨ρ',F',k7,k8,k3⟩
theorem qel (h:G cx U (λ_ _=>False) ρ F st a w) {b:Nat} (hb:∀i,b<=i->i<b+100->¬U i) {o:Oper} {d:Option Nat} (ho:o.dst=d) (hd:∀t,d=some t->t<cx.n) {n:Nat} {c:Call} (hop:o.op= .call c) (hn:n<10000)
  (hcal:c.callee= .value (.tmp n)) (hsz:c.args.size=c.argTypes.size) {xs':List Opd} (hx:cOpds cx.P (c.argTypes.toList.zip c.args.toList)=some xs') {Φ:Nat->Option Callee} (hS:∀f c,Φ f=some c->Sound cx.P f c)
  (hq:∀f c xs,Φ f=some c->c.keeps=false->∀ps cs s1 s2,(lendA c.keeps (b+100) c.modes xs).run st=some (ps,s1)->(show_ c.keeps c.modes xs ps).run s1=some (cs,s2)->va1 cs) {s1:St}
  (hr:((opd (.t n)).bind λg=>match g with
   | .fn g fs cs=>(opds xs').bind λvs=>(callM (Φ g) b (fs++vs++cs)).bind (putO d)
   |_=> .fail).run st=some ((),s1)):Now cx U b o s1 a w:=by
 obtain ⟨fv,s2,h1,h2⟩:=vaa hr;obtain ⟨rfl,g0,i0⟩:=vbw h (t:=0) (x:= .tmp n) (y:= .t n) (by simp [cOpd,hn]) h1;split at h2
 ·rename_i f fs cs;obtain ⟨vs,s2',h3,h4⟩:=vaa h2;obtain ⟨rfl,g1,i1⟩:=vmy h _ hx h3;rw [voy a.eval (by simpa using hsz)] at g1;obtain ⟨tv,s3,h5,h6⟩:=vaa h4;cases hg:Φ f with
  |none=>rw [hg] at h5;exact (vac h5).elim
  |some c0=>
   rw [hg] at h5;generalize hfv:a.eval (.tmp n)=fval at g0;cases g0 with
   |fn _ _ _ us ws hl1 hl2 hf hc=>
    have t1:TRL cx.P w cx.Z ρ F (vah s2') fs us.toList:= .of (by rw [Ag];exact hl1) λi c u k1 k2=>hf i c u k1 (by simpa using k2);have t2:TRL cx.P w cx.Z ρ F (vah s2') cs ws.toList:= .of (by rw [Ag];exact hl2) λi c u k1 k2=>hc i c u k1 (by simpa using k2);have app:∀{as bs:List TV} {us vs:List Value},TRL cx.P w cx.Z ρ F (vah s2') as us->TRL cx.P w cx.Z ρ F (vah s2') bs vs->TRL cx.P w cx.Z ρ F (vah s2') (as++bs) (us++vs):=by
     intro as bs us vs h1 h2;induction h1 with
     |nil=>exact h2
     |cons h hs ih=>exact .cons h ih
    have hall:=app (app t1 g1) t2;have hids:vap U (fs++vs++cs):=vdc λx hx=>by
     simp only [List.mem_append] at hx;rcases hx with (hx|hx)|hx
     ·exact vco i0.1 x hx
     ·exact vco i1 x hx
     ·exact vco i0.2 x hx
    have hA:=vvr h hb (hS f c0 hg) hall hids (hq f c0 _ hg) h5;refine vr8 ho hd (f:=f) (args:=(us.toList++c.args.toList.map a.eval++ws.toList).toArray) ?_ hA h6;rw [vso hop hcal hfv];congr 2;apply Ap;simp
 ·exact (vac h2).elim
theorem qgk {P:Program} {name:String} {t f:Nat} (h:ofMeth P name=some (t,f)) (u:Value) (args:Array Value) (w:World):
  (callMethod (.iface t u) name args).run P w=(callFunc f (#[u]++args)).run P w:=by
 unfold ofMeth at h;obtain ⟨t',_,h2⟩:=List.exists_of_findSome?_eq_some h;obtain ⟨f',h3,h4⟩:=Option.map_eq_some_iff.1 h2;cases h4;unfold methP at h3;split at h3
 ·rename_i i hi;split at h3
  ·rename_i m hm;split at h3
   ·rename_i hpath;split at h3
    ·rename_i f0 el hfu hund;cases h3;have hp:m.path= #[]:=by simpa using hpath
     obtain ⟨n,hn⟩:∃n,P.types.size+Made.depth=n+1:=⟨P.types.size+Made.depth-1,by unfold Made.depth;omega⟩
     unfold callMethod;simp only [Sem.run_bind,run_program,Result.andThen_ok,hn,method,typeInfo,hi,Sem.run_pure,hm,hp,Array.toList_empty,follow,hfu,receiverAt,run_underlying hund,Place.get]
    ·cases h3
   ·cases h3
  ·cases h3
 ·cases h3
theorem qeu (h:G cx U (λ_ _=>False) ρ F st a w) {b:Nat} (hb:∀i,b<=i->i<b+100->¬U i) {o:Oper} {d:Option Nat} (ho:o.dst=d) (hd:∀t,d=some t->t<cx.n) {n:Nat} {c:Call} (hop:o.op= .call c) (hn:n<10000) {name:String}
  (hcal:c.callee= .invoke (.tmp n) name) (hsz:c.args.size=c.argTypes.size) {m:Nat×Nat} (hm:ofMeth cx.P name=some m) {xs':List Opd} (hx:cOpds cx.P (c.argTypes.toList.zip c.args.toList)=some xs') {Φ:Nat->Option Callee} (hS:∀f c,Φ f=some c->Sound cx.P f c)
  (hq:∀f c xs,Φ f=some c->c.keeps=false->∀ps cs s1 s2,(lendA c.keeps (b+100) c.modes xs).run st=some (ps,s1)->(show_ c.keeps c.modes xs ps).run s1=some (cs,s2)->va1 cs) {s1:St}
  (hr:((opd (.t n)).bind λg=>match g with
   | .ic t' v=>if t'=m.1 then (opds xs').bind λvs=>(callM (Φ m.2) b (v::vs)).bind (putO d) else .fail
   |_=> .fail).run st=some ((),s1)):Now cx U b o s1 a w:=by
 obtain ⟨fv,s2,h1,h2⟩:=vaa hr;obtain ⟨rfl,g0,i0⟩:=vbw h (t:=0) (x:= .tmp n) (y:= .t n) (by simp [cOpd,hn]) h1;split at h2
 ·rename_i t v;split at h2
  ·rename_i ht;obtain ⟨vs,s2',h3,h4⟩:=vaa h2;obtain ⟨rfl,g1,i1⟩:=vmy h _ hx h3;rw [voy a.eval (by simpa using hsz)] at g1;obtain ⟨tv,s3,h5,h6⟩:=vaa h4;cases hg:Φ m.2 with
   |none=>rw [hg] at h5;exact (vac h5).elim
   |some c0=>
    rw [hg] at h5;generalize hfv:a.eval (.tmp n)=fval at g0;cases g0 with
    |ic _ _ u hu=>
     have hA:=vvr h hb (hS _ c0 hg) (TRL.cons hu g1) ⟨i0,i1⟩ (hq _ c0 _ hg) h5;refine vr8 ho hd (f:=m.2) (args:=(u::c.args.toList.map a.eval).toArray) ?_ hA h6;unfold execOp;rw [hop];simp only [resolve,hcal,hfv,Sem.run_bind,Sem.run_pure,Result.andThen_ok,invoke];subst ht;have e0:(#[An m.1 u]++Aw a.eval c.args)[0]? =some (An m.1 u):=by rw [Array.getElem?_append_left (Nat.zero_lt_one)];rfl
     simp only [e0];rw [qgk (f:=m.2) (by rw [hm])];congr 2;apply Ap;have e1:((#[An m.1 u]++Aw a.eval c.args).extract 1 (#[An m.1 u]++Aw a.eval c.args).size).toList=List.map a.eval c.args.toList:=by
      rw [Array.toList_extract];simp [List.extract];exact List.take_of_length_le (by simp)
     simp only [Array.toList_append,e1,Av,List.nil_append]
  ·exact (vac h2).elim
 ·exact (vac h2).elim
theorem vw7:∀{es:List PV},es.all isAtom=true->flat es=es/\∀c∈es,∃v,c= .a v/\isSliceV v=false
 | [],_=>⟨rfl,λ_ h=>by cases h⟩
 |c::es,h=>by
  simp only [List.all_cons,Ab] at h;obtain ⟨h1,h2⟩:=vw7 h.2;obtain ⟨v,rfl,hv⟩:∃v,c= .a v/\isSliceV v=false:=by
   cases c with
   |a v=>exact ⟨v,rfl,by simpa [isAtom] using h.1⟩
   |_=>simp [isAtom] at h
  refine ⟨by simp only [flat,Au,PV.cells] at h1⊢;rw [h1];rfl,λc hc=> ?_⟩;rcases Af.1 hc with rfl|hc
  ·exact ⟨v,rfl,hv⟩
  ·exact h2 c hc
theorem vzh {z0:Value} {z:Value} (h:z0.cells.toList= [z]) (n:Nat):(Builtin.zeroCells z0.cells n).toList=Ac n z:=by
 have hs:z0.cells= #[z]:=Array.toList_inj.1 (by rw [h]);rw [hs];apply List.ext_getElem?;intro k;simp only [Builtin.zeroCells,Array.toList_map,Array.toList_range,List.getElem?_map,Am,List.size_toArray,List.length_cons,List.length_nil,Nat.zero_add,Nat.mul_one,Nat.mod_one];by_cases hk:k<n
 ·rw [List.getElem?_range hk,if_pos hk];rfl
 ·rw [if_neg hk,List.getElem?_eq_none (by simpa using hk)];rfl
theorem qta (h:G cx U X ρ F st a w) {e t ty:Nat} {z:Value} (hm1:va8 cx.P e=some 1) (hz:zeros cx.P e=some [.v z]) (ht:cx.P.underlying t=some (.slice e)) {c:TV} {v:Value} (hc:TR cx.P w cx.Z ρ F (vah st) c v) (hi:idsIn U c) {s1:St}
  (hr:(clrAt e z c).run st=some ((),s1)):∃w' F',(Builtin.clear_ #[t] ty #[v]).run cx.P w= .ok (.tuple #[]) w'/\G cx U X ρ F' s1 a w':=by
 unfold clrAt at hr;split at hr
 ·rename_i id;obtain ⟨n,s2,h1,h2⟩:=vaa hr;obtain ⟨rfl,rfl⟩:=vbn h1;split at h2
  ·rename_i q ver e' es hn;split at h2
   ·rename_i hcond;obtain ⟨rfl,hok⟩:=hcond;have e2:s1=st.setNode id _:=congrArg Prod.snd (vby h2);subst e2;simp only [clrOk,Ab,At,List.isEmpty_eq_false_iff] at hok;obtain ⟨hne,hat⟩:=hok;obtain ⟨hfl,hat⟩:=vw7 hat;obtain ⟨hd,hsh⟩:=vdt h hn;have hsome:(st.node id).isSome=true:=by rw [hn];rfl
    have hv:v=ρ id:=by cases hc;rfl
    obtain ⟨i,z0,hinf,hz0,hsz,hfit⟩:=vjr hz;obtain ⟨z1,hzc,hz1⟩:∃z1,z0.cells.toList= [z1]/\zcFits cx.P (.v z) z1=true:=by
     cases hl:z0.cells.toList with
     |nil=>rw [hl] at hfit;simp [zsFit] at hfit
     |cons x xs=>
      rw [hl] at hfit;cases xs with
      |nil=>exact ⟨x,rfl,by simpa [zsFit] using hfit⟩
      |cons y ys=>simp [zsFit] at hfit
    have hzdc:DC cx.P w cx.Z (.a z) z1 (λ_ _=>False):=ZC.pv_dc hz1;obtain ⟨rfl,hz2⟩:z=z1/\one1 z=true:=by cases hzdc with|a _ _ h1 _=>exact ⟨rfl,h1⟩
    generalize hρ:ρ id=ri at hd;generalize hFF:F id=Fi at hd;cases hd with
    |nil=>exact absurd rfl hne
    |sl _ _ g off len cap m fr cur vs Fk _ hl hm hw hg hfr hlc hcm hsz2 hcc hrr hF hd hd0=>
     rw [hm1] at hm;cases hm;rw [hfl] at hcc hrr hF hd hd0;have hatom:∀k,k<es.length->∃u,vs k=u/\isSliceV u=false/\∀b o,¬Fk k b o:=by
      intro k hk;obtain ⟨u,hu,hs⟩:=hat _ (List.getElem_mem hk);have:=hrr k _ (Al hk);rw [hu] at this;cases this with
      |a _ _ _ hF=>exact ⟨_,rfl,hs,hF⟩
     have hFg:∀b o,Fi b o↔b=g:=λb o=>(hF b o).trans ⟨λh=>h.elim (λh=>h) λ⟨k,hk,hb⟩=>((hatom k hk).choose_spec.2.2 b o hb).elim,λh=> .inl h⟩;have hfit2:off+(Ac len z).length<=cur.size:=by rw [Ad];omega
     have hrun:=vi2 cx.P g off e' fr (Ac len z) 0 cur w hg hfr (by simpa using hfit2) (λu hu=>by rw [(Ai.1 hu).2,<-vrc];exact hz2);simp only [Ax] at hrun;have hk:=vmw (o:=off) (vs:=Ac len z) hg hfit2;have hMF:∀b' k,(b'=g/\off<=k/\k<off+(Ac len z).length)->F id b' k:=λb' k hM=>by rw [hFF];exact (hFg b' k).2 hM.1
     have hlen0:len≠0:=by rw [hl];exact λh=>hne (Ae h)
     have hup:=h.update (U':=U) (id:=id) (o:=some (.sl q ver e' (Ac es.length (.a z)))) (v':=ρ id) (Fn:=F id) (X':=X)
      (λ_ h=>h) hk (λb' k hM=>(h.mine id hsome b' k (hMF b' k hM)).1)
      (λb' k hM hlt=>((h.mine id hsome b' k (hMF b' k hM)).2).resolve_right zo)
      (λj hj hjs b' k hf hM=>h.apart j id hj hjs hsome b' k hf (hMF b' k hM)) (λ_=>rfl) (h.one id)
      (by
       intro j hj ver1 e1 l hs1;by_cases ej:j=id
       ·subst ej;unfold vah at hs1;rw [St.setNode_node,if_pos rfl] at hs1;simp only [Ad] at hs1;cases hs1;exact ⟨_,hsh,λ_=>rfl⟩
       ·rw [ve2 st _ ej] at hs1;exact ⟨ver1,hs1,λ_=>rfl⟩)
      (by
       intro _ ver1 e1 l hs1 hver b' k hf;refine ⟨hf,λy hy hys=> ?_⟩;by_cases hM:b'=g/\off<=k/\k<off+(Ac len z).length
       ·obtain ⟨rfl,h5,h6⟩:=hM;rw [Ad] at h6;rw [vef hg] at hy;obtain ⟨u,hu1,hu2,_⟩:=hatom (k-off) zo;have:=hcc (k-off) _ (Al zo);rw [show off+(k-off)=k by omega,hy] at this;cases this;rw [hu1,hu2] at hys;cases hys
       ·exact (hk.same hM).cell hy)
      (by
       intro nd hnd';cases hnd';refine ⟨?_,hi,(h.used id _ hn).2⟩;refine .sl _ _ e' _ ?_;rw [va5,va5,hρ,hFF];have hflr:flat (Ac es.length (PV.a z))=Ac es.length (PV.a z):=by
        have:(Ac es.length (PV.a z)).flatMap PV.cells=Ac es.length (PV.a z):=by
         generalize es.length=n;induction n with
         |zero=>rfl
         |succ n ih=>rw [List.replicate_succ,Au,ih];rfl
        exact this
       refine .sl e' _ g off len cap 1 fr _ (λ_=>z) (λ_ _ _=>False) Fi (by rw [Ad];exact hl) hm1 (λy hy=>by rw [(Ai.1 hy).2];rfl) (setRow_heap w g cur _ e' fr hg) (hfr.eq (by simp;omega)) hlc hcm (by simp;omega) ?_ ?_ ?_ ?_ ?_
       ·intro k c hkc;rw [hflr] at hkc;have hk2:k<es.length:=by have:=(Ak.1 hkc).1;simpa using this
        have:=qc8 (l:=cur.toList) (ys:=Ac len z) (o:=off) (by simpa using hfit2) (off+k);rw [if_pos ⟨zo,by rw [Ad];omega⟩,show off+k-off=k by omega,Am,if_pos zo] at this;simpa using this
       ·intro k c hkc;rw [hflr] at hkc;have:c= .a z:=(Ai.1 (Ao hkc)).2;subst this;exact .a z _ hz2 λ_ _ h=>h
       ·exact λb o=>(hFg b o).trans ⟨λh=> .inl h,λh=>h.elim (λh=>h) λ⟨_,_,h⟩=>h.elim⟩
       ·exact λ_ _ _ _ _ _ _ h=>h.elim
       ·exact λ_ _ _ h=>h)
      (λ_=>⟨λb o hb=>h.mine id hsome b o hb,λj hj hjs=>h.apart j id hj hjs hsome,h.apartX id hsome⟩)
      (λb' k hx=>by
       obtain ⟨k1,k2,k3⟩:=h.mineX b' k hx
       exact ⟨k1,k2,Ar k3 hk.size⟩)
      (λj _ hjs b' k hf hx=>h.apartX j hjs b' k hf hx)
     rw [vd6,vd6] at hup;refine ⟨_,F,?_,hup⟩;rw [hv,hρ];obtain ⟨l',rfl⟩:∃l',len=l'+1:=⟨len-1,zo⟩
     have hzv:(zeroValue e').run cx.P w= .ok z0 w:=by simp [zeroValue,typeInfo,hinf,hz0]
     unfold Builtin.clear_;simp only [List.getElem?_toArray,List.getElem?_cons_zero,Sem.run_bind,run_underlying ht,Result.andThen_ok,hzv,vzh hzc,hrun,Sem.run_pure]
   ·exact (vac h2).elim
  ·exact (vac h2).elim
 ·exact (vac hr).elim
theorem qi3 (h:G cx U (λ_ _=>False) ρ F st a w) {b:Nat} {o:Oper} (ho:o.dst=none) {t e:TypeId} {x:Operand} {x':Opd} {z:Value} {c:Call} (hop:o.op= .call c) (hcal:c.callee= .builtin .clear)
  (hargs:c.args= #[x]) (hts:c.argTypes= #[t]) (ht:cx.P.underlying t=some (.slice e)) (hm:va8 cx.P e=some 1) (hz:zeros cx.P e=some [.v z]) (hx:cOpd cx.P t x=some x') {s1:St}
  (hr:((opd x').bind λv=>clrAt e z v).run st=some ((),s1)):Now cx U b o s1 a w:=by
 obtain ⟨c',s2,h1,h2⟩:=vaa hr;obtain ⟨rfl,g1,i1⟩:=vbw h hx h1;obtain ⟨w',F',hrun,hG⟩:=qta h (ty:=o.type) hm hz ht g1 i1 h2;refine .value (.tuple #[]) w' ?_ ?_
 ·rw [vk8 hop hcal,hargs,hts];simp only [builtin,Sem.run_bind,List.map_toArray,List.map_cons,List.map_nil,hrun,Result.andThen_ok,Sem.run_pure]
 ·rw [ho];exact ⟨ρ,F',hG.more λi hi=> .inl hi⟩
