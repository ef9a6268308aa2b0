/- The interpreter 'VM': data that comes in, as the interpreter reads it; and a law of plain data out of what the interpreter says of it. -/
import Derived.Test.YtpgkmggaifgjkaaGreatDoorVmGz
import Derived.Carry
import Derived.SizedLaws
import Derived.OpenShut
import Derived.RowKit
import Derived.WalkKit
import Derived.ProofKit
import Derived.ShutString
import Derived.ChangeOld
open List renaming mem_append->Aa,getElem?_eq_getElem->Ab,eq_nil_of_length_eq_zero->Ad,getElem?_append_right->Ae,getElem?_append_left->Af,getElem?_eq_some_iff->Ag,getElem?_range->Ak,map_cons->Al,length_range->Am,mem_iff_getElem?->Ap,mem_cons->Aq,mem_singleton->Ar,length_cons->Au,mem_flatMap->Av,all_eq_true->Aw,append_nil->Ax,mem_map->Ay
open Option renaming bind_eq_some_iff->Ac,map_eq_some_iff->An
open Go.Value renaming okWide->Ah,cells->Ao
open Option.some renaming injEq->Ai,inj->Az
open Bool renaming and_eq_true->Aj,false_eq_true->At
set_option linter.all false
namespace Go.Proofs.YtpgkmggaifgjkaaGreatDoor.VM
open Go Go.ChangeShapes Go.WideShapes Go.ChangeAt Go.RowKit
section
variable {H:Type} {enc:TypeId×Value->H} {P:Program}
def mkEl (m:Nat) (cs:List PV):PV:=if m=1 then cs.headD .un else .st cs
def TyFs (T:TypeId->List PV->Prop):List TypeId->List PV->Prop
 | [],cs=>cs= []
 |t::ts,cs=>∃c1 c2,cs=c1++c2/\T t c1/\TyFs T ts c2
def Tyd (P:Program):Nat->TypeId->List PV->Prop
 |0,_,_=>False
 |k+1,t,cs=>
  match P.underlying t with
  |some .bool=>∃b,cs= [.a (.bool b)]
  |some (.int i)=>∃n,cs= [.a (.int i n)]/\(Lit.int i n).wf=true
  |some .string=>∃s,cs= [.a (.string s)]/\s.size<=140737488351232
  |some (.slice e)=>∃es,cs= [.sl e es]/\es.length * P.bytesOf e<=140737488351232/\es.length<=maxLen/\∀y∈es,∃c,y=mkEl (P.cellsOf e) c/\Tyd P k e c
  |some (.struct fs)=>TyFs (Tyd P k) (fs.toList.map (·.type)) cs
  |_=>False
def offsOk (P:Program):Nat->List Field->Nat->Bool
 |o,[],n=>o==n
 |o,f::fs,n=>f.offset==o&&offsOk P (o+P.cellsOf f.type) fs n
def okTy (P:Program):Nat->TypeId->Bool
 |0,_=>false
 |k+1,t=>
  match P.underlying t with
  |some .bool|some (.int _)|some .string=>P.cellsOf t==1
  |some (.slice e)=>P.cellsOf t==1&&(va8 P e).isSome&&decide (0<P.cellsOf e)&&okTy P k e
  |some (.struct fs)=>offsOk P 0 fs.toList (P.cellsOf t)&&fs.toList.all λf=>okTy P k f.type
  |_=>false
theorem qry {es:List PV} {m:Nat} (hm:0<m):(∀y∈es,y.cells.length=m)->∀k,(flat es)[k]? =(es[k/m]?).bind (·.cells[k%m]?):=by
 induction es with
 |nil=>intro _ k;simp [flat]
 |cons y es ih=>
  intro hw k;have hy:y.cells.length=m:=hw y (by simp);have e1:flat (y::es)=y.cells++flat es:=by simp [flat]
  rw [e1];by_cases hk:k<m
  ·rw [Af zo,Nat.div_eq_of_lt hk,Nat.mod_eq_of_lt hk];rfl
  ·rw [Ae zo,hy,ih (λz hz=>hw z (by simp [hz])) (k-m)];have h1:k/m=(k-m)/m+1:=by rw [<-Nat.add_div_right (k-m) hm,Nat.sub_add_cancel zo]
   have h2:k%m=(k-m)%m:=by rw [<-Nat.add_mod_right (k-m) m,Nat.sub_add_cancel zo]
   rw [h1,h2,List.getElem?_cons_succ]
theorem qcz {t:TypeId} (h:(va8 P t).isSome=true):va8 P t=some (P.cellsOf t):=by
 unfold va8 Program.cellsOf at *;cases hi:P.info? t with
 |none=>rw [hi] at h;cases h
 |some i=>rfl
def Rds (P:Program) (w:World) (Z:Zn) (pvs:List PV) (cs:List Value):Prop:=pvs.length=cs.length/\(∀(i:Nat) c v,pvs[i]? =some c->cs[i]? =some v->RC P w Z c v)/\∀c∈pvs,∀x,c≠ .st x
theorem Rds.append {w:World} {Z:Zn} {p1 p2:List PV} {c1 c2:List Value} (h1:Rds P w Z p1 c1) (h2:Rds P w Z p2 c2):Rds P w Z (p1++p2) (c1++c2):=by
 refine ⟨by simp [h1.1,h2.1],λi c v hi hv=> ?_,λc hc x=> ?_⟩
 ·by_cases hlt:i<p1.length
  ·rw [Af hlt] at hi;rw [Af (by rw [<-h1.1];exact hlt)] at hv;exact h1.2.1 i c v hi hv
  ·rw [Ae zo] at hi;rw [Ae (by rw [<-h1.1];omega),<-h1.1] at hv;exact h2.2.1 _ c v hi hv
 ·rcases Aa.1 hc with hc|hc
  ·exact h1.2.2 c hc x
  ·exact h2.2.2 c hc x
theorem vrr {w:World} {Z:Zn} {c:PV} {v:Value} (h:RC P w Z c v) (hn:∀x,c≠ .st x):Rds P w Z [c] [v]:=by
 refine ⟨rfl,λi c' v' hi hv=> ?_,λc' hc x=> ?_⟩
 ·cases i with
  |zero=>
   simp only [List.getElem?_cons_zero,Ai] at hi hv;subst hi;subst hv;exact h
  |succ i=>simp at hi
 ·simp only [Ar] at hc;subst hc;exact hn x
theorem qgd {m:Nat} {cs:List PV} (hl:cs.length=m) (hn:∀c∈cs,∀x,c≠ .st x):(mkEl m cs).cells=cs:=by
 unfold mkEl;split
 ·rename_i h1
  match cs,hl with
  | [c],_=>
   simp only [List.headD_cons];cases c with
   |st x=>exact absurd rfl (hn _ (by simp) x)
   |_=>rfl
  | [],hl=>simp only [List.length_nil] at hl;omega
  |_::_::_,hl=>simp only [Au] at hl;omega
 ·rfl
theorem qvh {w:World} {Z:Zn} {m:Nat} {p:List PV} {c:List Value} (h:Rds P w Z p c) (hc:c.length=m):(mkEl m p).cells=p/\p.length=m:=by
 have:p.length=m:=by rw [h.1,hc]
 exact ⟨qgd this h.2.2,this⟩
theorem vq5 {e:TypeId}:∀{ds:List (DataW H)} {d:DataW H},d∈ds->∀n∈d.weights P e,n∈DataW.weightsAll P e ds
 | [],d,hd,_,_=>by cases hd
 |x::xs,d,hd,n,hn=>by
  simp only [DataW.weightsAll,Aa];rcases Aq.1 hd with rfl|hd
  ·exact .inl hn
  ·exact .inr (vq5 hd n hn)
theorem qc3 {w:World} {base:Nat} {a:Addr} {n:Nat} {cs:List Value} (h:w.cells? base a n=some cs):cs.length=n/\∀(i:Nat) v,cs[i]? =some v->w.cell? (a.add i)=some v:=by
 unfold World.cells? at h;split at h
 ·have hl:=mapM_some_length h;rw [Am] at hl;refine ⟨hl,λi v hi=> ?_⟩;have hlt:i<n:=by have:=(Ag.1 hi).1;omega
  rw [mapM_some_get h i i (Ak hlt),hi]
 ·cases h
theorem qpx {a:Addr} {n k:Nat} (h:k<n):MemPlace.cell a.block (a.off+k)∈MemPlace.row a n:=by
 unfold MemPlace.row;exact Ay.2 ⟨k,List.mem_range.2 h,rfl⟩
theorem qni {w:World} {held:Bool} {Z:Zn}:∀(n k:Nat) (t:TypeId) (cs:List Value) (d:DataW H) (ps:List MemPlace),DataW.trod enc P w 0 (λ_=>true) held n t cs=some (d,ps)->okTy P k t=true->
  (∀x∈d.weights P t,x<=140737488351232)->(∀e b o,MemPlace.cell b o∈ps->Z e b o)->cs.length=P.cellsOf t/\∃pvs,Rds P w Z pvs cs/\Tyd P k t pvs:=by
 intro n;induction n with
 |zero=>intro k t cs d ps h;simp [DataW.trod] at h
 |succ n ih=>
  intro k t cs d ps h hok hw hz;cases k with
  |zero=>simp [okTy] at hok
  |succ k=>
   unfold okTy at hok;unfold Tyd;cases hu:P.underlying t with
   |none=>rw [hu] at hok;simp at hok
   |some ty=>
    rw [hu] at hok;unfold DataW.trod at h;rw [hu] at h;cases ty with
    |bool=>
     simp only [beq_iff_eq] at hok;rcases cs with _|⟨c,_|⟨c2,cs⟩⟩
     ·simp at h
     ·cases c<;>simp at h
      rename_i b;exact ⟨by simp [hok],[.a (.bool b)],vrr (.a _ rfl) (by simp),b,rfl⟩
     ·simp at h
    |int i=>
     simp only [beq_iff_eq] at hok;rcases cs with _|⟨c,_|⟨c2,cs⟩⟩
     ·simp at h
     ·cases c<;>simp at h
      rename_i i' m;obtain ⟨⟨rfl,h1⟩,_⟩:=h;exact ⟨by simp [hok],[.a (.int _ m)],vrr (.a _ rfl) (by simp),m,rfl,h1⟩
     ·simp at h
    |string=>
     simp only [beq_iff_eq] at hok;rcases cs with _|⟨c,_|⟨c2,cs⟩⟩
     ·simp at h
     ·cases c<;>simp at h
      rename_i s;obtain ⟨h1,rfl,_⟩:=h;refine ⟨by simp [hok],[.a (.string s)],vrr (.a _ rfl) (by simp),s,rfl,?_⟩;have:=hw _ (by simp only [DataW.weights,Ar];rfl);simpa using this
     ·simp at h
    |slice e=>
     simp only [Aj,beq_iff_eq,decide_eq_true_eq] at hok;obtain ⟨⟨⟨hc1,hs⟩,hpos⟩,hoe⟩:=hok;have hm:=qcz hs;simp only;have hcs:cs= [.slice none 0 0]\/∃a len cap,cs= [.slice (some a) len cap]:=by
      rcases cs with _|⟨c,_|⟨c2,cs⟩⟩
      ·simp at h
      ·cases c<;>simp at h
       rename_i x len cap;cases x with
       |none=>
        rcases len with _|len
        ·rcases cap with _|cap
         ·exact .inl rfl
         ·simp at h
        ·simp at h
       |some a=>exact .inr ⟨a,len,cap,rfl⟩
      ·simp at h
     rcases hcs with rfl|⟨a,len,cap,rfl⟩
     ·simp only [Ai,Prod.mk.injEq] at h;obtain ⟨rfl,rfl⟩:=h;refine ⟨by simp [hc1],[.sl e []],vrr (.sl e [] none 0 0 _ (λ_=> .bool false) ⟨rfl,Nat.le_refl _⟩ hm (by simp) (by simp) (λ_=>rfl) (by simp [flat]) (by simp [flat])) (by simp),[],rfl,by simp,by simp,by simp⟩
     ·simp only at h;split at h
      ·rename_i hcond;obtain ⟨_,hlc,hcm⟩:=hcond;obtain ⟨elems,he,h⟩:=Ac.1 h;obtain ⟨rest,hr,h⟩:=An.1 h;simp only [Prod.mk.injEq] at h;obtain ⟨rfl,rfl⟩:=h;have hlen:elems.length=len:=by have:=mapM_some_length he;rwa [Am] at this
       have hrl:rest.length=cap-len:=by
        simp only [if_true] at hr;have:=mapM_some_length hr;rwa [Am] at this
       have hel:∀i,i<len->∃ccs x,elems[i]? =some x/\w.cells? 0 (a.add (i * P.cellsOf e)) (P.cellsOf e)=some ccs/\∃pvs,Rds P w Z pvs ccs/\Tyd P k e pvs:=by
        intro i hi;have hget:=mapM_some_get he i i (Ak hi);have hx:∃x,elems[i]? =some x:=⟨elems[i]'zo,Ab zo⟩
        obtain ⟨x,hx⟩:=hx;rw [hx] at hget;obtain ⟨ccs,h1,h2⟩:=Ac.1 hget;refine ⟨ccs,x,hx,h1,?_⟩;have hxm:x∈elems:=List.mem_of_getElem? hx;have hwx:∀y∈x.1.weights P e,y<=140737488351232:=by
         intro y hy;refine hw y ?_;simp only [DataW.weights,hu,Aq,Aa];exact .inr (.inl (vq5 (Ay.2 ⟨x,hxm,rfl⟩) y hy))
        obtain ⟨_,pvs,h3,h4⟩:=ih k e ccs x.1 x.2 h2 hoe hwx λe b o hb=>hz e b o (by
         simp only [Aa,Av]
         exact .inr ⟨x,.inl hxm,hb⟩)
        exact ⟨pvs,h3,h4⟩
       classical
       let ccs:Nat->List Value:=λi=>if h:i<len then Classical.choose (hel i h) else [];have hcc:∀i,i<len->∃x,elems[i]? =some x/\w.cells? 0 (a.add (i * P.cellsOf e)) (P.cellsOf e)=some (ccs i)/\∃pvs,Rds P w Z pvs (ccs i)/\Tyd P k e pvs:=by
        intro i hi;simp only [ccs,dif_pos hi];exact Classical.choose_spec (hel i hi)
       have hpp:∀i,i<len->∃pvs,Rds P w Z pvs (ccs i)/\Tyd P k e pvs:=λi hi=>(hcc i hi).elim λx hx=>hx.2.2;let pv:Nat->List PV:=λi=>if h:i<len then Classical.choose (hpp i h) else [];have hpv:∀i,i<len->Rds P w Z (pv i) (ccs i)/\Tyd P k e (pv i):=by
        intro i hi;simp only [pv,dif_pos hi];exact Classical.choose_spec (hpp i hi)
       have hcs:∀i,i<len->(ccs i).length=P.cellsOf e/\∀(j:Nat) v,(ccs i)[j]? =some v->w.cell? ((a.add (i * P.cellsOf e)).add j)=some v:=λi hi=>(hcc i hi).elim λx hx=>qc3 hx.2.1;have hspot:0<len->a.spot=none:=by
        intro h0;obtain ⟨h1,h2⟩:=hcs 0 h0;have h3:=h2 0 _ (Ab zo);rw [Nat.zero_mul] at h3;exact World.cell?_spot h3
       let es:List PV:=(List.range len).map λi=>mkEl (P.cellsOf e) (pv i);have hesl:es.length=len:=by simp [es]
       have hes:∀(i:Nat) y,es[i]? =some y->i<len/\y=mkEl (P.cellsOf e) (pv i):=by
        intro i y hi;have hlt:i<len:=by have:=(Ag.1 hi).1;omega
        simp only [es,List.getElem?_map,Ak hlt,Option.map_some,Ai] at hi;exact ⟨hlt,hi.symm⟩
       have hcells:∀i,i<len->(mkEl (P.cellsOf e) (pv i)).cells=pv i/\(pv i).length=P.cellsOf e:=λi hi=>qvh (hpv i hi).1 (hcs i hi).1;have hwid:∀y∈es,y.cells.length=P.cellsOf e:=by
        intro y hy;obtain ⟨i,hi⟩:=Ap.1 hy;obtain ⟨hlt,rfl⟩:=hes i y hi;rw [(hcells i hlt).1];exact (hcells i hlt).2
       have hflat:∀(q:Nat) c,(flat es)[q]? =some c->q/P.cellsOf e<len/\(pv (q/P.cellsOf e))[q%P.cellsOf e]? =some c:=by
        intro q c hq;rw [qry hpos hwid] at hq;obtain ⟨y,h1,h2⟩:=Ac.1 hq;obtain ⟨hlt,rfl⟩:=hes _ y h1;rw [(hcells _ hlt).1] at h2;exact ⟨hlt,h2⟩
       have hcell:∀(q:Nat) c,(flat es)[q]? =some c->∃v,(ccs (q/P.cellsOf e))[q%P.cellsOf e]? =some v/\w.cell? ⟨a.block,a.off+q,none⟩=some v/\RC P w Z c v:=by
        intro q c hq;obtain ⟨hlt,h1⟩:=hflat q c hq;have h2:=(hcs _ hlt).1;have h3:=(hpv _ hlt).1;have hj:q%P.cellsOf e<(ccs (q/P.cellsOf e)).length:=by rw [h2];exact Nat.mod_lt _ hpos
        refine ⟨_,Ab hj,?_,h3.2.1 _ c _ h1 (Ab hj)⟩;have h4:=(hcs _ hlt).2 _ _ (Ab hj);rw [vhx (hspot (Nat.lt_of_le_of_lt (Nat.zero_le _) hlt)),vhx rfl] at h4;simp only [Nat.add_assoc] at h4;rw [show q/P.cellsOf e * P.cellsOf e+q%P.cellsOf e=q from by rw [Nat.mul_comm];exact Nat.div_add_mod q _] at h4;exact h4
       have hfl:(flat es).length=len * P.cellsOf e:=by
        have:∀(l:List PV),(∀y∈l,y.cells.length=P.cellsOf e)->(flat l).length=l.length * P.cellsOf e:=by
         intro l;induction l with
         |nil=>intro _;simp [flat]
         |cons y l ih=>
          intro hl;have e1:flat (y::l)=y.cells++flat l:=by simp [flat]
          rw [e1,List.length_append,hl y (by simp),ih λz hz=>hl z (by simp [hz]),Au,Nat.add_mul];omega
        rw [this es hwid,hesl]
       refine ⟨by simp [hc1],[.sl e es],vrr (.sl e es (some a) len cap _ (λq=>((ccs (q/P.cellsOf e))[q%P.cellsOf e]?).getD (.bool false)) ⟨hesl.symm,hlc⟩ hm hwid ?_ (by simp) ?_ ?_) (by simp),es,rfl,?_,zo,?_⟩
       ·intro y hy hne;cases hy;refine hspot ?_;have:es.length≠0:=λh0=>hne (Ad h0);omega
       ·intro q c hq y hy;cases hy;obtain ⟨v,h1,h2,h3⟩:=hcell q c hq;rw [h1];refine ⟨h2,hz _ _ _ ?_⟩;rw [hlen];simp only [Aa];refine .inl (qpx ?_);have hq':q<(flat es).length:=(Ag.1 hq).1;rw [hfl] at hq';exact Nat.lt_of_lt_of_le hq' (Nat.mul_le_mul_right _ zo)
       ·intro q c hq;obtain ⟨v,h1,h2,h3⟩:=hcell q c hq;rw [h1];exact h3
       ·have:=hw ((elems.length+rest.length) * P.bytesOf e) (by simp [DataW.weights,hu]);rw [hesl];exact Nat.le_trans (Nat.mul_le_mul_right _ zo) this
       ·intro y hy;obtain ⟨i,hi⟩:=Ap.1 hy;obtain ⟨hlt,rfl⟩:=hes i y hi;exact ⟨pv i,rfl,(hpv i hlt).2⟩
      ·cases h
    |struct fs=>
     simp only [Aj,Aw] at hok;obtain ⟨hoff,hall⟩:=hok;simp only at h⊢;split at h
     ·rename_i hlen;refine ⟨hlen,?_⟩;obtain ⟨xs,h1,h2⟩:=An.1 h;simp only [Prod.mk.injEq] at h2;obtain ⟨rfl,rfl⟩:=h2;have key:∀(l:List Field) (o:Nat) (ys:List (DataW H×List MemPlace)),offsOk P o l (P.cellsOf t)=true->(∀f∈l,f∈fs.toList)->(∀y∈ys,y∈xs)->(∀x∈DataW.weightsEach P (l.map (·.type)) (ys.map (·.1)),x<=140737488351232)->
        l.mapM (λf=>DataW.trod enc P w 0 (λ_=>true) held n f.type ((cs.drop f.offset).take (P.cellsOf f.type)))=some ys->∃pvs,Rds P w Z pvs (cs.drop o)/\TyFs (Tyd P k) (l.map (·.type)) pvs:=by
       intro l;induction l with
       |nil=>
        intro o ys ho _ _ _ _;simp only [offsOk,beq_iff_eq] at ho;refine ⟨[],?_,rfl⟩;rw [List.drop_of_length_le zo];exact ⟨rfl,by simp,by simp⟩
       |cons f l ihl=>
        intro o ys ho hfs hxs hwe hmm;simp only [offsOk,Aj,beq_iff_eq] at ho;obtain ⟨hfo,ho⟩:=ho;rw [List.mapM_cons] at hmm;obtain ⟨y,hy,hmm⟩:=Ac.1 hmm;obtain ⟨ys',hys,hmm⟩:=Ac.1 hmm;simp only [pure,Ai] at hmm;subst hmm
        have hwe1:∀x∈y.1.weights P f.type,x<=140737488351232:=λx hx=>hwe x (by
         simp only [Al,DataW.weightsEach,Aa];exact .inl hx)
        have hwe2:∀x∈DataW.weightsEach P (l.map (·.type)) (ys'.map (·.1)),x<=140737488351232:=λx hx=>hwe x (by
         simp only [Al,DataW.weightsEach,Aa];exact .inr hx)
        obtain ⟨hl1,p1,k1,k2⟩:=ih k f.type _ y.1 y.2 hy (hall f (hfs f (by simp))) hwe1 λe b o hb=>hz e b o (Av.2 ⟨y,hxs y (by simp),hb⟩);obtain ⟨p2,k3,k4⟩:=ihl (o+P.cellsOf f.type) ys' ho (λg hg=>hfs g (by simp [hg])) (λz hz=>hxs z (by simp [hz])) hwe2 hys;rw [hfo] at k1;refine ⟨p1++p2,?_,p1,p2,rfl,k2,k4⟩;have:=k1.append k3
        rwa [<-List.drop_drop,List.take_append_drop] at this
      obtain ⟨pvs,k1,k2⟩:=key fs.toList 0 xs hoff (λ_ h=>h) (λ_ h=>h) (by simpa [DataW.weights,hu] using hw) h1;exact ⟨pvs,by simpa using k1,k2⟩
     ·cases h
    |_=>simp at hok
def toCV:PV->CV
 | .a v=> .a v
 | .sl e es=> .sl true e es
 | .fz e es=> .sl true e es
 |_=> .un
def isStructT (P:Program) (t:TypeId):Bool:=
 match P.underlying t with
 |some (.struct _)=>true
 |_=>false
def argCV (P:Program) (t:TypeId) (cs:List PV):CV:=if isStructT P t then .st (cs.map toCV) else toCV (cs.headD .un)
def argCVs (P:Program):List TypeId->List (List PV)->List CV
 |t::ts,c::cs=>argCV P t c::argCVs P ts cs
 |_,_=> []
def TyAll (P:Program) (k:Nat):List TypeId->List (List PV)->Prop
 | [],[]=>True
 |t::ts,c::cs=>Tyd P k t c/\TyAll P k ts cs
 |_,_=>False
theorem qep {w:World} {Z:Zn} {c:PV} {v:Value} (h:RC P w Z c v) (hn:∀x,c≠ .st x):CR P w Z (toCV c) v Nil:=by
 cases h with
 |a v h=>simp only [toCV,CR];exact ⟨trivial,λ_ _ h=>h⟩
 |un v h=>simp only [toCV,CR];exact λ_ _ h=>h
 |sl e es x len cap m vs hl hm hw hx hxn hc hr=>simp only [toCV,CR,if_true];exact ⟨.sl e es x len cap m vs hl hm hw hx hxn hc hr,λ_ _ h=>h⟩
 |fz e es x len cap m vs hl hm hw hx hxn hc hr=>simp only [toCV,CR,if_true];exact ⟨.sl e es x len cap m vs hl hm hw hx hxn hc hr,λ_ _ h=>h⟩
theorem vze {w:World} {Z:Zn}:∀{pvs:List PV} {cs:List Value},Rds P w Z pvs cs->CRL P w Z (pvs.map toCV) cs Nil
 | [],cs,h=>by
  have:cs= []:=Ad h.1.symm;subst this;simp only [List.map_nil,CRL];exact ⟨trivial,λ_ _ h=>h⟩
 |p::pvs,cs,h=>by
  cases cs with
  |nil=>have:=h.1;simp at this
  |cons v cs=>
   simp only [Al,CRL];refine ⟨v,cs,Nil,Nil,rfl,qep (h.2.1 0 p v rfl rfl) (h.2.2 p (by simp)),vze ⟨by have:=h.1;simpa using this,λi c u h1 h2=>h.2.1 (i+1) c u (by simpa using h1) (by simpa using h2),λc hc=>h.2.2 c (by simp [hc])⟩,λ_ _ h=>h.elim,λ_ _=>⟨λh=>h.elim,λh=>h.elim (λh=>h) λh=>h⟩⟩
theorem qfp {w:World} {r:Reach} {base k:Nat} {t:TypeId} {v:Value} (hok:okTy P k t=true) (hs:isStructT P t=false) (h:Ah P w r base t v):v.cells.toList= [v]:=by
 cases k with
 |zero=>simp [okTy] at hok
 |succ k=>
  unfold okTy at hok;unfold isStructT at hs;unfold Ah at h;cases hu:P.underlying t with
  |none=>rw [hu] at hok;simp at hok
  |some ty=>
   rw [hu] at hok hs h;cases ty with
   |struct fs=>simp at hs
   |bool=>cases v<;>simp [Cell.okWide,Cell.ok,hu,Ao] at h⊢
   |int i=>cases v<;>simp [Cell.okWide,Cell.ok,hu,Ao] at h⊢
   |string=>cases v<;>simp [Cell.okWide,Cell.ok,hu,Ao] at h⊢
   |slice e=>cases v<;>simp [Cell.okWide,Cell.ok,hu,Ao] at h⊢
   |_=>simp at hok
theorem qf9 {w:World} {r:Reach} {base:Nat} {t:TypeId} {v:Value} (hs:isStructT P t=true) (h:Ah P w r base t v):∃cs,v= .agg cs:=by
 unfold isStructT at hs;unfold Ah at h;split at hs
 ·rename_i fs hu;rw [hu] at h;exact ⟨_,h.choose_spec.1⟩
 ·cases hs
theorem qed {w:World} {k:Nat} {Z:Zn}:∀{ts:List TypeId} {vs:List Value} {ds:List (DataW H)} {ps:List MemPlace},DataW.TrodAll enc P w 0 (λ_=>true) true ts vs ds ps->(∀t∈ts,okTy P k t=true)->
  (∀(j:Nat) t v,ts[j]? =some t->vs[j]? =some v->∃base,Ah P w .any base t v)->(∀x∈DataW.weightsEach P ts ds,x<=140737488351232)->(∀e b o,MemPlace.cell b o∈ps->Z e b o)->
  ∃css,TyAll P k ts css/\CRL P w Z (argCVs P ts css) vs Nil
 | [],vs,ds,ps,h,_,_,_,_=>by
  obtain ⟨rfl,rfl,rfl⟩:=trodAll_nil h;exact ⟨[],trivial,voi⟩
 |t::ts,vs,ds,ps,h,hok,hv,hw,hz=>by
  obtain ⟨v,vs',d,ds',p,q,rfl,rfl,rfl,⟨vad,h1⟩,h2⟩:=trodAll_cons h;obtain ⟨css,k1,k2⟩:=qed (Z:=Z) h2 (λt ht=>hok t (by simp [ht])) (λj t v h1 h2=>hv (j+1) t v (by simpa using h1) (by simpa using h2))
   (λx hx=>hw x (by simp only [DataW.weightsEach,Aa];exact .inr hx)) λe b o hb=>hz e b o (Aa.2 (.inr hb))
  obtain ⟨hl,pvs,k3,k4⟩:=qni (Z:=Z) vad k t _ d p h1 (hok t (by simp)) (λx hx=>hw x (by simp only [DataW.weightsEach,Aa];exact .inl hx)) λe b o hb=>hz e b o (Aa.2 (.inl hb));obtain ⟨base,hwide⟩:=hv 0 t v rfl rfl;refine ⟨pvs::css,⟨k4,k1⟩,?_⟩;simp only [argCVs,CRL];refine ⟨v,vs',Nil,Nil,rfl,?_,k2,λ_ _ h=>h.elim,λ_ _=>⟨λh=>h.elim,λh=>h.elim (λh=>h) λh=>h⟩⟩;unfold argCV;cases hst:isStructT P t with
  |true=>
   obtain ⟨cs,rfl⟩:=qf9 hst hwide;simp only [if_true,CR];exact ⟨cs,rfl,vze k3⟩
  |false=>
   simp only [At,if_false];rw [qfp (hok t (by simp)) hst hwide] at k3
   match pvs,k3 with
   | [c],k3=>exact qep (k3.2.1 0 c v rfl rfl) (k3.2.2 c (by simp))
   | [],k3=>have:=k3.1;simp at this
   |_::_::_,k3=>have:=k3.1;simp at this
theorem Kept.below {w w':World} (h:Kept w w' Nil):Below w.heap.size w w':=by
 refine ⟨h.os,h.tape,h.output,h.size,λk hk=> ?_⟩;cases hb:w.heap[k]? with
 |none=>have:=Array.getElem?_eq_none_iff.1 hb;omega
 |some x=>
  cases x with
  |cells cur e fr=>
   obtain ⟨c,h1,h2,h3⟩:=h.cells k cur e fr hb;have:c=cur:=by
    apply Array.ext h2;intro i hi hj;have:=h3 i λh=>h;rw [Array.getElem?_eq_getElem hi,Array.getElem?_eq_getElem hj] at this;exact Az this
   rw [h1,this]
  |_=>exact h.other k _ hb (by intros;simp)
theorem vtb (hl:laidOutB P=true) {W W':World} (hb:Below W.heap.size W W'):∀{ts:List TypeId} {vs:List Value} {ds:List (DataW H)} {ps:List MemPlace},(∀t∈ts,P.readableRec t=true/\t<P.types.size)->DataW.TrodAll enc P W 0 (λ_=>true) true ts vs ds ps->
  ∃qs,DataW.TrodAll enc P W' 0 (λb=>decide (b<W.heap.size)) true ts vs ds qs
 | [],vs,ds,ps,_,h=>by
  obtain ⟨rfl,rfl,rfl⟩:=trodAll_nil h;exact ⟨[],trodAll_mk0⟩
 |t::ts,vs,ds,ps,ht,h=>by
  obtain ⟨v,vs',d,ds',p,q,rfl,rfl,rfl,h1,h2⟩:=trodAll_cons h;obtain ⟨qs,k1⟩:=vtb hl hb (λt hh=>ht t (by simp [hh])) h2;have lt:∀x∈p,x.block<W.heap.size:=by
   obtain ⟨m,hm⟩:=h1;exact DataW.trod_lt m _ _ _ hm
  exact ⟨p++qs,trodAll_cons_mk (Below.trod hl (ht t (by simp)).1 (ht t (by simp)).2 h1 hb lt) k1⟩
theorem vzo {f:FuncId} {fn:Func} {c:Code} {args:Array Value} {w:World} {R:Value->World->Prop} (hf:P.funcs[f]? =some fn) (hname:(fn.name== "runtime.NumGoroutine")=false) (hbody:fn.body=some c) (h:Answers P f args w R):
  Calls P f args w λe w'=>∃v,e= .returned v/\R v w':=by
 have hcall:(callFunc f args).run P w= .ok (.enter f args) w:=by
  unfold callFunc;simp only [Sem.run_bind,run_program,Result.andThen_ok,hf,hname,At,if_false,hbody,Option.isNone_some,Sem.run_pure]
 have:=h {(default:Oper) with dst:=some 0} {tmps:= #[.bool false],defers:= []} (λa w'=>R (a.tmps.getD 0 undef) w') (λ_ _ _=>False) (λv w' hr=>by simpa [Act.put] using hr);rw [hcall,Oper.upon_enter] at this;refine this.mono λe w' he=> ?_;cases e with
 |returned v=>exact ⟨v,rfl,by simpa [Act.put] using he⟩
 |panicked chain=>exact he.elim
 |outgrown=>
  obtain ⟨_,_,he⟩:=he;exact he.elim
theorem qal {f:FuncId} {fn:Func} {c:Code} {s:ChangeSpec} {cal:Callee} {k:Nat} (hl:laidOutB P=true) (hf:P.funcs[f]? =some fn) (hname:(fn.name== "runtime.NumGoroutine")=false) (hbody:fn.body=some c) {rt:TypeId} (hrt:fn.resultTypes= #[rt]) (hbt:P.underlying rt=some .bool)
  (hvars:s.vars= []) (hspec:∀ds:List (DataW H),ds.length=fn.params.size->s.fn H ds={results:= [.lit (.bool true)],args:=ds}) (hok:∀t∈fn.params.toList,okTy P k t=true) (hread:∀t∈fn.params.toList,P.readableRec t=true/\t<P.types.size)
  (hS:Sound P f cal) (hms:∀vs:List Value,muts cal.modes vs= []) (hlaw:∀css,TyAll P k fn.params.toList css->cal.go (argCVs P fn.params.toList css)=some ([.a (.bool true)],[]))
  {W:World} {base:Nat} {args:Array Value} {ds gs:List (DataW H)} {before:List MemPlace} (hval:∀(j:Nat) t v,fn.params[j]? =some t->args[j]? =some v->Ah P W .any base t v)
  (hW:DataW.Whole enc P fn.params.toList s.vars false W args.toList ds gs before) (hsz:(DataW.weightsEach P (fn.params.toList++s.plain.varTypes P) (ds++gs)).all (·<=reachBytes)=true):
  Calls P f args W λe W'=>∃v,e= .returned v/\s.post enc P fn false true false false W args v W':=by
 have hW':=hW;obtain ⟨p,q,hA,hV,rfl,hfz,hnd⟩:=hW;rw [hvars] at hV;obtain ⟨rfl,rfl⟩:=trodVars_none hV;have hlen:∀{ts:List TypeId} {vs:List Value} {ds:List (DataW H)} {ps:List MemPlace},DataW.TrodAll enc P W 0 (λ_=>true) true ts vs ds ps->ds.length=ts.length/\vs.length=ts.length:=by
  intro ts;induction ts with
  |nil=>intro vs ds ps h;obtain ⟨rfl,rfl,rfl⟩:=trodAll_nil h;exact ⟨rfl,rfl⟩
  |cons t ts ih=>
   intro vs ds ps h;obtain ⟨v,vs',d,ds',p,q,rfl,rfl,rfl,h1,h2⟩:=trodAll_cons h;have:=ih h2;simp [this.1,this.2]
 obtain ⟨hl1,hl2⟩:=hlen hA;have hsz':∀x∈DataW.weightsEach P fn.params.toList ds,x<=140737488351232:=by
  intro x hx;have key:∀(ts us:List TypeId) (ds:List (DataW H)),ds.length=ts.length->DataW.weightsEach P (ts++us) (ds++ [])=DataW.weightsEach P ts ds:=by
   intro ts;induction ts with
   |nil=>
    intro us ds hd;have:ds= []:=Ad hd;subst this;cases us<;>simp [DataW.weightsEach]
   |cons t ts ih=>
    intro us ds hd;cases ds with
    |nil=>simp at hd
    |cons d ds=>
     have:=ih us ds (by simpa using hd);simp only [List.cons_append,DataW.weightsEach];rw [this]
  rw [key _ _ _ hl1] at hsz;have:=Aw.1 hsz x hx;have:x<=reachBytes:=by simpa using this
  exact Nat.le_trans this (by decide)
 obtain ⟨css,k1,k2⟩:=qed (Z:=λ_ b o=>MemPlace.cell b o∈p) hA hok (λj t v h1 h2=>⟨base,hval j t v (by simpa using h1) (by simpa using h2)⟩) hsz' λ_ _ _ h=>h;have hlt:∀(b o:Nat),MemPlace.cell b o∈p->b<W.heap.size:=by
  have key:∀{ts:List TypeId} {vs:List Value} {ds:List (DataW H)} {ps:List MemPlace},DataW.TrodAll enc P W 0 (λ_=>true) true ts vs ds ps->∀x∈ps,x.block<W.heap.size:=by
   intro ts;induction ts with
   |nil=>intro vs ds ps h;obtain ⟨rfl,rfl,rfl⟩:=trodAll_nil h;simp
   |cons t ts ih=>
    intro vs ds ps h;obtain ⟨v,vs',d,ds',p,q,rfl,rfl,rfl,⟨m,h1⟩,h2⟩:=trodAll_cons h;intro x hx;rcases Aa.1 hx with hx|hx
    ·exact DataW.trod_lt m _ _ _ h1 x hx
    ·exact ih h2 x hx
  exact λb o hb=>key hA _ hb
 have hno:∀css,va1 (argCVs P fn.params.toList css):=by
  have h1:∀c,vbl (toCV c):=by intro c;cases c<;>simp [toCV,vbl]
  have h2:∀cs:List PV,va1 (cs.map toCV):=by
   intro cs;induction cs with
   |nil=>simp [va1]
   |cons c cs ih=>simp only [Al,va1];exact ⟨h1 c,ih⟩
  intro css;generalize fn.params.toList=ts;induction ts generalizing css with
  |nil=>cases css<;>simp [argCVs,va1]
  |cons t ts ih=>
   cases css with
   |nil=>simp [argCVs,va1]
   |cons c css=>
    simp only [argCVs,va1];refine ⟨?_,ih css⟩;unfold argCV;split
    ·simp only [vbl];exact h2 c
    ·exact h1 _
 have hans:=hS.ans W (λ_ b o=>MemPlace.cell b o∈p) _ args.toList Nil _ _ k2 (λb o hb=>⟨hb.elim λ_ hb=>hlt b o hb,λh=>h⟩) (λ_ _ h=>h.elim) (λ_=>hno css) (hlaw css k1);refine (vzo hf hname hbody hans).mono ?_
 rintro e W' ⟨v,rfl,vs,Fr,rfl,hvl,hkept,hcr,_⟩
 rw [hms,Ax,Ax] at hcr;obtain ⟨u,rfl⟩:∃u,vs= [u]:=by
  match vs,hvl with
  | [u],_=>exact ⟨u,rfl⟩
 have hu:u= .bool true:=by
  simp only [CRL,CR] at hcr;obtain ⟨v',vs',F1,F2,e1,e2,_⟩:=hcr;simp only [List.cons.injEq] at e1;rw [e1.1];exact e2.1
 subst hu;have bel:=hkept.below;obtain ⟨qs,hq⟩:=vtb hl bel hread hA;refine ⟨_,rfl,ds,[],p++ [],[],qs,[],hW',?_,?_,?_,bel.frame _,λh=>by cases h⟩
 ·rw [hspec _ (by simp [hl1]),hrt];exact trodAll_mk1 (shut_bool hbt _)
 ·rw [hspec _ (by simp [hl1])];simpa using hq
 ·rw [hspec _ (by simp [hl1]),hvars];rfl
theorem ze9 {k:Nat} {t:TypeId} {cs:List PV} (hu:P.underlying t=some .bool) (h:Tyd P (k+1) t cs):∃b,cs= [.a (.bool b)]:=by
 unfold Tyd at h;rw [hu] at h;exact h
theorem qqs {k:Nat} {t:TypeId} {cs:List PV} {i:IntKind} (hu:P.underlying t=some (.int i)) (h:Tyd P (k+1) t cs):∃n,cs= [.a (.int i n)]/\i.min<=n/\n<=i.max:=by
 unfold Tyd at h;rw [hu] at h;obtain ⟨n,h1,h2⟩:=h;simp only [Lit.wf,Aj,decide_eq_true_eq] at h2;exact ⟨n,h1,h2.1,h2.2⟩
theorem qxs {k:Nat} {t:TypeId} {cs:List PV} (hu:P.underlying t=some .string) (h:Tyd P (k+1) t cs):∃s,cs= [.a (.string s)]/\s.size<=140737488351232:=by
 unfold Tyd at h;rw [hu] at h;exact h
theorem qkt {k:Nat} {t e:TypeId} {cs:List PV} (hu:P.underlying t=some (.slice e)) (h:Tyd P (k+1) t cs):
  ∃es,cs= [.sl e es]/\es.length * P.bytesOf e<=140737488351232/\∀y∈es,∃c,y=mkEl (P.cellsOf e) c/\Tyd P k e c:=by
 unfold Tyd at h;rw [hu] at h;obtain ⟨es,h1,h2,h3,h4⟩:=h;exact ⟨es,h1,h2,h4⟩
theorem qwk {k:Nat} {t:TypeId} {cs:List PV} {fs:Array Field} (hu:P.underlying t=some (.struct fs)) (h:Tyd P (k+1) t cs):TyFs (Tyd P k) (fs.toList.map (·.type)) cs:=by
 unfold Tyd at h;rw [hu] at h;exact h
theorem qyr {T:TypeId->List PV->Prop} {t:TypeId} {ts:List TypeId} {cs:List PV} (h:TyFs T (t::ts) cs):∃c1 c2,cs=c1++c2/\T t c1/\TyFs T ts c2:=h
theorem zd4 {T:TypeId->List PV->Prop} {cs:List PV} (h:TyFs T [] cs):cs= []:=h
theorem qfd {k:Nat} {t:TypeId} {ts:List TypeId} {css:List (List PV)} (h:TyAll P k (t::ts) css):∃c cs,css=c::cs/\Tyd P k t c/\TyAll P k ts cs:=by
 cases css with
 |nil=>exact h.elim
 |cons c cs=>exact ⟨c,cs,rfl,h⟩
theorem qjb {k:Nat} {css:List (List PV)} (h:TyAll P k [] css):css= []:=by
 cases css with
 |nil=>rfl
 |cons c cs=>exact h.elim
theorem all_map {α β:Type} {f:α->β}:∀{l:List β},(∀y∈l,∃x,y=f x)->∃l':List α,l=l'.map f
 | [],_=>⟨[],rfl⟩
 |y::l,h=>by
  obtain ⟨x,rfl⟩:=h y (by simp);obtain ⟨l',rfl⟩:=all_map (l:=l) λz hz=>h z (by simp [hz]);exact ⟨x::l',rfl⟩
theorem qah {α β:Type} {f:α->β} {p:α->Prop}:∀{l:List β},(∀y∈l,∃x,y=f x/\p x)->∃l':List α,l=l'.map f/\∀x∈l',p x
 | [],_=>⟨[],rfl,by simp⟩
 |y::l,h=>by
  obtain ⟨x,rfl,hx⟩:=h y (by simp);obtain ⟨l',rfl,hl⟩:=qah (l:=l) λz hz=>h z (by simp [hz]);refine ⟨x::l',rfl,λz hz=> ?_⟩;rcases Aq.1 hz with rfl|hz
  ·exact hx
  ·exact hl z hz
end
