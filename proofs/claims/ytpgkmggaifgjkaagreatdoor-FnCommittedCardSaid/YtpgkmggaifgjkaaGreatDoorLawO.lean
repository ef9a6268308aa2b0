/- The canonical form is its own canonical form. -/
import Derived.Test.YtpgkmggaifgjkaaGreatDoorLawP
import Derived.Test.YtpgkmggaifgjkaaGreatDoorLawQ
open Nat renaming reduceAdd->Aa,reduceBEq->Ab,add_zero->Ar,zero_add->At,le_refl->A5,add_comm->A8
open List renaming getElem?_eq_some_iff->Ac,getElem?_eq_getElem->Ad,mem_of_getElem?->Ae,mem_append->Ag,getElem?_set->Ai,prefix_rfl->Aj,getElem?_replicate->Ak,mem_singleton->Al,getElem?_eq_none->Am,replicate->An,mem_cons_of_mem->Ao,length_map->Ap,length_append->Aq,getElem?_cons_succ->Au,findIdx?_eq_some_iff_getElem->Av,getElem?_range->Aw,mem_cons_self->Ax,getElem?_map->Ay,getElem?_append_left->A0,take_length->A1,length_drop->A2,nil_append->A4,mem_iff_getElem?->A6,mem_cons->A7,ext_getElem?->Ba,getElem_inj->Bb,map_append->Bc,range->Be,drop->Bf
open Int renaming toNat_natCast->Af,toNat->A9
open Classical renaming byContradiction->Ah
open Option.some renaming injEq->Az
open Option renaming getD_some->A3
set_option linter.all false
namespace Go.Proofs.YtpgkmggaifgjkaaGreatDoor.VM
open Go Sy
theorem qci (st:Fd) (v:Int):st.out<+:(see1 st v).out:=by
 unfold see1;split
 ·exact List.prefix_append _ _
 ·exact Aj
theorem vsd:∀(l:List Int) (st:Fd),st.out<+:(seeAll st l).out
 | [],_=>Aj
 |v::l,st=>(qci st v).trans (vsd l (see1 st v))
theorem vsy {s:ByteArray}:∀(l:List Int) (k:Nat) (st:Fd),st.out<+:(seeK s st k l).out
 | [],_,_=>Aj
 |v::l,k,st=>by
  rw [seeK];refine List.IsPrefix.trans ?_ (vsy l (k+1) _);split
  ·exact qci st v
  ·exact Aj
theorem qn5 (ts:List ByteArray) (st:Fd) (o:Obj'):st.out<+:(seeO ts st o).out:=by
 unfold seeO;split
 ·exact vsy _ _ _
 ·exact Aj
theorem qlq (ts:List ByteArray) (g:Gr) (st:Fd) (i:Nat):st.out<+:(seeN ts g st i).out:=by
 unfold seeN;split
 ·split
  ·exact qn5 _ _ _
  ·exact Aj
 ·exact Aj
theorem vxb (ts:List ByteArray) (g:Gr) (i:Nat):∀j,(search ts g i).out<+:(search ts g (i+j)).out
 |0=>Aj
 |j+1=>(vxb ts g i j).trans (qlq ts g _ _)
section
variable {F:List Nat} {n:Nat}
structure As (F:List Nat) (st st':Fd):Prop where
 out:st'.out=Be st.out.length
 seen:st'.seen=(Be F.length).map λi=>decide (i<st.out.length)
theorem vrk (F:List Nat):nm F 0=0:=by
 unfold nm idxOf
 rw [show F.findIdx? (λx:Nat=>decide ((x:Int)=0-1))=none from List.findIdx?_eq_none_iff.2 λx hx=>by
  rw [decide_eq_false];omega]
 rfl
theorem qga (hn:F.Nodup) {i k:Nat} (h:F[i]? =some k):nm F ((k:Int)+1)=(i:Int)+1:=by
 unfold nm idxOf;have hi:=(Ac.1 h).1;have hk:=(Ac.1 h).2
 rw [show F.findIdx? (λx:Nat=>decide ((x:Int)=(k:Int)+1-1))=some i from Av.2 ⟨hi,by rw [hk];exact decide_eq_true zo,λj hj=>by
  rw [Bool.not_eq_true,decide_eq_false_iff_not];intro he;have:F[j]'zo=F[i]:=by rw [hk];omega
  have:=(Bb hn).1 this
  omega⟩]
def Bk (st:Fd):Prop:=∀x,st.seen[x]? =some true->x∈st.out
theorem Bk.see1 {st:Fd} (h:Bk st) (v:Int):Bk (VM.see1 st v):=by
 unfold VM.see1;split
 ·intro x hx;rw [Ai] at hx;split at hx
  ·rename_i e;simp [e]
  ·exact Ag.2 (.inl (h x hx))
 ·exact h
theorem Bk.seeAll:∀{l:List Int} {st:Fd},Bk st->Bk (VM.seeAll st l)
 | [],_,h=>h
 |v::l,_,h=>Bk.seeAll (l:=l) (h.see1 v)
theorem Bk.seeK {s:ByteArray}:∀{l:List Int} {k:Nat} {st:Fd},Bk st->Bk (VM.seeK s st k l)
 | [],_,_,h=>h
 |v::l,k,st,h=>by
  rw [VM.seeK];refine Bk.seeK (l:=l) ?_;split
  ·exact h.see1 v
  ·exact h
theorem vnk (ts:List ByteArray) (g:Gr):∀i,Bk (search ts g i)
 |0=>Bk.seeAll λx hx=>by
  have:=Ak (n:=g.nodes.length) (a:=false) (i:=x);rw [this] at hx;split at hx<;>cases hx
 |i+1=>by
  rw [search];unfold seeN;split
  ·split
   ·unfold seeO;split
    ·exact (vnk ts g i).seeK
    ·exact vnk ts g i
   ·exact vnk ts g i
  ·exact vnk ts g i
theorem As.see1 (hF:F.Nodup) (hFl:∀x∈F,x<n) {st st':Fd} (hs:InvF n st) (hbk:Bk st) (h:As F st st') {v:Int} (h0:0<=v) (hp:(see1 st v).out<+:F):As F (see1 st v) (VM.see1 st' (nm F v)):=by
 by_cases c0:0<v
 ·obtain ⟨k,rfl⟩:∃k:Nat,v=(k:Int)+1:=⟨(v-1).toNat,zo⟩
  have ek:((k:Int)+1-1).toNat=k:=zo
  unfold VM.see1 at hp⊢;rw [ek] at hp⊢;have seen':∀j,st'.seen[j]? =if j<F.length then some (decide (j<st.out.length)) else none:=λj=>by
   rw [h.seen,Ay];split
   ·rename_i hj;rw [Aw hj];rfl
   ·rename_i hj;rw [Am (by simpa using hj)];rfl
  by_cases c1:st.seen[k]? =some false
  ·rw [if_pos ⟨c0,c1⟩] at hp⊢;have hk:F[st.out.length]? =some k:=by
    obtain ⟨t,ht⟩:=hp;rw [<-ht];simp
   have hl:=(Ac.1 hk).1;rw [qga hF hk];have e2:(((st.out.length:Nat):Int)+1-1).toNat=st.out.length:=zo
   rw [e2,if_pos ⟨zo,by rw [seen',if_pos hl,decide_eq_false zo]⟩];refine ⟨by rw [h.out];simp [List.range_succ],?_⟩;simp only [h.seen,Aq,List.length_singleton];refine Ba λj=> ?_;rw [Ai,Ay,Ay];by_cases e:st.out.length=j
   ·subst e;rw [if_pos rfl,if_pos (by simpa using hl),Aw hl];simp
   ·rw [if_neg e];by_cases hj:j<F.length
    ·rw [Aw hj];simp only [Option.map_some,Az,decide_eq_decide];omega
    ·rw [Am (by simpa using hj)];rfl
  ·rw [if_neg (λhc=>c1 hc.2)] at hp⊢;rw [if_neg ?_]
   ·exact h
   ·rintro ⟨c2,c3⟩
    rw [seen'] at c3;split at c3
    ·rename_i hj;simp only [Az,decide_eq_false_iff_not] at c3;have hb:=qb2 F ((k:Int)+1);obtain ⟨i,hi⟩:∃i:Nat,nm F ((k:Int)+1)=(i:Int)+1:=⟨(nm F ((k:Int)+1)-1).toNat,zo⟩
     rw [hi] at c3 hj;have e2:((i:Int)+1-1).toNat=i:=zo
     rw [e2] at c3 hj;unfold nm idxOf at hi;cases hf:F.findIdx? (λx:Nat=>decide ((x:Int)=(k:Int)+1-1)) with
     |none=>rw [hf] at hi;simp at hi;omega
     |some i2=>
      rw [hf] at hi;obtain ⟨hi2,hk2,_⟩:=Av.1 hf;have:i2=i:=by simp at hi;omega
      subst this;have hkF:F[i2]=k:=by have:=of_decide_eq_true hk2;omega
      have hkn:k<n:=hFl k (hkF▸List.getElem_mem hi2);have hsk:st.seen[k]? =some true:=by
       obtain ⟨b,hb⟩:∃b,st.seen[k]? =some b:=⟨_,Ad (by rw [hs.len];exact hkn)⟩
       cases b with
       |true=>exact hb
       |false=>exact absurd hb c1
      obtain ⟨j,hj,hjk⟩:=List.mem_iff_getElem.1 (hbk k hsk);obtain ⟨t,ht⟩:=hp;have:F[j]? =some k:=by rw [<-ht,A0 hj,Ad hj,hjk]
      obtain ⟨hj2,hjF⟩:=Ac.1 this;have:=(Bb hF).1 (hjF.trans hkF.symm);omega
    ·cases c3
 ·obtain rfl:v=0:=zo
  rw [vrk];unfold VM.see1;rw [if_neg (λhc=>absurd hc.1 (by decide)),if_neg (λhc=>absurd hc.1 (by decide))];exact h
theorem As.seeAll (hF:F.Nodup) (hFl:∀x∈F,x<n):∀{l:List Int} {st st':Fd},InvF n st->Bk st->As F st st'->(∀v∈l,0<=v)->(VM.seeAll st l).out<+:F->As F (VM.seeAll st l) (VM.seeAll st' (l.map (nm F)))
 | [],_,_,_,_,h,_,_=>h
 |v::l,st,st',hs,hb,h,hl,hp=>As.seeAll hF hFl (l:=l) (hs.see v) (hb.see1 v) (As.see1 hF hFl hs hb h (hl v (by simp)) ((vsd l _).trans hp)) (λx hx=>hl x (by simp [hx])) hp
theorem As.seeK (hF:F.Nodup) (hFl:∀x∈F,x<n) {s:ByteArray}:∀{l:List Int} {k:Nat} {st st':Fd},InvF n st->Bk st->As F st st'->(∀(j:Nat) v,l[j]? =some v->refAt s (k+j)=true->0<=v)->(VM.seeK s st k l).out<+:F->As F (VM.seeK s st k l) (VM.seeK s st' k (nmK F s k l))
 | [],_,_,_,_,_,h,_,_=>h
 |v::l,k,st,st',hs,hb,h,hl,hp=>by
  rw [nmK,VM.seeK,VM.seeK];rw [VM.seeK] at hp;have hl':∀(j:Nat) w,l[j]? =some w->refAt s (k+1+j)=true->0<=w:=λj w hw hr=>hl (j+1) w (by simpa using hw) (by rwa [show k+(j+1)=k+1+j by omega]);by_cases c:refAt s k=true
  ·simp only [c,if_true] at hp⊢;exact As.seeK hF hFl (l:=l) (hs.see v) (hb.see1 v) (As.see1 hF hFl hs hb h (hl 0 v rfl c) ((vsy l _ _).trans hp)) hl' hp
  ·simp only [Bool.not_eq_true] at c;simp only [c,Bool.false_eq_true,if_false] at hp⊢;exact As.seeK hF hFl (l:=l) hs hb h hl' hp
end
theorem vqh (ts:List ByteArray) (g:Gr) (i:Nat):(search ts g i).out<+:found ts g:=by
 have h1:=vxb ts g i g.nodes.length;have hle:(search ts g g.nodes.length).out.length<=g.nodes.length:=(vcw ts g g.nodes.length).le;rw [A8,vhi hle i] at h1;exact h1
theorem vr3 (ts:List ByteArray) (g:Gr) {i:Nat} (h:(found ts g).length<=i):(search ts g i).out=found ts g:=by
 have h1:=vqh ts g i;have h2:(search ts g i).out.length<=i:=Nat.le_trans h1.length_le h;have h3:=vhi h2 g.nodes.length;have hle:(search ts g g.nodes.length).out.length<=g.nodes.length:=(vcw ts g g.nodes.length).le;have h4:=vhi hle i;unfold found;rw [<-h4,A8,h3]
variable {Φ:Nat->Option Callee} {N:Nat}
set_option maxRecDepth 100000
set_option maxHeartbeats 8000000
def Ref (ts:List ByteArray) (ob:List Obj') (k:Nat) (v:Int):Prop:=∃(o:Obj') (s:ByteArray) (j:Nat),ob[k]? =some o/\ts[o.ty.toNat]? =some s/\refAt s j=true/\o.vals[j]? =some v
theorem qcg {n:Nat} {st:Fd} (h:InvF n st) (hb:Bk st) {v:Int} (h0:0<v) (hv:v<=(n:Int)):(v-1).toNat∈(see1 st v).out:=by
 have hl:=h.len;obtain ⟨b,hs⟩:∃b,st.seen[(v-1).toNat]? =some b:=⟨_,Ad zo⟩
 unfold see1;cases b with
 |true=>rw [if_neg (by rw [hs];simp)];exact hb _ hs
 |false=>rw [if_pos ⟨h0,hs⟩];simp
theorem vxc {n:Nat} {v:Int} (h0:0<v) (hv:v<=(n:Int)):∀{l:List Int} {st:Fd},InvF n st->Bk st->v∈l->(v-1).toNat∈(seeAll st l).out
 | [],_,_,_,hm=>by cases hm
 |u::l,st,h,hb,hm=>by
  show (v-1).toNat∈(seeAll (see1 st u) l).out;rcases A7.1 hm with rfl|hm
  ·exact (vsd l _).subset (qcg h hb h0 hv)
  ·exact vxc h0 hv (h.see u) (hb.see1 u) hm
theorem vz9 {n:Nat} {v:Int} (h0:0<v) (hv:v<=(n:Int)) {s:ByteArray}:∀{l:List Int} {k j:Nat} {st:Fd},InvF n st->Bk st->l[j]? =some v->refAt s (k+j)=true->(v-1).toNat∈(seeK s st k l).out
 | [],_,_,_,_,_,hm,_=>by simp at hm
 |u::l,k,0,st,h,hb,hm,hr=>by
  simp only [List.getElem?_cons_zero,Az] at hm;subst hm;rw [Ar] at hr;rw [seeK,if_pos hr];exact (vsy l _ _).subset (qcg h hb h0 hv)
 |u::l,k,j+1,st,h,hb,hm,hr=>by
  rw [Au] at hm;rw [seeK];refine vz9 h0 hv (l:=l) (j:=j) ?_ ?_ hm (by rw [show k+1+j=k+(j+1) by omega];exact hr)
  ·split
   ·exact h.see u
   ·exact h
  ·split
   ·exact hb.see1 u
   ·exact hb
theorem vl4 {ts:List ByteArray} {g:Gr} (R:Right ts g) {v:Int} (hm:v∈g.roots) (h0:0<v):(v-1).toNat∈found ts g:=by
 refine (vqh ts g 0).subset ?_;rw [search];refine vxc (n:=g.nodes.length) h0 (R.roots v hm).2 (vz5 _) (λx hx=> ?_) hm;have:=Ak (n:=g.nodes.length) (a:=false) (i:=x);rw [this] at hx;split at hx<;>cases hx
theorem qh1 {ts:List ByteArray} {g:Gr} {k:Nat} (h:k∈found ts g):k<g.nodes.length:=(vcw ts g g.nodes.length).low k h
theorem qcy (ts:List ByteArray) (g:Gr) {i k:Nat} (h:(found ts g)[i]? =some k):(search ts g i).out[i]? =some k:=by
 by_cases hl:i<(search ts g i).out.length
 ·obtain ⟨t,ht⟩:=vqh ts g i;rw [<-ht,A0 hl] at h;exact h
 ·have h1:=vhi (ts:=ts) (g:=g) (i:=i) zo g.nodes.length;have hle:(search ts g g.nodes.length).out.length<=g.nodes.length:=(vcw ts g g.nodes.length).le;have h2:=vhi hle i;have e:(search ts g i).out=found ts g:=by
   unfold found;rw [<-h2,A8,h1]
  rw [e];exact h
theorem vqn {ts:List ByteArray} {g:Gr} (R:Right ts g) {k:Nat} (hk:k∈found ts g) {v:Int} (hv:Ref ts g.nodes k v) (h0:0<v):(v-1).toNat∈found ts g:=by
 obtain ⟨i,hi⟩:=A6.1 hk;obtain ⟨o,s,j,ho,hs,hr,hj⟩:=hv;refine (vqh ts g (i+1)).subset ?_;rw [search];unfold seeN;rw [qcy ts g hi];dsimp only;rw [ho];dsimp only;unfold seeO;rw [hs];dsimp only;unfold seeT;rw [A1];obtain ⟨t,s',t1,t2,t3,_,_,t4⟩:=R.obj o (Ae ho);rw [t1,Af,t2] at hs;cases hs;exact vz9 h0 (t4 j v hj hr).2 (vcw ts g i) (vnk ts g i) hj (by rw [At];exact hr)
theorem qaf {P:Nat->Prop} {st:Fd} {v:Int} (h:∀x∈st.out,P x) (hv:0<v->P (v-1).toNat):∀x∈(see1 st v).out,P x:=by
 unfold see1;split
 ·rename_i c;intro x hx;rcases Ag.1 hx with hx|hx
  ·exact h x hx
  ·rw [Al.1 hx];exact hv c.1
 ·exact h
theorem vxa {P:Nat->Prop}:∀{l:List Int} {st:Fd},(∀x∈st.out,P x)->(∀v∈l,0<v->P (v-1).toNat)->∀x∈(seeAll st l).out,P x
 | [],_,h,_=>h
 |u::l,_,h,hl=>vxa (l:=l) (qaf h (hl u Ax)) λv hv=>hl v (Ao _ hv)
theorem qaa {P:Nat->Prop} {s:ByteArray}:∀{l:List Int} {k:Nat} {st:Fd},(∀x∈st.out,P x)->(∀(j:Nat) v,l[j]? =some v->refAt s (k+j)=true->0<v->P (v-1).toNat)->∀x∈(seeK s st k l).out,P x
 | [],_,_,h,_=>h
 |u::l,k,st,h,hl=>by
  rw [seeK];refine qaa (l:=l) ?_ λj v hv hr=>hl (j+1) v (by rw [Au];exact hv) (by rw [show k+(j+1)=k+1+j by omega];exact hr);split
  ·rename_i c;exact qaf h (hl 0 u rfl (by rw [Ar];exact c))
  ·exact h
theorem vsz {ts:List ByteArray} {g:Gr} {P:Nat->Prop} (hr:∀v∈g.roots,0<v->P (v-1).toNat) (hc:∀k,P k->∀v,Ref ts g.nodes k v->0<v->P (v-1).toNat):∀i,∀x∈(search ts g i).out,P x
 |0=>vxa (λx hx=>by cases hx) hr
 |i+1=>by
  have ih:=vsz hr hc i;rw [search];unfold seeN;split
  ·rename_i k hk;split
   ·rename_i o ho;unfold seeO;split
    ·rename_i s hs;unfold seeT;rw [A1];exact qaa ih λj v hv hr=>hc k (ih k (Ae hk)) v ⟨o,s,j,ho,hs,by rwa [At] at hr,hv⟩
    ·exact ih
   ·exact ih
  ·exact ih
theorem vyv {ts:List ByteArray} {g:Gr} {P:Nat->Prop} (hr:∀v∈g.roots,0<v->P (v-1).toNat) (hc:∀k,P k->∀v,Ref ts g.nodes k v->0<v->P (v-1).toNat):∀x∈found ts g,P x:=vsz hr hc _
def Alk (P:Nat->Prop) (a b:Fd):Prop:=a.out=b.out/\∀k,P k->a.seen[k]? =b.seen[k]?
theorem Alk.see1 {P:Nat->Prop} {a b:Fd} (h:Alk P a b) {v:Int} (hv:0<v->P (v-1).toNat):Alk P (VM.see1 a v) (VM.see1 b v):=by
 unfold VM.see1;by_cases c:0<v
 ·have e:=h.2 _ (hv c);by_cases c1:a.seen[(v-1).toNat]? =some false
  ·rw [if_pos ⟨c,c1⟩,if_pos ⟨c,by rw [<-e];exact c1⟩];refine ⟨by rw [h.1],λk hk=> ?_⟩;rw [Ai,Ai];split
   ·have l1:=(Ac.1 c1).1;have l2:=(Ac.1 (e▸c1)).1;rw [if_pos l1,if_pos l2]
   ·exact h.2 k hk
  ·rw [if_neg (λhc=>c1 hc.2),if_neg (λhc=>c1 (by rw [e];exact hc.2))];exact h
 ·rw [if_neg (λhc=>c hc.1),if_neg (λhc=>c hc.1)];exact h
theorem Alk.all {P:Nat->Prop}:∀{l:List Int} {a b:Fd},Alk P a b->(∀v∈l,0<v->P (v-1).toNat)->Alk P (seeAll a l) (seeAll b l)
 | [],_,_,h,_=>h
 |u::l,_,_,h,hl=>Alk.all (l:=l) (h.see1 (hl u Ax)) λv hv=>hl v (Ao _ hv)
theorem Alk.seeK {P:Nat->Prop} {s:ByteArray}:∀{l:List Int} {k:Nat} {a b:Fd},Alk P a b->(∀(j:Nat) v,l[j]? =some v->refAt s (k+j)=true->0<v->P (v-1).toNat)->Alk P (VM.seeK s a k l) (VM.seeK s b k l)
 | [],_,_,_,h,_=>h
 |u::l,k,a,b,h,hl=>by
  rw [VM.seeK,VM.seeK];refine Alk.seeK (l:=l) ?_ λj v hv hr=>hl (j+1) v (by rw [Au];exact hv) (by rw [show k+(j+1)=k+1+j by omega];exact hr);split
  ·rename_i c;exact h.see1 (hl 0 u rfl (by rw [Ar];exact c))
  ·exact h
structure Agree (ts:List ByteArray) (P:Nat->Prop) (g h:Gr):Prop where
 r:g.roots=h.roots
 rp:∀v∈g.roots,0<v->P (v-1).toNat
 n:∀k,P k->k<g.nodes.length/\k<h.nodes.length/\g.nodes[k]? =h.nodes[k]?
 c:∀k,P k->∀v,Ref ts g.nodes k v->0<v->P (v-1).toNat
theorem Agree.search {ts:List ByteArray} {P:Nat->Prop} {g h:Gr} (A:Agree ts P g h):∀i,Alk P (VM.search ts g i) (VM.search ts h i)
 |0=>by
  rw [VM.search,VM.search,<-A.r];refine Alk.all ⟨rfl,λk hk=> ?_⟩ A.rp;obtain ⟨h1,h2,_⟩:=A.n k hk;rw [Ak,Ak,if_pos h1,if_pos h2]
 |i+1=>by
  have ih:=A.search i;have hP:=vsz A.rp A.c i;rw [VM.search,VM.search];unfold seeN;rw [<-ih.1];split
  ·rename_i k hk;have hp:=hP k (Ae hk);rw [<-(A.n k hp).2.2];split
   ·rename_i o ho;unfold seeO;split
    ·rename_i s hs;unfold seeT;rw [A1];exact ih.seeK λj v hv hr=>A.c k hp v ⟨o,s,j,ho,hs,by rwa [At] at hr,hv⟩
    ·exact ih
   ·exact ih
  ·exact ih
theorem Agree.found {ts:List ByteArray} {P:Nat->Prop} {g h:Gr} (A:Agree ts P g h):VM.found ts g=VM.found ts h:=by
 have h1:(VM.found ts g).length<=g.nodes.length:=(vcw ts g g.nodes.length).le;have h2:(VM.found ts h).length<=h.nodes.length:=(vcw ts h h.nodes.length).le;rw [<-vr3 ts g (i:=g.nodes.length+h.nodes.length) zo,<-vr3 ts h (i:=g.nodes.length+h.nodes.length) zo];exact (A.search _).1
theorem Agree.plain {ts:List ByteArray} {P:Nat->Prop} {g h:Gr} (A:Agree ts P g h):plainG ts g=plainG ts h:=by
 unfold plainG;rw [<-A.found,A.r];congr 1;refine List.map_congr_left λk hk=> ?_;unfold plainN;rw [(A.n k (vyv A.rp A.c k hk)).2.2]
def nmW (ts:List ByteArray) (ob:List Obj') (m:Nat):List Int:=match ob[m]? with
 |some o=>(match ts[o.ty.toNat]? with|some s=>nmI s o.vals o.vals.length|none=> [])
 |none=> []
theorem vxx {s:ByteArray} {vs:List Int} {v:Int}:∀{i:Nat},i<=vs.length->(v∈nmI s vs i↔∃j,j<i/\kAt s j=114/\vs[j]? =some v)
 |0,_=>by simp [nmI]
 |i+1,hi=>by
  have ih:=vxx (s:=s) (vs:=vs) (v:=v) (i:=i) zo;obtain ⟨x,hx⟩:∃x,vs[i]? =some x:=⟨_,Ad zo⟩
  have e:nmI s vs (i+1)=if kAt s i=114 then nmI s vs i++ [x] else nmI s vs i:=by
   conv=>lhs;unfold nmI
   rw [hx];rfl
  rw [e];by_cases c:kAt s i=114
  ·rw [if_pos c,Ag,ih];constructor
   ·rintro (⟨j,h1,h2,h3⟩|h)
    ·exact ⟨j,zo,h2,h3⟩
    ·rw [Al.1 h];exact ⟨i,zo,c,hx⟩
   ·rintro ⟨j,h1,h2,h3⟩
    by_cases e:j=i
    ·subst e;rw [hx] at h3;cases h3;exact .inr (Al.2 rfl)
    ·exact .inl ⟨j,zo,h2,h3⟩
  ·rw [if_neg c,ih];constructor
   ·rintro ⟨j,h1,h2,h3⟩
    exact ⟨j,zo,h2,h3⟩
   ·rintro ⟨j,h1,h2,h3⟩
    by_cases e:j=i
    ·subst e;exact absurd h2 c
    ·exact ⟨j,zo,h2,h3⟩
theorem vus {ts:List ByteArray} {ob:List Obj'} {m:Nat} {v:Int}:v∈nmW ts ob m↔Ref ts ob m v:=by
 unfold nmW Ref;constructor
 ·intro h;cases ho:ob[m]? with
  |none=>rw [ho] at h;cases h
  |some o=>
   rw [ho] at h;dsimp only at h;cases hs:ts[o.ty.toNat]? with
   |none=>rw [hs] at h;cases h
   |some s=>
    rw [hs] at h;obtain ⟨j,h1,h2,h3⟩:=(vxx (A5 _)).1 h;exact ⟨o,s,j,rfl,hs,vxl h2,h3⟩
 ·rintro ⟨o,s,j,ho,hs,hr,hj⟩
  rw [ho];dsimp only;rw [hs];exact (vxx (A5 _)).2 ⟨j,(Ac.1 hj).1,vrh hr,hj⟩
theorem vvv {ts:List ByteArray} {B:Nat} {w:Wd} (I:Wok ts B w) (hT:Ty23 ts) {m:Nat} (hm:m<w.ob.length):Rin w.ob.length (nmW ts w.ob m)/\(nmW ts w.ob m).length<=23:=by
 obtain ⟨o,ho⟩:∃o,w.ob[m]? =some o:=⟨_,Ad hm⟩
 obtain ⟨s,g1,g2,g3,g4⟩:=I.ob o (Ae ho);have hz:=hT.z s (Ae g1);constructor
 ·intro v hv;obtain ⟨o',s',j,h1,h2,h3,h4⟩:=vus.1 hv;rw [ho] at h1;cases h1;rw [g1] at h2;cases h2;exact g4 j v h4 (vrh h3)
 ·unfold nmW;rw [ho];dsimp only;rw [g1];have:=vr6 s o.vals o.vals.length;dsimp only;omega
theorem vwy {d:Nat} {ts:List ByteArray} {B:Nat} {w:Wd} (I:Wok ts B w) (hT:Ty23 ts) {m:Nat} (hm:m<w.ob.length) (D:List Bool):vag (T (d+1)) vad vfy [cWf true ts {w with du:=D},.a (.int .i64 (m:Nat))]=some ([.sl false vae ((nmW ts w.ob m).map vak)],[]):=by
 obtain ⟨⟨ot,vs⟩,ho⟩:∃o,w.ob[m]? =some o:=⟨_,Ad hm⟩
 obtain ⟨s,g1,g2,g3,g4⟩:=I.ob _ (Ae ho);have hz:=hT.z s (Ae g1);obtain ⟨t,rfl⟩:∃t:Nat,ot=t:=⟨ot.toNat,by dsimp only at g2;omega⟩
 dsimp only at g1 g3;rw [Af] at g1;have:=qvi (d:=d) (ts:=ts) (w:={w with du:=D}) ho g1 g3 hz;unfold nmW;rw [ho];dsimp only;rw [Af,g1];exact this
def spE (ts:List ByteArray) (w:Wd):Nat->List Int
 |0=>w.sl
 |i+1=>if w.du[i]? =some true then spE ts w i++nmW ts w.ob i else spE ts w i
theorem Rin.app {n:Nat} {a b:List Int} (h:Rin n a) (h2:Rin n b):Rin n (a++b):=λx hx=>by
 rcases Ag.1 hx with h3|h3
 ·exact h x h3
 ·exact h2 x h3
theorem Rin.drop {n:Nat} {a:List Int} (h:Rin n a) (k:Nat):Rin n (a.drop k):=λx hx=>h x (List.mem_of_mem_drop hx)
theorem qa7 {ts:List ByteArray} {B:Nat} {w:Wd} (I:Wok ts B w) (hT:Ty23 ts):∀i,i<=w.ob.length->Rin w.ob.length (spE ts w i)/\(spE ts w i).length<=8+23 * i
 |0,_=>⟨I.slr,by show w.sl.length<=_;rw [I.sl];decide⟩
 |i+1,hi=>by
  obtain ⟨h1,h2⟩:=qa7 I hT i zo;obtain ⟨h3,h4⟩:=vvv I hT (m:=i) zo;unfold spE;split
  ·exact ⟨h1.app h3,by rw [Aq];omega⟩
  ·exact ⟨h1,zo⟩
theorem vuo {ts:List ByteArray} {w:Wd} {v:Int}:∀{i},v∈spE ts w i↔v∈w.sl\/∃k,k<i/\w.du[k]? =some true/\v∈nmW ts w.ob k
 |0=>by simp [spE]
 |i+1=>by
  have ih:=vuo (ts:=ts) (w:=w) (v:=v) (i:=i);unfold spE;by_cases c:w.du[i]? =some true
  ·rw [if_pos c,Ag,ih];constructor
   ·rintro ((h|⟨k,h1,h2,h3⟩)|h)
    ·exact .inl h
    ·exact .inr ⟨k,zo,h2,h3⟩
    ·exact .inr ⟨i,zo,c,h⟩
   ·rintro (h|⟨k,h1,h2,h3⟩)
    ·exact .inl (.inl h)
    ·by_cases e:k=i
     ·subst e;exact .inr h3
     ·exact .inl (.inr ⟨k,zo,h2,h3⟩)
  ·rw [if_neg c,ih];constructor
   ·rintro (h|⟨k,h1,h2,h3⟩)
    ·exact .inl h
    ·exact .inr ⟨k,zo,h2,h3⟩
   ·rintro (h|⟨k,h1,h2,h3⟩)
    ·exact .inl h
    ·by_cases e:k=i
     ·subst e;exact absurd h2 c
     ·exact .inr ⟨k,zo,h2,h3⟩
theorem vur {du:List Bool} {v:Int}:∀{i},v∈dRI du i↔∃k:Nat,k<i/\du[k]? =some true/\v=(k:Int)+1
 |0=>by simp [dRI]
 |i+1=>by
  have ih:=vur (du:=du) (v:=v) (i:=i);unfold dRI;by_cases c:du[i]? =some true
  ·rw [if_pos c,Ag,ih];constructor
   ·rintro (⟨k,h1,h2,h3⟩|h)
    ·exact ⟨k,zo,h2,h3⟩
    ·exact ⟨i,zo,c,Al.1 h⟩
   ·rintro ⟨k,h1,h2,h3⟩
    by_cases e:k=i
    ·subst e;exact .inr (Al.2 h3)
    ·exact .inl ⟨k,zo,h2,h3⟩
  ·rw [if_neg c,ih];constructor
   ·rintro ⟨k,h1,h2,h3⟩
    exact ⟨k,zo,h2,h3⟩
   ·rintro ⟨k,h1,h2,h3⟩
    by_cases e:k=i
    ·subst e;exact absurd h2 c
    ·exact ⟨k,zo,h2,h3⟩
theorem qdm {du:List Bool} {F:List Nat} {k:Nat}:∀{i},i<=F.length->((sdI du F i)[k]? =some true↔du[k]? =some true\/k<du.length/\∃j,j<i/\F[j]? =some k)
 |0,_=>by simp [sdI]
 |i+1,hi=>by
  have ih:=qdm (du:=du) (F:=F) (k:=k) (i:=i) zo;have hl:=vkw du F i;obtain ⟨x,hx⟩:∃x,F[i]? =some x:=⟨_,Ad zo⟩
  have e:sdI du F (i+1)=(sdI du F i).set x true:=by
   conv=>lhs;unfold sdI
   rw [hx]
  rw [e,Ai];by_cases c:x=k
  ·subst c;rw [if_pos rfl];by_cases c2:x<(sdI du F i).length
   ·rw [if_pos c2];exact ⟨λ_=> .inr ⟨zo,i,zo,hx⟩,λ_=>rfl⟩
   ·rw [if_neg c2];constructor
    ·intro h;cases h
    ·rintro (h|⟨h,_⟩)
     ·have:=(Ac.1 h).1;omega
     ·omega
  ·rw [if_neg c,ih];constructor
   ·rintro (h|⟨h1,j,h2,h3⟩)
    ·exact .inl h
    ·exact .inr ⟨h1,j,zo,h3⟩
   ·rintro (h|⟨h1,j,h2,h3⟩)
    ·exact .inl h
    ·by_cases e:j=i
     ·subst e;rw [hx] at h3;cases h3;exact absurd rfl c
     ·exact .inr ⟨h1,j,zo,h3⟩
theorem vuu {ts:List ByteArray} {B:Nat} {w:Wd} (I:Wok ts B w) (hT:Ty23 ts) {k:Nat}:(comD ts w)[k]? =some true↔k∈found ts (gCm w):=by
 have hdu:=I.du;rw [show comD ts w=sdI w.du (found ts (gCm w)) (found ts (gCm w)).length from rfl,qdm (A5 _)];constructor
 ·rintro (h|⟨_,j,_,h⟩)
  ·have:=vl4 (vnh I hT) (v:=(k:Int)+1) (Ag.2 (.inr (vur.2 ⟨k,(Ac.1 h).1,h,rfl⟩))) zo
   rwa [show ((k:Int)+1-1).toNat=k by omega] at this
  ·exact Ae h
 ·intro h;obtain ⟨i,hi⟩:=A6.1 h;have:=qh1 h;exact .inr ⟨by rw [hdu];exact this,i,(Ac.1 hi).1,hi⟩
structure SpI (ts:List ByteArray) (w:Wd) (D:List Bool) (P:List Int):Prop where
 l:D.length=w.ob.length
 up:∀k:Nat,w.du[k]? =some true->D[k]? =some true
 so:∀k:Nat,D[k]? =some true->k∈found ts (gCm w)
 sp:∀x∈P,0<x->(x-1).toNat∈found ts (gCm w)
 cs:∀v∈w.sl,0<v->D[(v-1).toNat]? =some true\/v∈P
 cn:∀k:Nat,D[k]? =some true->∀v∈nmW ts w.ob k,0<v->D[(v-1).toNat]? =some true\/v∈P
theorem SpI.start {ts:List ByteArray} {B:Nat} {w:Wd} (I:Wok ts B w) (hT:Ty23 ts):SpI ts w w.du (spE ts w w.ob.length):=by
 have R:=vnh I hT;have hdf:∀k:Nat,w.du[k]? =some true->k∈found ts (gCm w):=λk h=>by
  have:=vl4 R (v:=(k:Int)+1) (Ag.2 (.inr (vur.2 ⟨k,(Ac.1 h).1,h,rfl⟩))) zo
  rwa [show ((k:Int)+1-1).toNat=k by omega] at this
 refine ⟨I.du,λ_ h=>h,hdf,λx hx h0=> ?_,λv hv _=> .inr (vuo.2 (.inl hv)),λk hk v hv _=> .inr (vuo.2 (.inr ⟨k,by have:=(Ac.1 hk).1;have:=I.du;omega,hk,hv⟩))⟩;rcases vuo.1 hx with h|⟨k,_,h2,h3⟩
 ·exact vl4 R (Ag.2 (.inl h)) h0
 ·exact vqn R (hdf k h2) (vus.1 h3) h0
theorem SpI.skip {ts:List ByteArray} {w:Wd} {D:List Bool} {x:Int} {P:List Int} (h:SpI ts w D (x::P)) (hx:x<=0\/D[(x-1).toNat]? =some true):SpI ts w D P:=by
 have f:∀v:Int,0<v->(D[(v-1).toNat]? =some true\/v∈x::P)->D[(v-1).toNat]? =some true\/v∈P:=λv h0 hv=>by
  rcases hv with hv|hv
  ·exact .inl hv
  ·rcases A7.1 hv with rfl|hv
   ·rcases hx with hx|hx
    ·omega
    ·exact .inl hx
   ·exact .inr hv
 exact ⟨h.l,h.up,h.so,λy hy=>h.sp y (Ao _ hy),λv hv h0=>f v h0 (h.cs v hv h0),λk hk v hv h0=>f v h0 (h.cn k hk v hv h0)⟩
theorem SpI.step {ts:List ByteArray} {B:Nat} {w:Wd} (I:Wok ts B w) (hT:Ty23 ts) {D:List Bool} {m:Nat} {P:List Int} (h:SpI ts w D (((m:Int)+1)::P)) (hm:m<D.length):SpI ts w (D.set m true) (P++nmW ts w.ob m):=by
 have R:=vnh I hT;have hf:m∈found ts (gCm w):=by
  have:=h.sp ((m:Int)+1) Ax zo
  rwa [show ((m:Int)+1-1).toNat=m by omega] at this
 have g:∀{k:Nat},D[k]? =some true->(D.set m true)[k]? =some true:=λ{k} hk=>by
  rw [Ai];split
  ·rfl
  ·exact hk
 have f:∀v:Int,0<v->(D[(v-1).toNat]? =some true\/v∈((m:Int)+1)::P)->(D.set m true)[(v-1).toNat]? =some true\/v∈P++nmW ts w.ob m:=λv h0 hv=>by
  rcases hv with hv|hv
  ·exact .inl (g hv)
  ·rcases A7.1 hv with rfl|hv
   ·exact .inl (by rw [show ((m:Int)+1-1).toNat=m by omega,Ai,if_pos rfl,if_pos hm])
   ·exact .inr (Ag.2 (.inl hv))
 have sp':∀{k:Nat},(D.set m true)[k]? =some true->k=m\/D[k]? =some true:=λ{k} hk=>by
  rw [Ai] at hk;split at hk
  ·rename_i e;exact .inl e.symm
  ·exact .inr hk
 refine ⟨by rw [List.length_set];exact h.l,λk hk=>g (h.up k hk),λk hk=> ?_,λy hy h0=> ?_,λv hv h0=>f v h0 (h.cs v hv h0),λk hk v hv h0=> ?_⟩
 ·rcases sp' hk with rfl|hk
  ·exact hf
  ·exact h.so k hk
 ·rcases Ag.1 hy with hy|hy
  ·exact h.sp y (Ao _ hy) h0
  ·exact vqn R hf (vus.1 hy) h0
 ·rcases sp' hk with rfl|hk
  ·exact .inr (Ag.2 (.inr hv))
  ·exact f v h0 (h.cn k hk v hv h0)
theorem qof {a b:List Bool} (hl:a.length=b.length) (h:∀k:Nat,a[k]? =some true↔b[k]? =some true):a=b:=by
 refine Ba λk=> ?_;by_cases c:k<a.length
 ·obtain ⟨x,hx⟩:∃x,a[k]? =some x:=⟨_,Ad c⟩
  obtain ⟨y,hy⟩:∃y,b[k]? =some y:=⟨_,Ad zo⟩
  have:=h k;rw [hx,hy] at this⊢;cases x<;>cases y<;>simp_all
 ·rw [Am zo,Am zo]
theorem SpI.done {ts:List ByteArray} {B:Nat} {w:Wd} (I:Wok ts B w) (hT:Ty23 ts) {D:List Bool} (h:SpI ts w D []):D=comD ts w:=by
 refine qof ?_ λk=> ?_
 ·rw [h.l,show (comD ts w).length=w.du.length from vkw _ _ _,I.du]
 ·rw [vuu I hT];refine ⟨h.so k,λhk=> ?_⟩;refine vyv (P:=λk=>D[k]? =some true) (λv hv h0=> ?_) (λk hk v hv h0=> ?_) k hk
  ·rcases Ag.1 hv with hv|hv
   ·rcases h.cs v hv h0 with h1|h1
    ·exact h1
    ·cases h1
   ·obtain ⟨k,_,h2,h3⟩:=vur.1 hv;rw [h3,show ((k:Int)+1-1).toNat=k by omega];exact h.up k h2
  ·rcases h.cn k hk v (vus.2 hv) h0 with h1|h1
   ·exact h1
   ·cases h1
abbrev nSp (ts:List ByteArray) (w:Wd) (D:List Bool) (E:List Int):vcb:= [(0,some (.bx false [.sz vam (List.map eStr ts),.rf 2,.rf 3,.rf 4,.rf 5,.a (.bool w.inR),.a (.bool w.dm),.rf 6,.rf 7])),(1,some (.sl false 0 vae (E.map vak))),(2,some (.sl true 0 vai (w.ob.map eObj))),(3,some (.sl true 0 vb3 (D.map eBl))),(4,some (.sl true 0 vae (w.sl.map vak))),(5,some (.sl true 0 vae (w.hd.map vak))),(6,some (.sl true 0 vai (w.wa.map eObj))),(7,some (.sl true 0 vae (w.he.map vak)))]
theorem qe8 {d:Nat} {ts:List ByteArray} {B:Nat} {w:Wd} (I:Wok ts B w) (hT:Ty23 ts):
  vbt (T (d+2)) vad [0,2,3,10000] vfi ⟨[(0,.rf 0),(2,.rf 1),(3,.a (.int .i64 (0:Nat))),(10000,.rf 0)],nSp ts w w.du (spE ts w 0),8⟩=some (.ext 0,⟨[(0,.rf 0),(2,.rf 1),(3,.a (.int .i64 (w.ob.length:Nat))),(17,.a (.bool false)),(10000,.rf 0)],nSp ts w w.du (spE ts w w.ob.length),708⟩):=by
 have hbb:=I.bb;have hb:=I.b;have hdul:=I.du;refine vcj (m:=w.ob.length) (λi=>⟨[(0,.rf 0),(2,.rf 1),(3,.a (.int .i64 (i:Nat))),(10000,.rf 0)],nSp ts w w.du (spE ts w i),8⟩) _ (vbc zo) (λi hi=> ?_) ?_
 ·have hw:=va0 i zo;have hlt:(i:Int)<w.ob.length:=zo
  obtain ⟨u,hu⟩:∃b,w.du[i]? =some b:=⟨_,Ad zo⟩
  have h1:i<w.du.length:=zo
  obtain ⟨hE,hEl⟩:=qa7 I hT i zo;have hstep:spE ts w (i+1)=if u=true then spE ts w i++nmW ts w.ob i else spE ts w i:=by
   conv=>lhs;unfold spE
   rw [hu];cases u<;>simp
  rw [hstep];cases u with
  |false=>
   rw [if_neg (by simp)];clear I hstep;generalize spE ts w i=E at *;obtain ⟨ob,du,sl,hs,ir,dm,wa,he⟩:=w;dsimp only at *;unfold round nSp vfi;dsimp only at *;simp -implicitDefEqProofs (disch:=try exact zd) only [go_sem,Aa,Ab,hu,hw,hlt]
   (show some _=some _;kernel_rfl)
  |true=>
   rw [if_pos rfl];have h2:=vwy (d:=d) I hT (m:=i) zo w.du;obtain ⟨_,hl⟩:=vvv I hT (m:=i) zo;clear I hstep;generalize spE ts w i=E at *;generalize nmW ts w.ob i=out at *;have z1:(E.map vak).length<=100000:=by rw [Ap];omega
   have z2:(out.map vak).length<=100000:=by rw [Ap];omega
   obtain ⟨ob,du,sl,hs,ir,dm,wa,he⟩:=w;dsimp only [cWf] at *;unfold round nSp vfi;dsimp only at *;rw [Bc];simp -implicitDefEqProofs (disch:=try exact zd) only [go_sem,Aa,Ab,hu,hw,hlt,h2]
   (show some _=some _;kernel_rfl)
 ·have hlt:¬((w.ob.length:Nat):Int)<w.ob.length:=zo
  clear I;generalize spE ts w w.ob.length=E at *;obtain ⟨ob,du,sl,hs,ir,dm,wa,he⟩:=w;dsimp only at *;unfold round nSp vfi;simp -implicitDefEqProofs (disch:=try exact zd) only [go_sem,Aa,Ab,hlt]
def cnF:List Bool->Nat
 | []=>0
 |b::l=>(if b=true then 0 else 1)+cnF l
theorem qa8:∀l:List Bool,cnF l<=l.length
 | []=>by simp [cnF]
 |b::l=>by have:=qa8 l;unfold cnF;rw [List.length_cons];split<;>omega
theorem qej:∀{l:List Bool} {m:Nat},l[m]? =some false->cnF (l.set m true)+1=cnF l
 |b::l,0,h=>by simp at h;subst h;simp [cnF];omega
 |b::l,m+1,h=>by
  have:=qej (l:=l) (m:=m) (by simpa using h);rw [List.set_cons_succ];unfold cnF;omega
def Part (E:List Int) (lo:Nat) (t:TV):Prop:=lo<=E.length/\((t= .rf 1/\lo=0)\/t= .sb 1 lo (E.length-lo))
abbrev SpL (ts:List ByteArray) (w:Wd) (D:List Bool) (E:List Int) (lo:Nat) (tv:TV) (r:Nat):Prop:=SpI ts w D (E.drop lo)/\Rin w.ob.length E/\Part E lo tv/\E.length<=100000/\(E.length-lo)+24 * cnF D<=r
theorem qft {d:Nat} {ts:List ByteArray} {B:Nat} {w:Wd} (I:Wok ts B w) (hT:Ty23 ts):∃e,(∃(E:List Int) (tv:TV),Part E E.length tv/\e=⟨[(0,.rf 0),(2,tv),(34,.a (.bool false)),(10000,.rf 0)],nSp ts w (comD ts w) E,308⟩)/\
  vbt (T (d+2)) vad [0,2,10000] vdq ⟨[(0,.rf 0),(2,.rf 1),(10000,.rf 0)],nSp ts w w.du (spE ts w w.ob.length),8⟩=some (.ext 2,e):=by
 have hbb:=I.bb;have hb:=I.b;have hcn:=qa8 w.du;have hdul:=I.du;obtain ⟨hE0,hE1⟩:=qa7 I hT w.ob.length (A5 _);refine ve5 (λr s=>∃(D:List Bool) (E:List Int) (lo:Nat) (tv:TV),SpL ts w D E lo tv r/\s=⟨[(0,.rf 0),(2,tv),(10000,.rf 0)],nSp ts w D E,8⟩) 2 _ (m:=100000) (vbc zo) ⟨w.du,spE ts w w.ob.length,0,.rf 1,⟨.start I hT,hE0,⟨zo,.inl ⟨rfl,rfl⟩⟩,zo,zo⟩,rfl⟩ ?_
 rintro r _ hr ⟨D,E,lo,tv,⟨J,hE,⟨hlo,hP⟩,hEl,hm⟩,rfl⟩
 have hDl:=J.l;have n0:A9 0=0:=rfl;have n1:A9 1=1:=rfl;have zE:(List.take (E.length-lo) (Bf lo (E.map vak))).length=E.length-lo:=by simp
 have e0:IntKind.i64.wrap (0-1)= -1:=by rw [vau]<;>omega
 have e9:(-1:Int)<0:=zo
 by_cases hlt:lo<E.length
 ·left;obtain ⟨x,hx⟩:∃b,E[lo]? =some b:=⟨_,Ad hlt⟩
  have hdr:E.drop lo=x::E.drop (lo+1):=by
   rw [List.drop_eq_getElem_cons hlt];rw [Ad hlt] at hx;cases hx;rfl
  rw [hdr] at J;have hxr:=hE.get hx;have hgt:((E.length-lo:Nat):Int)>0:=zo
  have s1:(((E.length-lo:Nat):Int)-1).toNat=E.length-(lo+1):=zo
  have s2:((E.length:Int)-1).toNat=E.length-(0+1):=zo
  have hz:∃(D':List Bool) (E':List Int) (lo':Nat) (tv':TV),SpL ts w D' E' lo' tv' (r-1)/\round (T (d+2)) vad [0,2,10000] vdq ⟨[(0,.rf 0),(2,tv),(10000,.rf 0)],nSp ts w D E,8⟩=some (.nrm,⟨[(0,.rf 0),(2,tv'),(10000,.rf 0)],nSp ts w D' E',8⟩):=by
   by_cases x0:x=0
   ·subst x0;refine ⟨D,E,lo+1,.sb 1 (lo+1) (E.length-(lo+1)),⟨J.skip (.inl zo),hE,⟨zo,.inr rfl⟩,hEl,zo⟩,?_⟩;clear I J hdr;obtain ⟨ob,du,sl,hs,ir,dm,wa,he⟩:=w;unfold round nSp vdq;dsimp only at *;rcases hP with ⟨rfl,rfl⟩|rfl
    ·have hgt':(E.length:Int)>0:=zo
     simp -implicitDefEqProofs (disch:=try exact zd) only [go_sem,Aa,Ab,n0,n1,hx,hgt',e0,s2,At]
     (show some _=some _;kernel_rfl)
    ·simp -implicitDefEqProofs (disch:=try exact zd) only [go_sem,Aa,Ab,zE,n0,n1,hx,hgt,e0,s1,Ar]
     (show some _=some _;kernel_rfl)
   ·obtain ⟨m,rfl⟩:∃m:Nat,x=(m:Int)+1:=⟨(x-1).toNat,zo⟩
    have e1:IntKind.i64.wrap ((m:Int)+1-1)=(m:Nat):=by rw [vau]<;>omega
    have hmn:¬((m:Nat):Int)<0:=zo
    have hmD:m<D.length:=zo
    obtain ⟨u,hu⟩:∃b,D[m]? =some b:=⟨_,Ad hmD⟩
    cases u with
    |true=>
     refine ⟨D,E,lo+1,.sb 1 (lo+1) (E.length-(lo+1)),⟨J.skip (.inr (by rw [show ((m:Int)+1-1).toNat=m by omega];exact hu)),hE,⟨zo,.inr rfl⟩,hEl,zo⟩,?_⟩;clear I J hdr;obtain ⟨ob,du,sl,hs,ir,dm,wa,he⟩:=w;unfold round nSp vdq;dsimp only at *;rcases hP with ⟨rfl,rfl⟩|rfl
     ·have hgt':(E.length:Int)>0:=zo
      simp -implicitDefEqProofs (disch:=try exact zd) only [go_sem,Aa,Ab,n0,n1,hx,hgt',e1,hmn,hu,s2,At]
      (show some _=some _;kernel_rfl)
     ·simp -implicitDefEqProofs (disch:=try exact zd) only [go_sem,Aa,Ab,zE,n0,n1,hx,hgt,e1,hmn,hu,s1,Ar]
      (show some _=some _;kernel_rfl)
    |false=>
     have hc:=qej hu;have h2:=vwy (d:=d) I hT (m:=m) zo (D.set m true);obtain ⟨hR,hl⟩:=vvv I hT (m:=m) zo;have J':=J.step I hT hmD;have hcl:=qa8 D;refine ⟨D.set m true,E.drop (lo+1)++nmW ts w.ob m,0,.rf 1,⟨J',(hE.drop _).app hR,⟨zo,.inl ⟨rfl,rfl⟩⟩,by rw [Aq,A2];omega,by rw [Aq,A2];omega⟩,?_⟩;clear J' hR hdr;generalize nmW ts w.ob m=out at *;have z1:((E.map vak).drop (lo+1)).length<=100000:=by rw [A2,Ap];omega
     have z2:(out.map vak).length<=100000:=by rw [Ap];omega
     have hlo1:lo+1<=E.length:=hlt;have hds:(D.map eBl).set m (.a (.bool true))=(D.set m true).map eBl:=(List.map_set (f:=eBl)).symm;clear I J;obtain ⟨ob,du,sl,hs,ir,dm,wa,he⟩:=w;dsimp only [cWf] at *;unfold round nSp vdq;dsimp only at *;rw [Bc,List.map_drop];rcases hP with ⟨rfl,rfl⟩|rfl
     ·have hgt':(E.length:Int)>0:=zo
      have z1':(Bf 1 (E.map vak)).length<=100000:=z1;simp -implicitDefEqProofs (disch:=try exact zd) only [go_sem,Aa,Ab,n0,n1,hx,hgt',e1,hmn,hu,hds,s2,At,h2]
      (show some _=some _;kernel_rfl)
     ·simp -implicitDefEqProofs (disch:=try exact zd) only [go_sem,Aa,Ab,zE,n0,n1,hx,hgt,e1,hmn,hu,hds,s1,Ar,h2]
      (show some _=some _;kernel_rfl)
  obtain ⟨D',E',lo',tv',h1,h6⟩:=hz;have h2:0<r:=zo
  exact ⟨h2,_,h6,D',E',lo',tv',h1,rfl⟩
 ·right;obtain rfl:lo=E.length:=zo
  have hle:¬((E.length-E.length:Nat):Int)>0:=zo
  rw [List.drop_length] at J;rw [<-J.done I hT];refine ⟨_,?_,E,tv,⟨zo,hP⟩,rfl⟩;clear I J;obtain ⟨ob,du,sl,hs,ir,dm,wa,he⟩:=w;unfold round nSp vdq;dsimp only at *;rcases hP with ⟨rfl,h0⟩|rfl
  ·have hle':¬((E.length:Nat):Int)>0:=zo
   simp -implicitDefEqProofs (disch:=try exact zd) only [go_sem,Aa,Ab,hle']
  ·simp -implicitDefEqProofs (disch:=try exact zd) only [go_sem,Aa,Ab,zE,hle]
theorem qpj {d:Nat} {ts:List ByteArray} {B:Nat} {w:Wd} (I:Wok ts B w) (hT:Ty23 ts):vag (T (d+2)) vad vfg [cWf false ts w]=some ([],[cWf false ts {w with du:=comD ts w}]):=by
 have k0:=qe8 (d:=d) I hT;obtain ⟨_,⟨E,tv,⟨_,hP⟩,rfl⟩,k1⟩:=qft (d:=d) I hT;have z1:w.sl.length<=100000:=by rw [I.sl];omega
 clear I;rw [show spE ts w 0=w.sl from rfl] at k0;generalize spE ts w w.ob.length=E0 at *;generalize comD ts w=D at *;rw [vab rfl];obtain ⟨ob,du,sl,hs,ir,dm,wa,he⟩:=w;unfold nSp at k0 k1;dsimp only [cWf] at *;rcases hP with ⟨rfl,h0⟩|rfl
 ·simp -implicitDefEqProofs (disch:=try exact zd) only [go_sem,Aa,Ab,vfg,vkk,A4,vaw k0,vaw k1]
 ·simp -implicitDefEqProofs (disch:=try exact zd) only [go_sem,Aa,Ab,vfg,vkk,A4,vaw k0,vaw k1]
theorem qoi {d:Nat} {ts:List ByteArray} {B:Nat} {w:Wd} (I:Wok ts B w) (x:Act') (hk:x.kind=10) (hi:w.inR=true):rOf (d+3) vaq ts w x 6 0 w:=by
 clear I;unfold rOf;obtain ⟨xk,xa,xb,xc,xp,xq⟩:=x;obtain ⟨ob,du,sl,hd,ir,dm,wa,he⟩:=w;dsimp only at *;subst hk hi;rw [vab rfl];simp -implicitDefEqProofs (disch:=try exact zd) only [go_sem,Aa,Ab,vaq,vbj,cWf]
theorem qr1 {d:Nat} {ts:List ByteArray} {B:Nat} {w:Wd} (I:Wok ts B w) (hT:Ty23 ts) (x:Act') (hk:x.kind=10) (hi:w.inR=false):rOf (d+3) vaq ts w x 0 0 {w with inR:=true,wa:=w.ob,he:=w.sl}:=by
 have hb:w.ob.length<=1048576:=by have:=I.b;have:=I.bb;omega
 have hv:∀o∈w.ob,o.vals.length<=1048576:=λo ho=>by
  obtain ⟨s,g1,_,g3,_⟩:=I.ob o ho;have:=hT.z s (Ae g1);omega
 have t1:=qos (Φ:=T (d+2)) w.ob hb hv;have hs:(w.sl.map vak).length=8:=by rw [Ap];exact I.sl
 have hs2:=I.sl;clear I;unfold rOf;obtain ⟨xk,xa,xb,xc,xp,xq⟩:=x;obtain ⟨ob,du,sl,hd,ir,dm,wa,he⟩:=w;dsimp only at *;subst hk hi;rw [vab rfl];simp -implicitDefEqProofs (disch:=try exact zd) only [go_sem,Aa,Ab,vaq,vbj,cWf,t1,A4]
theorem ql6 {d:Nat} {ts:List ByteArray} {B:Nat} {w:Wd} (I:Wok ts B w) (x:Act') (hk:x.kind=11) (c:¬(0<=x.a/\x.a<=7)):rOf (d+3) vaq ts w x 8 0 w:=by
 have t1:=vcy (Φ:=T (d+2)) (N:=vad) (n:=x.a) (lo:=0) (hi:=7);rw [decide_eq_false c] at t1;clear I;unfold rOf;obtain ⟨xk,xa,xb,xc,xp,xq⟩:=x;obtain ⟨ob,du,sl,hd,ir,dm,wa,he⟩:=w;dsimp only at *;subst hk;rw [vab rfl];simp -implicitDefEqProofs (disch:=try exact zd) only [go_sem,Aa,Ab,vaq,vbj,cWf,t1]
theorem qor {d:Nat} {ts:List ByteArray} {B:Nat} {w:Wd} (I:Wok ts B w) (x:Act') (hk:x.kind=12) (c:¬(0<=x.a/\x.a<=7)):rOf (d+3) vaq ts w x 8 0 w:=by
 have t1:=vcy (Φ:=T (d+2)) (N:=vad) (n:=x.a) (lo:=0) (hi:=7);rw [decide_eq_false c] at t1;clear I;unfold rOf;obtain ⟨xk,xa,xb,xc,xp,xq⟩:=x;obtain ⟨ob,du,sl,hd,ir,dm,wa,he⟩:=w;dsimp only at *;subst hk;rw [vab rfl];simp -implicitDefEqProofs (disch:=try exact zd) only [go_sem,Aa,Ab,vaq,vbj,cWf,t1]
theorem qmg {d:Nat} {ts:List ByteArray} {B:Nat} {w:Wd} (I:Wok ts B w) (x:Act') (hk:x.kind=12) {n:Nat} (hn:x.a=(n:Nat)) {v:Int} (hv:w.sl[n]? =some v) (hz:v=0):rOf (d+3) vaq ts w x 0 (-1) w:=by
 have t1:=vcy (Φ:=T (d+2)) (N:=vad) (n:=x.a) (lo:=0) (hi:=7);have hsl:=I.sl;have l1:=(Ac.1 hv).1;rw [decide_eq_true zo] at t1;have hl:=I.hd;have t2:=qig (d:=d) (ts:=ts) (w:=w);subst hz;clear I;unfold rOf;obtain ⟨xk,xa,xb,xc,xp,xq⟩:=x;obtain ⟨ob,du,sl,hd,ir,dm,wa,he⟩:=w;dsimp only at *;subst hk hn;rw [vab rfl];simp -implicitDefEqProofs (disch:=try exact zd) only [go_sem,Aa,Ab,vaq,vbj,cWf,t1,hv,t2]
theorem qmh {d:Nat} {ts:List ByteArray} {B:Nat} {w:Wd} (I:Wok ts B w) (x:Act') (hk:x.kind=12) {n:Nat} (hn:x.a=(n:Nat)) {v:Int} (hv:w.sl[n]? =some v) (hz:v≠0) (hf:plc0 w.hd<0):rOf (d+3) vaq ts w x 9 0 w:=by
 have t1:=vcy (Φ:=T (d+2)) (N:=vad) (n:=x.a) (lo:=0) (hi:=7);have hsl:=I.sl;have l1:=(Ac.1 hv).1;rw [decide_eq_true zo] at t1;have hl:=I.hd;have t2:=qhk (d:=d) (ts:=ts) hl hz hf;clear I;unfold rOf;obtain ⟨xk,xa,xb,xc,xp,xq⟩:=x;obtain ⟨ob,du,sl,hd,ir,dm,wa,he⟩:=w;dsimp only at *;subst hk hn;rw [vab rfl];simp -implicitDefEqProofs (disch:=try exact zd) only [go_sem,Aa,Ab,vaq,vbj,cWf,t1,hv,t2]
theorem qqz {d:Nat} {ts:List ByteArray} {B:Nat} {w:Wd} (I:Wok ts B w) (x:Act') (hk:x.kind=12) {n:Nat} (hn:x.a=(n:Nat)) {v:Int} (hv:w.sl[n]? =some v) (hz:v≠0) (hf:¬plc0 w.hd<0):rOf (d+3) vaq ts w x 0 (plc0 w.hd) {w with hd:=w.hd.set (plc0 w.hd).toNat v}:=by
 have t1:=vcy (Φ:=T (d+2)) (N:=vad) (n:=x.a) (lo:=0) (hi:=7);have hsl:=I.sl;have l1:=(Ac.1 hv).1;rw [decide_eq_true zo] at t1;have hl:=I.hd;have t2:=qov (d:=d) (ts:=ts) hl hz hf;generalize plc0 w.hd=p at *;clear I;unfold rOf;obtain ⟨xk,xa,xb,xc,xp,xq⟩:=x;obtain ⟨ob,du,sl,hd,ir,dm,wa,he⟩:=w;dsimp only at *;subst hk hn;rw [vab rfl];simp -implicitDefEqProofs (disch:=try exact zd) only [go_sem,Aa,Ab,vaq,vbj,cWf,t1,hv,t2]
theorem qls {d:Nat} {ts:List ByteArray} {B:Nat} {w:Wd} (I:Wok ts B w) (x:Act') (hk:x.kind=11) {n:Nat} (hn:x.a=(n:Nat)) {v:Int} (hv:w.sl[n]? =some v) (hb:x.b≠-1) (hu:usedW w x.b=false):rOf (d+3) vaq ts w x 2 0 w:=by
 have t1:=vcy (Φ:=T (d+2)) (N:=vad) (n:=x.a) (lo:=0) (hi:=7);have hsl:=I.sl;have l1:=(Ac.1 hv).1;rw [decide_eq_true zo] at t1;have hl:=I.hd;have t2:=veb (d:=d+1) I x.b;rw [hu] at t2;clear I;unfold rOf;obtain ⟨xk,xa,xb,xc,xp,xq⟩:=x;obtain ⟨ob,du,sl,hd,ir,dm,wa,he⟩:=w;dsimp only at *;subst hk hn;rw [vab rfl];simp -implicitDefEqProofs (disch:=try exact zd) only [go_sem,Aa,Ab,vaq,vbj,cWf,t1,hb,t2]
theorem qki {d:Nat} {ts:List ByteArray} {B:Nat} {w:Wd} (I:Wok ts B w) (x:Act') (hk:x.kind=11) {n:Nat} (hn:x.a=(n:Nat)) {v:Int} (hv:w.sl[n]? =some v) (hi:w.inR=false) (hb:x.b= -1):rOf (d+3) vaq ts w x 6 0 w:=by
 have t1:=vcy (Φ:=T (d+2)) (N:=vad) (n:=x.a) (lo:=0) (hi:=7);have hsl:=I.sl;have l1:=(Ac.1 hv).1;rw [decide_eq_true zo] at t1;have hl:=I.hd;clear I;unfold rOf;obtain ⟨xk,xa,xb,xc,xp,xq⟩:=x;obtain ⟨ob,du,sl,hd,ir,dm,wa,he⟩:=w;dsimp only at *;subst hk hn hi hb;rw [vab rfl];simp -implicitDefEqProofs (disch:=try exact zd) only [go_sem,Aa,Ab,vaq,vbj,cWf,t1]
theorem qkr {d:Nat} {ts:List ByteArray} {B:Nat} {w:Wd} (I:Wok ts B w) (x:Act') (hk:x.kind=11) {n:Nat} (hn:x.a=(n:Nat)) {v:Int} (hv:w.sl[n]? =some v) (hi:w.inR=false) (hb:x.b≠-1) (hu:usedW w x.b=true):rOf (d+3) vaq ts w x 6 0 w:=by
 have t1:=vcy (Φ:=T (d+2)) (N:=vad) (n:=x.a) (lo:=0) (hi:=7);have hsl:=I.sl;have l1:=(Ac.1 hv).1;rw [decide_eq_true zo] at t1;have hl:=I.hd;have t2:=veb (d:=d+1) I x.b;rw [hu] at t2;clear I;unfold rOf;obtain ⟨xk,xa,xb,xc,xp,xq⟩:=x;obtain ⟨ob,du,sl,hd,ir,dm,wa,he⟩:=w;dsimp only at *;subst hk hn hi;rw [vab rfl];simp -implicitDefEqProofs (disch:=try exact zd) only [go_sem,Aa,Ab,vaq,vbj,cWf,t1,hb,t2]
theorem qnz {d:Nat} {ts:List ByteArray} {B:Nat} {w:Wd} (I:Wok ts B w) (x:Act') (hk:x.kind=11) {n:Nat} (hn:x.a=(n:Nat)) {v:Int} (hv:w.sl[n]? =some v) (hi:w.inR=true) (hc:x.b<=11) (hb:x.b= -1):rOf (d+3) vaq ts w x 0 0 {w with sl:=w.sl.set n (refW w x.b)}:=by
 have t1:=vcy (Φ:=T (d+2)) (N:=vad) (n:=x.a) (lo:=0) (hi:=7);have hsl:=I.sl;have l1:=(Ac.1 hv).1;rw [decide_eq_true zo] at t1;have hl:=I.hd;have t3:=qna (d:=d+2) (ts:=ts) hl x.b hc;generalize refW w x.b=r at *;clear I;unfold rOf;obtain ⟨xk,xa,xb,xc,xp,xq⟩:=x;obtain ⟨ob,du,sl,hd,ir,dm,wa,he⟩:=w;dsimp only at *;subst hk hn hi hb;rw [vab rfl];simp -implicitDefEqProofs (disch:=try exact zd) only [go_sem,Aa,Ab,vaq,vbj,cWf,t1,hv,t3]
theorem qnd {d:Nat} {ts:List ByteArray} {B:Nat} {w:Wd} (I:Wok ts B w) (x:Act') (hk:x.kind=11) {n:Nat} (hn:x.a=(n:Nat)) {v:Int} (hv:w.sl[n]? =some v) (hi:w.inR=true) (hc:x.b<=11) (hb:x.b≠-1) (hu:usedW w x.b=true):rOf (d+3) vaq ts w x 0 0 {w with sl:=w.sl.set n (refW w x.b)}:=by
 have t1:=vcy (Φ:=T (d+2)) (N:=vad) (n:=x.a) (lo:=0) (hi:=7);have hsl:=I.sl;have l1:=(Ac.1 hv).1;rw [decide_eq_true zo] at t1;have hl:=I.hd;have t3:=qna (d:=d+2) (ts:=ts) hl x.b hc;generalize refW w x.b=r at *;have t2:=veb (d:=d+1) I x.b;rw [hu] at t2;clear I;unfold rOf;obtain ⟨xk,xa,xb,xc,xp,xq⟩:=x;obtain ⟨ob,du,sl,hd,ir,dm,wa,he⟩:=w;dsimp only at *;subst hk hn hi;rw [vab rfl];simp -implicitDefEqProofs (disch:=try exact zd) only [go_sem,Aa,Ab,vaq,vbj,cWf,t1,hv,t3,hb,t2]
theorem qnf {d:Nat} {ts:List ByteArray} {B:Nat} {w:Wd} (I:Wok ts B w) (x:Act') (hk:x.kind=13) (hi:w.inR=false):rOf (d+3) vaq ts w x 6 0 w:=by
 clear I;unfold rOf;obtain ⟨xk,xa,xb,xc,xp,xq⟩:=x;obtain ⟨ob,du,sl,hd,ir,dm,wa,he⟩:=w;dsimp only at *;subst hk hi;rw [vab rfl];simp -implicitDefEqProofs (disch:=try exact zd) only [go_sem,Aa,Ab,vaq,vbj,cWf]
theorem qn3 {d:Nat} {ts:List ByteArray} {B:Nat} {w:Wd} (I:Wok ts B w) (x:Act') (hk:x.kind=14) (hi:w.inR=false):rOf (d+3) vaq ts w x 6 0 w:=by
 clear I;unfold rOf;obtain ⟨xk,xa,xb,xc,xp,xq⟩:=x;obtain ⟨ob,du,sl,hd,ir,dm,wa,he⟩:=w;dsimp only at *;subst hk hi;rw [vab rfl];simp -implicitDefEqProofs (disch:=try exact zd) only [go_sem,Aa,Ab,vaq,vbj,cWf]
theorem qro {d:Nat} {ts:List ByteArray} {B:Nat} {w:Wd} (I:Wok ts B w) (hT:Ty23 ts) (x:Act') (hk:x.kind=13) (hi:w.inR=true):rOf (d+3) vaq ts w x 0 0 ⟨w.ob,comD ts w,w.sl,w.hd,false,false,[],[]⟩:=by
 have t1:=qpj (d:=d) I hT;have t2:=qxu (d:=d+2) (ts:=ts) (w:={w with du:=comD ts w});generalize comD ts w=D at *;clear I;unfold rOf;obtain ⟨xk,xa,xb,xc,xp,xq⟩:=x;obtain ⟨ob,du,sl,hd,ir,dm,wa,he⟩:=w;dsimp only at *;subst hk hi;rw [vab rfl];simp -implicitDefEqProofs (disch:=try exact zd) only [go_sem,Aa,Ab,vaq,vbj,cWf,t1,t2]
theorem qsd {d:Nat} {ts:List ByteArray} {B:Nat} {w:Wd} (I:Wok ts B w) (x:Act') (hk:x.kind=14) (hi:w.inR=true):rOf (d+3) vaq ts w x 0 0 ⟨backO w,w.du,w.he,w.hd,false,false,[],[]⟩:=by
 have t1:=qox (d:=d+1) (ts:=ts) (w:=w) (by have:=I.b;have:=I.bb;omega) I.du I.wal;generalize backO w=O at *;clear I;unfold rOf;obtain ⟨xk,xa,xb,xc,xp,xq⟩:=x;obtain ⟨ob,du,sl,hd,ir,dm,wa,he⟩:=w;dsimp only at *;subst hk hi;rw [vab rfl];simp -implicitDefEqProofs (disch:=try exact zd) only [go_sem,Aa,Ab,vaq,vbj,cWf,t1]
theorem vj3 {d:Nat} {n lo hi:Int} (c:lo<=n/\n<=hi):vag (T d) vad vgl [.a (.int .i64 n),.a (.int .i64 lo),.a (.int .i64 hi)]=some ([.a (.bool true)],[]):=by
 have h:=vcy (Φ:=T d) (N:=vad) (n:=n) (lo:=lo) (hi:=hi);rw [decide_eq_true c] at h;exact h
theorem vhr {d:Nat} {n lo hi:Int} (c:¬(lo<=n/\n<=hi)):vag (T d) vad vgl [.a (.int .i64 n),.a (.int .i64 lo),.a (.int .i64 hi)]=some ([.a (.bool false)],[]):=by
 have h:=vcy (Φ:=T d) (N:=vad) (n:=n) (lo:=lo) (hi:=hi);rw [decide_eq_false c] at h;exact h
theorem qsw {d:Nat} {ts:List ByteArray} {w:Wd} (x:Act') (hd:w.dm=true) (hk:¬(14<=x.kind/\x.kind<=18)):rOf (d+4) va4 ts w x 7 0 w:=by
 have tc:=vp1 (d:=d+2) x.kind;rw [decide_eq_false hk] at tc;unfold rOf at *;obtain ⟨xk,xa,xb,xc,xp,xq⟩:=x;obtain ⟨ob,du,sl,hd,ir,dm,wa,he⟩:=w;dsimp only at *;subst hd;rw [vab rfl];simp -implicitDefEqProofs (disch:=try exact zd) only [go_sem,Aa,Ab,va4,vcc,cWf,tc]
theorem qlf {d:Nat} {ts:List ByteArray} {w:Wd} (x:Act') (cd:¬(w.dm=true/\¬(14<=x.kind/\x.kind<=18))) (hk:¬(1<=x.kind/\x.kind<=18)):rOf (d+4) va4 ts w x 1 0 w:=by
 have tc:=vp1 (d:=d+2) x.kind;have t1:=vhr (d:=d+3) (n:=x.kind) (lo:=1) (hi:=18) zo;unfold rOf at *;obtain ⟨xk,xa,xb,xc,xp,xq⟩:=x;obtain ⟨ob,du,sl,hd,ir,dm,wa,he⟩:=w;dsimp only at *;cases dm with
 |false=>
  rw [vab rfl];simp -implicitDefEqProofs (disch:=try exact zd) only [go_sem,Aa,Ab,va4,vcc,cWf,t1]
 |true=>
  have c:14<=xk/\xk<=18:=Ah λh=>cd ⟨rfl,h⟩;rw [decide_eq_true c] at tc;rw [vab rfl];simp -implicitDefEqProofs (disch:=try exact zd) only [go_sem,Aa,Ab,va4,vcc,cWf,t1,tc]
theorem vsr {d:Nat} {ts:List ByteArray} {w:Wd} (x:Act') (cd:¬(w.dm=true/\¬(14<=x.kind/\x.kind<=18))) (hk:2<=x.kind/\x.kind<=5) {c n:Int} {w':Wd} (h:rOf (d+3) va3 ts w x c n w'):rOf (d+4) va4 ts w x c n w':=by
 have tc:=vp1 (d:=d+2) x.kind;have t1:=vj3 (d:=d+3) (n:=x.kind) (lo:=1) (hi:=18) zo;have t2:=vj3 (d:=d+3) (n:=x.kind) (lo:=2) (hi:=5) zo;obtain ⟨ob',du',sl',hd',ir',dm',wa',he'⟩:=w';unfold rOf at *;obtain ⟨xk,xa,xb,xc,xp,xq⟩:=x;obtain ⟨ob,du,sl,hd,ir,dm,wa,he⟩:=w;dsimp only at *;cases dm with
 |false=>
  rw [vab rfl];simp -implicitDefEqProofs (disch:=try exact zd) only [go_sem,Aa,Ab,va4,vcc,cWf,t1,t2,h]
 |true=>
  have c:14<=xk/\xk<=18:=Ah λh=>cd ⟨rfl,h⟩;rw [decide_eq_true c] at tc;rw [vab rfl];simp -implicitDefEqProofs (disch:=try exact zd) only [go_sem,Aa,Ab,va4,vcc,cWf,t1,t2,h,tc]
theorem voe {d:Nat} {ts:List ByteArray} {w:Wd} (x:Act') (cd:¬(w.dm=true/\¬(14<=x.kind/\x.kind<=18))) (hk:x.kind=1\/6<=x.kind/\x.kind<=9) {c n:Int} {w':Wd} (h:rOf (d+3) vaz ts w x c n w'):rOf (d+4) va4 ts w x c n w':=by
 have tc:=vp1 (d:=d+2) x.kind;have t1:=vj3 (d:=d+3) (n:=x.kind) (lo:=1) (hi:=18) zo;have t2:=vhr (d:=d+3) (n:=x.kind) (lo:=2) (hi:=5) zo;have t3:=vj3 (d:=d+3) (n:=x.kind) (lo:=1) (hi:=9) zo;obtain ⟨ob',du',sl',hd',ir',dm',wa',he'⟩:=w';unfold rOf at *;obtain ⟨xk,xa,xb,xc,xp,xq⟩:=x;obtain ⟨ob,du,sl,hd,ir,dm,wa,he⟩:=w;dsimp only at *;cases dm with
 |false=>
  rw [vab rfl];simp -implicitDefEqProofs (disch:=try exact zd) only [go_sem,Aa,Ab,va4,vcc,cWf,t1,t2,t3,h]
 |true=>
  have c:14<=xk/\xk<=18:=Ah λh=>cd ⟨rfl,h⟩;rw [decide_eq_true c] at tc;rw [vab rfl];simp -implicitDefEqProofs (disch:=try exact zd) only [go_sem,Aa,Ab,va4,vcc,cWf,t1,t2,t3,h,tc]
theorem vku {d:Nat} {ts:List ByteArray} {w:Wd} (x:Act') (cd:¬(w.dm=true/\¬(14<=x.kind/\x.kind<=18))) (hk:10<=x.kind/\x.kind<=14) {c n:Int} {w':Wd} (h:rOf (d+3) vaq ts w x c n w'):rOf (d+4) va4 ts w x c n w':=by
 have tc:=vp1 (d:=d+2) x.kind;have t1:=vj3 (d:=d+3) (n:=x.kind) (lo:=1) (hi:=18) zo;have t2:=vhr (d:=d+3) (n:=x.kind) (lo:=2) (hi:=5) zo;have t3:=vhr (d:=d+3) (n:=x.kind) (lo:=1) (hi:=9) zo;have t4:=vj3 (d:=d+3) (n:=x.kind) (lo:=10) (hi:=14) zo;obtain ⟨ob',du',sl',hd',ir',dm',wa',he'⟩:=w';unfold rOf at *;obtain ⟨xk,xa,xb,xc,xp,xq⟩:=x;obtain ⟨ob,du,sl,hd,ir,dm,wa,he⟩:=w;dsimp only at *;cases dm with
 |false=>
  rw [vab rfl];simp -implicitDefEqProofs (disch:=try exact zd) only [go_sem,Aa,Ab,va4,vcc,cWf,t1,t2,t3,t4,h]
 |true=>
  have c:14<=xk/\xk<=18:=Ah λh=>cd ⟨rfl,h⟩;rw [decide_eq_true c] at tc;rw [vab rfl];simp -implicitDefEqProofs (disch:=try exact zd) only [go_sem,Aa,Ab,va4,vcc,cWf,t1,t2,t3,t4,h,tc]
theorem qwq {d:Nat} {ts:List ByteArray} {w:Wd} (x:Act') (cd:¬(w.dm=true/\¬(14<=x.kind/\x.kind<=18))) (hk:15<=x.kind/\x.kind<=17):rOf (d+4) va4 ts w x 0 0 w:=by
 have tc:=vp1 (d:=d+2) x.kind;have t1:=vj3 (d:=d+3) (n:=x.kind) (lo:=1) (hi:=18) zo;have t2:=vhr (d:=d+3) (n:=x.kind) (lo:=2) (hi:=5) zo;have t3:=vhr (d:=d+3) (n:=x.kind) (lo:=1) (hi:=9) zo;have t4:=vhr (d:=d+3) (n:=x.kind) (lo:=10) (hi:=14) zo;have hk18:¬x.kind=18:=zo
 unfold rOf at *;obtain ⟨xk,xa,xb,xc,xp,xq⟩:=x;obtain ⟨ob,du,sl,hd,ir,dm,wa,he⟩:=w;dsimp only at *;cases dm with
 |false=>
  rw [vab rfl];simp -implicitDefEqProofs (disch:=try exact zd) only [go_sem,Aa,Ab,va4,vcc,cWf,t1,t2,t3,t4,hk18]
 |true=>
  have c:14<=xk/\xk<=18:=Ah λh=>cd ⟨rfl,h⟩;rw [decide_eq_true c] at tc;rw [vab rfl];simp -implicitDefEqProofs (disch:=try exact zd) only [go_sem,Aa,Ab,va4,vcc,cWf,t1,t2,t3,t4,hk18,tc]
theorem qq6 {d:Nat} {ts:List ByteArray} {w:Wd} (x:Act') (cd:¬(w.dm=true/\¬(14<=x.kind/\x.kind<=18))) (hk:x.kind=18) (hi:w.inR=false):rOf (d+4) va4 ts w x 0 0 {w with hd:=An 12 0}:=by
 have tc:=vp1 (d:=d+2) x.kind;have t1:=vj3 (d:=d+3) (n:=x.kind) (lo:=1) (hi:=18) zo;have t2:=vhr (d:=d+3) (n:=x.kind) (lo:=2) (hi:=5) zo;have t3:=vhr (d:=d+3) (n:=x.kind) (lo:=1) (hi:=9) zo;have t4:=vhr (d:=d+3) (n:=x.kind) (lo:=10) (hi:=14) zo;have ez:(An 12 (0:Int)).map vak=An (A9 12) (.a (.int .i64 0)):=rfl;unfold rOf cWf;dsimp only;rw [ez];obtain ⟨xk,xa,xb,xc,xp,xq⟩:=x;obtain ⟨ob,du,sl,hd,ir,dm,wa,he⟩:=w;dsimp only at *;subst hi hk;cases dm with
 |false=>
  rw [vab rfl];simp -implicitDefEqProofs (disch:=try exact zd) only [go_sem,Aa,Ab,va4,vcc,cWf,t1,t2,t3,t4]
 |true=>
  have c:14<=(18:Int)/\(18:Int)<=18:=Ah λh=>cd ⟨rfl,h⟩;rw [decide_eq_true c] at tc;rw [vab rfl];simp -implicitDefEqProofs (disch:=try exact zd) only [go_sem,Aa,Ab,va4,vcc,cWf,t1,t2,t3,t4,tc]
theorem qty {d:Nat} {ts:List ByteArray} {w:Wd} (x:Act') (cd:¬(w.dm=true/\¬(14<=x.kind/\x.kind<=18))) (hk:x.kind=18) (hi:w.inR=true) (hb:w.ob.length<=1000) (hdu:w.du.length=w.ob.length) (hwal:w.wa.length<=w.ob.length):rOf (d+4) va4 ts w x 0 0 ⟨backO w,w.du,w.he,An 12 0,false,false,[],[]⟩:=by
 have tc:=vp1 (d:=d+2) x.kind;have t1:=vj3 (d:=d+3) (n:=x.kind) (lo:=1) (hi:=18) zo;have t2:=vhr (d:=d+3) (n:=x.kind) (lo:=2) (hi:=5) zo;have t3:=vhr (d:=d+3) (n:=x.kind) (lo:=1) (hi:=9) zo;have t4:=vhr (d:=d+3) (n:=x.kind) (lo:=10) (hi:=14) zo;have ez:(An 12 (0:Int)).map vak=An (A9 12) (.a (.int .i64 0)):=rfl;have t5:=qox (d:=d+2) (ts:=ts) hb hdu hwal;unfold cWf at t5;unfold rOf cWf;dsimp only at t5⊢;rw [ez];generalize backO w=O at *;obtain ⟨xk,xa,xb,xc,xp,xq⟩:=x;obtain ⟨ob,du,sl,hd,ir,dm,wa,he⟩:=w;dsimp only at *;subst hi hk;cases dm with
 |false=>
  rw [vab rfl];simp -implicitDefEqProofs (disch:=try exact zd) only [go_sem,Aa,Ab,va4,vcc,cWf,t1,t2,t3,t4,t5]
 |true=>
  have c:14<=(18:Int)/\(18:Int)<=18:=Ah λh=>cd ⟨rfl,h⟩;rw [decide_eq_true c] at tc;rw [vab rfl];simp -implicitDefEqProofs (disch:=try exact zd) only [go_sem,Aa,Ab,va4,vcc,cWf,t1,t2,t3,t4,t5,tc]
def Two (ts:List ByteArray):Prop:=∀s∈ts,∀j,j<s.size->kAt s j=105\/kAt s j=114
theorem qkq {ts:List ByteArray} {B:Nat} {w:Wd} (I:Wok ts B w) {x:Act'} (u1:usedW w x.a=true) (c1:0<=x.b/\x.b<=((objW w x.a).vals.length:Int)-1):∃(n m j t:Nat) (vs:List Int) (s:ByteArray) (v:Int),
  x.a=(n:Nat)/\w.hd[n]? =some ((m:Int)+1)/\m<1000/\w.ob[m]? =some ⟨t,vs⟩/\ts[t]? =some s/\x.b=(j:Nat)/\j<s.size/\vs[j]? =some v/\kindW ts (objW w x.a) x.b=kAt s j/\valW w x=v:=by
 obtain ⟨n,m,hn,hn12,hnm,hm,hm1,hh⟩:=vht I u1;obtain ⟨⟨ot,vs⟩,ho⟩:∃o,w.ob[m]? =some o:=⟨_,Ad hm⟩
 obtain ⟨s,g1,g2,g3,g4⟩:=I.ob _ (Ae ho);dsimp only at g1 g2 g3;obtain ⟨t,rfl⟩:∃t:Nat,ot=t:=⟨ot.toNat,zo⟩
 rw [Af] at g1;have eo:objW w x.a=⟨t,vs⟩:=by unfold objW;rw [hh,show ((m:Int)+1).toNat-1=m by omega,ho];rfl
 rw [eo] at c1⊢;dsimp only at c1;obtain ⟨j,hj⟩:∃j:Nat,x.b=j:=⟨x.b.toNat,zo⟩
 obtain ⟨v,hv⟩:∃v,vs[j]? =some v:=⟨_,Ad zo⟩
 have ek:kindW ts ⟨t,vs⟩ x.b=kAt s j:=by unfold kindW;rw [Af,g1,hj];rfl
 refine ⟨n,m,j,t,vs,s,v,hn,hnm,hm1,ho,g1,hj,zo,hv,ek,?_⟩;unfold valW;rw [eo,hj,Af];dsimp only;rw [hv];rfl
theorem qpu {ts:List ByteArray} {B:Nat} {w:Wd} (I:Wok ts B w) (hK:Two ts) (x:Act'):fldW ts w x=if fld0W ts w x=0 then (if x.kind=4/\valW w x≠0/\plc0 w.hd<0 then 9 else 0) else fld0W ts w x:=by
 unfold fldW fld0W;by_cases c0:usedW w x.a=false\/x.kind=5/\x.c≠-1/\usedW w x.c=false
 ·rw [if_pos c0,if_pos c0,if_neg (by decide)]
 rw [if_neg c0,if_neg c0];by_cases c1:0<=x.b/\x.b<=((objW w x.a).vals.length:Int)-1
 case neg=>rw [if_pos c1,if_pos c1,if_neg (by decide)]
 have n1:¬¬(0<=x.b/\x.b<=((objW w x.a).vals.length:Int)-1):=λh=>h c1;rw [if_neg n1,if_neg n1];have u1:usedW w x.a=true:=by
  cases hu:usedW w x.a with
  |true=>rfl
  |false=>exact absurd (.inl hu) c0
 obtain ⟨n,m,j,t,vs,s,v,_,_,_,_,g1,_,hjs,_,ek,_⟩:=qkq I u1 c1;have hk:=hK s (Ae g1) j hjs;have e:(¬(x.kind=4\/x.kind=5)↔kindW ts (objW w x.a) x.b=114)↔kindW ts (objW w x.a) x.b≠knd x:=by
  rw [ek];unfold knd;by_cases p:x.kind=4\/x.kind=5
  ·rw [if_pos p];exact ⟨λh hq=>h.2 hq p,λh=>⟨λh2=>absurd p h2,λh2=>absurd h2 h⟩⟩
  ·rw [if_neg p];exact ⟨λh=>by have:=h.1 p;omega,λh=>⟨λ_=>zo,λ_=>p⟩⟩
 by_cases c2:kindW ts (objW w x.a) x.b≠knd x
 ·rw [if_pos (e.2 c2),if_pos c2,if_neg (by decide)]
 rw [if_neg (λh=>c2 (e.1 h)),if_neg c2];by_cases c3:(x.kind=3\/x.kind=5)/\w.inR=false/\durW w x.a=true
 ·rw [if_pos c3,if_pos c3,if_neg (by decide)]
 rw [if_neg c3,if_neg c3,if_pos rfl]
theorem qog {ts:List ByteArray} {w:Wd} {x:Act'} (h:fld0W ts w x=0):usedW w x.a=true/\(0<=x.b/\x.b<=((objW w x.a).vals.length:Int)-1):=by
 unfold fld0W at h;by_cases c0:usedW w x.a=false\/x.kind=5/\x.c≠-1/\usedW w x.c=false
 ·rw [if_pos c0] at h;exact absurd h (by decide)
 rw [if_neg c0] at h;by_cases c1:0<=x.b/\x.b<=((objW w x.a).vals.length:Int)-1
 case neg=>rw [if_pos c1] at h;exact absurd h (by decide)
 refine ⟨?_,c1⟩;cases hu:usedW w x.a with
 |true=>rfl
 |false=>exact absurd (.inl hu) c0
abbrev DoS (d:Nat) (ts:List ByteArray) (w:Wd) (x:Act'):Prop:=rOf (d+4) va4 ts w x (codeW ts w x) (if codeW ts w x=0 then (effW ts w x).1 else 0) (if codeW ts w x=0 then (effW ts w x).2 else w)
theorem DoS.bad {d:Nat} {ts:List ByteArray} {w:Wd} {x:Act'} {c:Int} (e:codeW ts w x=c) (h:c≠0) (r:rOf (d+4) va4 ts w x c 0 w):DoS d ts w x:=by
 unfold DoS;rw [e,if_neg h,if_neg h];exact r
theorem DoS.ok {d:Nat} {ts:List ByteArray} {w w':Wd} {x:Act'} {n:Int} (e:codeW ts w x=0) (h:effW ts w x=(n,w')) (r:rOf (d+4) va4 ts w x 0 n w'):DoS d ts w x:=by
 unfold DoS;rw [e,if_pos rfl,if_pos rfl,h];exact r
theorem qpg {d:Nat} {ts:List ByteArray} {B:Nat} {w:Wd} (I:Wok ts B w) (hT:Ty23 ts) (hK:Two ts) (hB:B+1<=400) (x:Act'):DoS d ts w x:=by
 have hb:=I.b;have hbb:=I.bb;have hdu:=I.du;by_cases cd:w.dm=true/\¬(14<=x.kind/\x.kind<=18)
 ·exact .bad (c:=7) (by unfold codeW;rw [if_pos cd]) (by decide) (qsw x cd.1 cd.2)
 have code:∀c:Int,(if x.kind=1 then (if ¬(0<=x.a/\x.a<=(ts.length:Int)-1) then 3 else if plc0 w.hd<0 then 9 else 0)
  else if 2<=x.kind/\x.kind<=5 then fldW ts w x
  else if x.kind=6\/x.kind=8\/x.kind=9 then (if usedW w x.a then 0 else 2)
  else if x.kind=7 then (if usedW w x.a&&usedW w x.b then 0 else 2)
  else if x.kind=10 then (if w.inR then 6 else 0)
  else if x.kind=11 then (if ¬(0<=x.a/\x.a<=7) then 8 else if x.b≠-1/\usedW w x.b=false then 2 else if w.inR then 0 else 6)
  else if x.kind=12 then (if ¬(0<=x.a/\x.a<=7) then 8 else if w.sl[x.a.toNat]?.getD 0≠0/\plc0 w.hd<0 then 9 else 0)
  else if x.kind=13\/x.kind=14 then (if w.inR then 0 else 6)
  else if 15<=x.kind/\x.kind<=18 then 0 else 1)=c->codeW ts w x=c:=λc h=>by unfold codeW;rw [if_neg cd];exact h
 by_cases k1:x.kind=1
 ·have hn12:=hT.n1;rw [if_pos k1] at code;by_cases c1:0<=x.a/\x.a<=(ts.length:Int)-1
  case neg=>exact .bad (code 3 (by rw [if_pos c1])) (by decide) (voe x cd (.inl k1) (qnu (d:=d+1) I x k1 hn12 c1))
  rw [if_neg (λh=>h c1)] at code;by_cases c2:plc0 w.hd<0
  ·exact .bad (code 9 (by rw [if_pos c2])) (by decide) (voe x cd (.inl k1) (qoo (d:=d+1) I x k1 hn12 c1 c2))
  obtain ⟨n,hn⟩:∃n:Nat,x.a=n:=⟨x.a.toNat,zo⟩
  obtain ⟨s,hs⟩:∃s,ts[n]? =some s:=⟨_,Ad zo⟩
  have hz:=hT.z s (Ae hs);refine .ok (code 0 (by rw [if_neg c2])) ?_ (voe x cd (.inl k1) (qpe (d:=d+1) I x k1 hn12 hn hs hz c2 zo));unfold effW szW;rw [if_pos k1,hn,Af,hs];rfl
 rw [if_neg k1] at code;by_cases k25:2<=x.kind/\x.kind<=5
 ·rw [if_pos k25] at code;have hf:=qtd (d:=d) I hT x k25;have hrel:=qpu I hK x;by_cases f0:fld0W ts w x=0
  case neg=>
   rw [if_neg f0] at hrel;refine .bad (code _ hrel) f0 (vsr x cd k25 ?_);generalize fld0W ts w x=c at *;by_cases k2:x.kind=2
   ·rw [show knd x=105 by unfold knd;rw [if_neg zo]] at hf;exact qbq (d:=d) x k2 f0 hf
   by_cases k3:x.kind=3
   ·rw [show knd x=105 by unfold knd;rw [if_neg zo]] at hf;exact qbd (d:=d) x k3 f0 hf
   rw [show knd x=114 by unfold knd;rw [if_pos zo]] at hf;by_cases k4:x.kind=4
   ·exact qai (d:=d) x k4 f0 hf
   ·exact qa5 (d:=d) x zo f0 hf
  rw [if_pos f0] at hrel;rw [f0] at hf;by_cases c9:x.kind=4/\valW w x≠0/\plc0 w.hd<0
  ·rw [if_pos c9] at hrel;obtain ⟨u1,c1⟩:=qog f0;obtain ⟨n,m,j,t,vs,s,v,hn,hnm,hm1,ho,g1,hj,hjs,hv,ek,ev⟩:=qkq I u1 c1;rw [ev] at c9;rw [show knd x=114 by unfold knd;rw [if_pos zo]] at hf;exact .bad (code _ hrel) (by decide) (vsr x cd k25 (qgi (d:=d) x c9.1 hn hnm hm1 ho hj hv I.hd c9.2.1 c9.2.2 hf))
  rw [if_neg c9] at hrel;obtain ⟨n,m,j,t,vs,s,v,F⟩:=vms I hrel;by_cases k2:x.kind=2
  ·rw [show knd x=105 by unfold knd;rw [if_neg zo]] at hf;exact .ok (code _ hrel) (by unfold effW;rw [if_neg k1,if_pos k2,F.valW]) (vsr x cd k25 (qkn (d:=d) x k2 F.fa F.fh F.fm1 F.fo F.fb F.fv hf))
  by_cases k3:x.kind=3
  ·rw [show knd x=105 by unfold knd;rw [if_neg zo]] at hf;exact .ok (code _ hrel) (by unfold effW;rw [if_neg k1,if_neg k2,if_pos k3,F.mAt,F.fb,Af,voh F.fo]) (vsr x cd k25 (qjj (d:=d) x k3 F.fa F.fh F.fm1 F.fo F.fb F.fv hf))
  rw [show knd x=114 by unfold knd;rw [if_pos zo]] at hf;by_cases k4:x.kind=4
  ·by_cases hz:v=0
   ·exact .ok (code _ hrel) (by unfold effW handW;rw [if_neg k1,if_neg k2,if_neg k3,if_pos k4,F.valW,if_pos hz]) (vsr x cd k25 (qgj (d:=d) x k4 F.fa F.fh F.fm1 F.fo F.fb F.fv hz hf))
   ·exact .ok (code _ hrel) (by unfold effW handW;rw [if_neg k1,if_neg k2,if_neg k3,if_pos k4,F.valW,if_neg hz]) (vsr x cd k25 (qhd (d:=d) x k4 F.fa F.fh F.fm1 F.fo F.fb F.fv I.hd hz (F.ff k4 hz) hf))
  have k5:x.kind=5:=zo
  exact .ok (code _ hrel) (by unfold effW;rw [if_neg k1,if_neg k2,if_neg k3,if_neg k4,if_pos k5,F.mAt,F.fb,Af,voh F.fo]) (vsr x cd k25 (qji (d:=d) x k5 F.fa F.fh F.fm1 F.fo F.fb F.fv I.hd (vws I (F.fc k5)) hf))
 rw [if_neg k25] at code;have k2:¬x.kind=2:=zo
 have k3:¬x.kind=3:=zo
 have k4:¬x.kind=4:=zo
 have k5:¬x.kind=5:=zo
 by_cases k69:6<=x.kind/\x.kind<=9
 ·cases hu:usedW w x.a with
  |false=>
   refine .bad (code 2 ?_) (by decide) (voe x cd (.inr k69) ?_)
   ·by_cases k7:x.kind=7
    ·rw [if_neg zo,if_pos k7,hu];rfl
    ·rw [if_pos zo,hu];rfl
   ·by_cases k6:x.kind=6
    ·exact qk3 (d:=d+1) I x k6 hu
    by_cases k7:x.kind=7
    ·exact qn2 (d:=d+1) I x k7 hu
    by_cases k8:x.kind=8
    ·exact qn9 (d:=d+1) I x k8 hu
    ·exact qlw (d:=d+1) I x zo hu
  |true=>
   obtain ⟨n,m,hn,hn12,hnm,hm,hm1,hh⟩:=vht I hu;by_cases k7:x.kind=7
   ·rw [if_neg zo,if_pos k7,hu,Bool.true_and] at code;cases hv:usedW w x.b with
    |false=>exact .bad (code 2 (by rw [hv];rfl)) (by decide) (voe x cd (.inr k69) (qmi (d:=d+1) I x k7 hu hv))
    |true=>
     obtain ⟨n2,m2,hn2,hn122,hnm2,hm2,hm12,hh2⟩:=vht I hv;refine .ok (code 0 (by rw [hv];rfl)) ?_ (voe x cd (.inr k69) (qq8 (d:=d+1) I x k7 hu hv hn hn2 hnm hnm2));unfold effW;rw [if_neg k1,if_neg k2,if_neg k3,if_neg k4,if_neg k5,if_neg zo,if_pos k7,hh,hh2]
   ·rw [if_pos zo,hu,if_pos rfl] at code;obtain ⟨⟨ot,vs⟩,ho⟩:∃o,w.ob[m]? =some o:=⟨_,Ad hm⟩
    obtain ⟨u,hdu2⟩:∃u,w.du[m]? =some u:=⟨_,Ad zo⟩
    have eo:objW w x.a=⟨ot,vs⟩:=by unfold objW;rw [hh,show ((m:Int)+1).toNat-1=m by omega,ho];rfl
    have ed:durW w x.a=u:=by unfold durW;rw [hh,show ((m:Int)+1).toNat-1=m by omega,hdu2];rfl
    by_cases k6:x.kind=6
    ·exact .ok (code 0 rfl) (by unfold effW;rw [if_neg k1,if_neg k2,if_neg k3,if_neg k4,if_neg k5,if_pos k6,hn,Af]) (voe x cd (.inr k69) (qq2 (d:=d+1) I x k6 hu hn hnm hm1))
    by_cases k8:x.kind=8
    ·exact .ok (code 0 rfl) (by unfold effW;rw [if_neg k1,if_neg k2,if_neg k3,if_neg k4,if_neg k5,if_neg k6,if_neg k7,if_pos k8,eo]) (voe x cd (.inr k69) (qrz (d:=d+1) I x k8 hu hn hnm hm1 ho))
    have k9:x.kind=9:=zo
    exact .ok (code 0 rfl) (by unfold effW;rw [if_neg k1,if_neg k2,if_neg k3,if_neg k4,if_neg k5,if_neg k6,if_neg k7,if_neg k8,if_pos k9,ed]) (voe x cd (.inr k69) (qrn (d:=d+1) I x k9 hu hn hnm hm1 hdu2))
 rw [if_neg zo,if_neg zo] at code;have pre:∀{α:Type} {a1 a2 a3 a4 a5 a6 a7 a8 a9 y:α},(if x.kind=1 then a1 else if x.kind=2 then a2 else if x.kind=3 then a3 else if x.kind=4 then a4 else if x.kind=5 then a5 else if x.kind=6 then a6 else if x.kind=7 then a7 else if x.kind=8 then a8 else if x.kind=9 then a9 else y)=y:=by
  intros;rw [if_neg k1,if_neg k2,if_neg k3,if_neg k4,if_neg k5,if_neg zo,if_neg zo,if_neg zo,if_neg zo]
 by_cases k10:x.kind=10
 ·rw [if_pos k10] at code;cases hi:w.inR with
  |true=>exact .bad (code 6 (by rw [hi];rfl)) (by decide) (vku x cd zo (qoi (d:=d) I x k10 hi))
  |false=>exact .ok (code 0 (by rw [hi];rfl)) (by unfold effW;rw [pre,if_pos k10]) (vku x cd zo (qr1 (d:=d) I hT x k10 hi))
 rw [if_neg k10] at code;by_cases k11:x.kind=11
 ·rw [if_pos k11] at code;by_cases c1:0<=x.a/\x.a<=7
  case neg=>exact .bad (code 8 (by rw [if_pos c1])) (by decide) (vku x cd zo (ql6 (d:=d) I x k11 c1))
  rw [if_neg (λh=>h c1)] at code;obtain ⟨n,hn⟩:∃n:Nat,x.a=n:=⟨x.a.toNat,zo⟩
  have hs:=I.sl;obtain ⟨v,hv⟩:∃v,w.sl[n]? =some v:=⟨_,Ad zo⟩
  by_cases c2:x.b≠-1/\usedW w x.b=false
  ·exact .bad (code 2 (by rw [if_pos c2])) (by decide) (vku x cd zo (qls (d:=d) I x k11 hn hv c2.1 c2.2))
  rw [if_neg c2] at code;cases hi:w.inR with
  |false=>
   refine .bad (code 6 (by rw [hi];rfl)) (by decide) (vku x cd zo ?_);by_cases e:x.b= -1
   ·exact qki (d:=d) I x k11 hn hv hi e
   ·cases hu:usedW w x.b with
    |true=>exact qkr (d:=d) I x k11 hn hv hi e hu
    |false=>exact absurd ⟨e,hu⟩ c2
  |true=>
   have e0:effW ts w x=(0,{w with sl:=w.sl.set n (refW w x.b)}):=by unfold effW;rw [pre,if_neg k10,if_pos k11,hn,Af]
   refine .ok (code 0 (by rw [hi];rfl)) e0 (vku x cd zo ?_);by_cases e:x.b= -1
   ·exact qnz (d:=d) I x k11 hn hv hi zo e
   ·cases hu:usedW w x.b with
    |true=>exact qnd (d:=d) I x k11 hn hv hi (vws I (.inr hu)) e hu
    |false=>exact absurd ⟨e,hu⟩ c2
 rw [if_neg k11] at code;by_cases k12:x.kind=12
 ·rw [if_pos k12] at code;by_cases c1:0<=x.a/\x.a<=7
  case neg=>exact .bad (code 8 (by rw [if_pos c1])) (by decide) (vku x cd zo (qor (d:=d) I x k12 c1))
  rw [if_neg (λh=>h c1)] at code;obtain ⟨n,hn⟩:∃n:Nat,x.a=n:=⟨x.a.toNat,zo⟩
  have hs:=I.sl;obtain ⟨v,hv⟩:∃v,w.sl[n]? =some v:=⟨_,Ad zo⟩
  rw [hn,Af,hv,A3] at code;by_cases hz:v=0
  ·exact .ok (code 0 (by rw [if_neg zo])) (by unfold effW handW;rw [pre,if_neg k10,if_neg k11,if_pos k12,hn,Af,hv,A3,if_pos hz]) (vku x cd zo (qmg (d:=d) I x k12 hn hv hz))
  ·by_cases c2:plc0 w.hd<0
   ·exact .bad (code 9 (by rw [if_pos ⟨hz,c2⟩])) (by decide) (vku x cd zo (qmh (d:=d) I x k12 hn hv hz c2))
   ·exact .ok (code 0 (by rw [if_neg (λh=>c2 h.2)])) (by unfold effW handW;rw [pre,if_neg k10,if_neg k11,if_pos k12,hn,Af,hv,A3,if_neg hz]) (vku x cd zo (qqz (d:=d) I x k12 hn hv hz c2))
 rw [if_neg k12] at code;by_cases k1314:x.kind=13\/x.kind=14
 ·rw [if_pos k1314] at code;cases hi:w.inR with
  |false=>
   refine .bad (code 6 (by rw [hi];rfl)) (by decide) (vku x cd zo ?_);rcases k1314 with k|k
   ·exact qnf (d:=d) I x k hi
   ·exact qn3 (d:=d) I x k hi
  |true=>
   rcases k1314 with k|k
   ·exact .ok (code 0 (by rw [hi];rfl)) (by unfold effW;rw [pre,if_neg k10,if_neg k11,if_neg k12,if_pos k]) (vku x cd zo (qro (d:=d) I hT x k hi))
   ·exact .ok (code 0 (by rw [hi];rfl)) (by unfold effW;rw [pre,if_neg k10,if_neg k11,if_neg k12,if_neg zo,if_pos k]) (vku x cd zo (qsd (d:=d) I x k hi))
 rw [if_neg k1314] at code;have pre2:∀{α:Type} {a1 a2 a3 a4 a5 y:α},(if x.kind=10 then a1 else if x.kind=11 then a2 else if x.kind=12 then a3 else if x.kind=13 then a4 else if x.kind=14 then a5 else y)=y:=by
  intros;rw [if_neg k10,if_neg k11,if_neg k12,if_neg zo,if_neg zo]
 by_cases k1518:15<=x.kind/\x.kind<=18
 case neg=>exact .bad (code 1 (by rw [if_neg k1518])) (by decide) (qlf x cd zo)
 rw [if_pos k1518] at code;by_cases k18:x.kind=18
 ·cases hi:w.inR with
  |false=>exact .ok (code 0 rfl) (by unfold effW;rw [pre,pre2,if_pos k18,hi,if_neg (by simp)]) (qq6 (d:=d) x cd k18 hi)
  |true=>exact .ok (code 0 rfl) (by unfold effW;rw [pre,pre2,if_pos k18,hi,if_pos rfl]) (qty (d:=d) x cd k18 hi zo hdu I.wal)
 ·exact .ok (code 0 rfl) (by unfold effW;rw [pre,pre2,if_neg k18]) (qwq (d:=d) x cd zo)
