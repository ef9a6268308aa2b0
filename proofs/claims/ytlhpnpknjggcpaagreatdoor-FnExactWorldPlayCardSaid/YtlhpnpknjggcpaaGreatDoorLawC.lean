/- The canonical form is its own canonical form: what is found in it is 0, 1, .. . What is found: it is closed, and the qf9 that is; what is not found does not matter. -/
import Derived.Test.YtlhpnpknjggcpaaGreatDoorLawP
open List renaming getElem?_eq_some_iff->Aa,prefix_rfl->Ab,getElem?_replicate->Ac,getElem?_eq_getElem->Ad,getElem?_cons_succ->Ae,getElem?_set->Af,findIdx?_eq_some_iff_getElem->Ag,mem_of_getElem?->Ah,getElem?_range->Ai,getElem?_map->Aj,getElem?_append_left->Al,take_length->Am,getElem?_eq_none->An,mem_cons_of_mem->Ao,mem_cons_self->Ap,getElem_inj->Aq,mem_append->Ar,range->At
open Option.some renaming injEq->Ak
namespace Go.Proofs.YtlhpnpknjggcpaaGreatDoor.VM
open Go Sy
theorem qhs (st:Fd) (v:Int):st.out<+:(see1 st v).out:=by
 unfold see1;split
 ·exact List.prefix_append _ _
 ·exact Ab
theorem vug:∀(l:List Int) (st:Fd),st.out<+:(seeAll st l).out
 | [],_=>Ab
 |v::l,st=>(qhs st v).trans (vug l (see1 st v))
theorem vu3 {s:ByteArray}:∀(l:List Int) (k:Nat) (st:Fd),st.out<+:(seeK s st k l).out
 | [],_,_=>Ab
 |v::l,k,st=>by
  rw [seeK];refine List.IsPrefix.trans ?_ (vu3 l (k+1) _);split
  ·exact qhs st v
  ·exact Ab
theorem qt0 (ts:List ByteArray) (st:Fd) (o:Obj'):st.out<+:(seeO ts st o).out:=by
 unfold seeO;split
 ·exact vu3 _ _ _
 ·exact Ab
theorem qu2 (ts:List ByteArray) (g:Gr) (st:Fd) (i:Nat):st.out<+:(seeN ts g st i).out:=by
 unfold seeN;split
 ·split
  ·exact qt0 _ _ _
  ·exact Ab
 ·exact Ab
theorem qax (ts:List ByteArray) (g:Gr) (i:Nat):∀j,(search ts g i).out<+:(search ts g (i+j)).out
 |0=>Ab
 |j+1=>(qax ts g i j).trans (qu2 ts g _ _)
section
variable {F:List Nat} {n:Nat}
structure As (F:List Nat) (st st':Fd):Prop where
 out:st'.out=At st.out.length
 seen:st'.seen=(At F.length).map fun i=>decide (i<st.out.length)
theorem qxp (F:List Nat):nm F 0=0:=by
 unfold nm idxOf
 rw [show F.findIdx? (fun x:Nat=>decide ((x:Int)=0-1))=none from List.findIdx?_eq_none_iff.2 fun x hx=>by
  rw [decide_eq_false];omega]
 rfl
theorem zee (hn:F.Nodup) {i k:Nat} (h:F[i]? =some k):nm F ((k:Int)+1)=(i:Int)+1:=by
 unfold nm idxOf;have hi:=(Aa.1 h).1;have hk:=(Aa.1 h).2
 rw [show F.findIdx? (fun x:Nat=>decide ((x:Int)=(k:Int)+1-1))=some i from Ag.2 ⟨hi,by rw [hk];exact decide_eq_true zo,fun j hj=>by
  rw [Bool.not_eq_true,decide_eq_false_iff_not];intro he;have:F[j]'zo=F[i]:=by rw [hk];omega
  have:=(Aq hn).1 this
  omega⟩]
def Bk (st:Fd):Prop:=∀x,st.seen[x]? =some true→x∈st.out
theorem Bk.see1 {st:Fd} (h:Bk st) (v:Int):Bk (VM.see1 st v):=by
 unfold VM.see1;split
 ·intro x hx;rw [Af] at hx;split at hx
  ·rename_i e;simp [e]
  ·exact Ar.2 (.inl (h x hx))
 ·exact h
theorem Bk.seeAll:∀{l:List Int} {st:Fd},Bk st→Bk (VM.seeAll st l)
 | [],_,h=>h
 |v::l,_,h=>Bk.seeAll (l:=l) (h.see1 v)
theorem Bk.seeK {s:ByteArray}:∀{l:List Int} {k:Nat} {st:Fd},Bk st→Bk (VM.seeK s st k l)
 | [],_,_,h=>h
 |v::l,k,st,h=>by
  rw [VM.seeK];refine Bk.seeK (l:=l) ?_;split
  ·exact h.see1 v
  ·exact h
theorem vp2 (ts:List ByteArray) (g:Gr):∀i,Bk (search ts g i)
 |0=>Bk.seeAll fun x hx=>by
  have:=Ac (n:=g.nodes.length) (a:=false) (i:=x);rw [this] at hx;split at hx<;>cases hx
 |i+1=>by
  rw [search];unfold seeN;split
  ·split
   ·unfold seeO;split
    ·exact (vp2 ts g i).seeK
    ·exact vp2 ts g i
   ·exact vp2 ts g i
  ·exact vp2 ts g i
theorem As.see1 (hF:F.Nodup) (hFl:∀x∈F,x<n) {st st':Fd} (hs:InvF n st) (hbk:Bk st) (h:As F st st') {v:Int} (h0:0≤v) (hp:(see1 st v).out<+:F):As F (see1 st v) (VM.see1 st' (nm F v)):=by
 by_cases c0:0<v
 ·obtain ⟨k,rfl⟩:∃k:Nat,v=(k:Int)+1:=⟨(v-1).toNat,by omega⟩
  have ek:((k:Int)+1-1).toNat=k:=by omega
  unfold VM.see1 at hp⊢;rw [ek] at hp⊢;have seen':∀j,st'.seen[j]? =if j<F.length then some (decide (j<st.out.length)) else none:=fun j=>by
   rw [h.seen,Aj];split
   ·rename_i hj;rw [Ai hj];rfl
   ·rename_i hj;rw [An (by simpa using hj)];rfl
  by_cases c1:st.seen[k]? =some false
  ·rw [if_pos ⟨c0,c1⟩] at hp⊢;have hk:F[st.out.length]? =some k:=by
    obtain ⟨t,ht⟩:=hp;rw [←ht];simp
   have hl:=(Aa.1 hk).1;rw [zee hF hk];have e2:(((st.out.length:Nat):Int)+1-1).toNat=st.out.length:=by omega
   rw [e2,if_pos ⟨by omega,by rw [seen',if_pos hl,decide_eq_false zo]⟩];refine ⟨by rw [h.out];simp [List.range_succ],?_⟩;simp only [h.seen,List.length_append,List.length_singleton];refine List.ext_getElem? fun j=> ?_;rw [Af,Aj,Aj];by_cases e:st.out.length=j
   ·subst e;rw [if_pos rfl,if_pos (by simpa using hl),Ai hl];simp
   ·rw [if_neg e];by_cases hj:j<F.length
    ·rw [Ai hj];simp only [Option.map_some,Ak,decide_eq_decide];omega
    ·rw [An (by simpa using hj)];rfl
  ·rw [if_neg (fun hc=>c1 hc.2)] at hp⊢;rw [if_neg ?_]
   ·exact h
   ·rintro ⟨c2,c3⟩
    rw [seen'] at c3;split at c3
    ·rename_i hj;simp only [Ak,decide_eq_false_iff_not] at c3;have hb:=zb4 F ((k:Int)+1);obtain ⟨i,hi⟩:∃i:Nat,nm F ((k:Int)+1)=(i:Int)+1:=⟨(nm F ((k:Int)+1)-1).toNat,by omega⟩
     rw [hi] at c3 hj;have e2:((i:Int)+1-1).toNat=i:=by omega
     rw [e2] at c3 hj;unfold nm idxOf at hi;cases hf:F.findIdx? (fun x:Nat=>decide ((x:Int)=(k:Int)+1-1)) with
     |none=>rw [hf] at hi;simp at hi;omega
     |some i2=>
      rw [hf] at hi;obtain ⟨hi2,hk2,_⟩:=Ag.1 hf;have:i2=i:=by simp at hi;omega
      subst this;have hkF:F[i2]=k:=by have:=of_decide_eq_true hk2;omega
      have hkn:k<n:=hFl k (hkF▸List.getElem_mem hi2);have hsk:st.seen[k]? =some true:=by
       obtain ⟨b,hb⟩:∃b,st.seen[k]? =some b:=⟨_,Ad (by rw [hs.len];exact hkn)⟩
       cases b with
       |true=>exact hb
       |false=>exact absurd hb c1
      obtain ⟨j,hj,hjk⟩:=List.mem_iff_getElem.1 (hbk k hsk);obtain ⟨t,ht⟩:=hp;have:F[j]? =some k:=by rw [←ht,Al hj,Ad hj,hjk]
      obtain ⟨hj2,hjF⟩:=Aa.1 this;have:=(Aq hF).1 (hjF.trans hkF.symm);omega
    ·cases c3
 ·obtain rfl:v=0:=by omega
  rw [qxp];unfold VM.see1;rw [if_neg (fun hc=>absurd hc.1 (by decide)),if_neg (fun hc=>absurd hc.1 (by decide))];exact h
theorem As.seeAll (hF:F.Nodup) (hFl:∀x∈F,x<n):∀{l:List Int} {st st':Fd},InvF n st→Bk st→As F st st'→(∀v∈l,0≤v)→(VM.seeAll st l).out<+:F→As F (VM.seeAll st l) (VM.seeAll st' (l.map (nm F)))
 | [],_,_,_,_,h,_,_=>h
 |v::l,st,st',hs,hb,h,hl,hp=>As.seeAll hF hFl (l:=l) (hs.see v) (hb.see1 v) (As.see1 hF hFl hs hb h (hl v (by simp)) ((vug l _).trans hp)) (fun x hx=>hl x (by simp [hx])) hp
theorem As.seeK (hF:F.Nodup) (hFl:∀x∈F,x<n) {s:ByteArray}:∀{l:List Int} {k:Nat} {st st':Fd},InvF n st→Bk st→As F st st'→(∀(j:Nat) v,l[j]? =some v→refAt s (k+j)=true→0≤v)→(VM.seeK s st k l).out<+:F→As F (VM.seeK s st k l) (VM.seeK s st' k (nmK F s k l))
 | [],_,_,_,_,_,h,_,_=>h
 |v::l,k,st,st',hs,hb,h,hl,hp=>by
  rw [nmK,VM.seeK,VM.seeK];rw [VM.seeK] at hp;have hl':∀(j:Nat) w,l[j]? =some w→refAt s (k+1+j)=true→0≤w:=fun j w hw hr=>hl (j+1) w (by simpa using hw) (by rwa [show k+(j+1)=k+1+j by omega]);by_cases c:refAt s k=true
  ·simp only [c,if_true] at hp⊢;exact As.seeK hF hFl (l:=l) (hs.see v) (hb.see1 v) (As.see1 hF hFl hs hb h (hl 0 v rfl c) ((vu3 l _ _).trans hp)) hl' hp
  ·simp only [Bool.not_eq_true] at c;simp only [c,Bool.false_eq_true,if_false] at hp⊢;exact As.seeK hF hFl (l:=l) hs hb h hl' hp
end
theorem vs5 (ts:List ByteArray) (g:Gr) (i:Nat):(search ts g i).out<+:found ts g:=by
 have h1:=qax ts g i g.nodes.length;have hle:(search ts g g.nodes.length).out.length≤g.nodes.length:=(vdg ts g g.nodes.length).le;rw [Nat.add_comm,vh0 hle i] at h1;exact h1
theorem qhh (ts:List ByteArray) (g:Gr) {i:Nat} (h:(found ts g).length≤i):(search ts g i).out=found ts g:=by
 have h1:=vs5 ts g i;have h2:(search ts g i).out.length≤i:=Nat.le_trans h1.length_le h;have h3:=vh0 h2 g.nodes.length;have hle:(search ts g g.nodes.length).out.length≤g.nodes.length:=(vdg ts g g.nodes.length).le;have h4:=vh0 hle i;unfold found;rw [←h4,Nat.add_comm,h3]
end Go.Proofs.YtlhpnpknjggcpaaGreatDoor.VM
namespace Go.Proofs.YtlhpnpknjggcpaaGreatDoor.VM
open Go Sy
variable {Φ:Nat→Option Callee} {N:Nat}
set_option maxRecDepth 100000
set_option maxHeartbeats 8000000
def Ref (ts:List ByteArray) (ob:List Obj') (k:Nat) (v:Int):Prop:=∃(o:Obj') (s:ByteArray) (j:Nat),ob[k]? =some o∧ts[o.ty.toNat]? =some s∧refAt s j=true∧o.vals[j]? =some v
theorem qg4 {n:Nat} {st:Fd} (h:InvF n st) (hb:Bk st) {v:Int} (h0:0<v) (hv:v≤(n:Int)):(v-1).toNat∈(see1 st v).out:=by
 have hl:=h.len;obtain ⟨b,hs⟩:∃b,st.seen[(v-1).toNat]? =some b:=⟨_,Ad zo⟩
 unfold see1;cases b with
 |true=>rw [if_neg (by rw [hs];simp)];exact hb _ hs
 |false=>rw [if_pos ⟨h0,hs⟩];simp
theorem qa2 {n:Nat} {v:Int} (h0:0<v) (hv:v≤(n:Int)):∀{l:List Int} {st:Fd},InvF n st→Bk st→v∈l→(v-1).toNat∈(seeAll st l).out
 | [],_,_,_,hm=>by cases hm
 |u::l,st,h,hb,hm=>by
  show (v-1).toNat∈(seeAll (see1 st u) l).out;rcases List.mem_cons.1 hm with rfl|hm
  ·exact (vug l _).subset (qg4 h hb h0 hv)
  ·exact qa2 h0 hv (h.see u) (hb.see1 u) hm
theorem qhl {n:Nat} {v:Int} (h0:0<v) (hv:v≤(n:Int)) {s:ByteArray}:∀{l:List Int} {k j:Nat} {st:Fd},InvF n st→Bk st→l[j]? =some v→refAt s (k+j)=true→(v-1).toNat∈(seeK s st k l).out
 | [],_,_,_,_,_,hm,_=>by simp at hm
 |u::l,k,0,st,h,hb,hm,hr=>by
  simp only [List.getElem?_cons_zero,Ak] at hm;subst hm;rw [Nat.add_zero] at hr;rw [seeK,if_pos hr];exact (vu3 l _ _).subset (qg4 h hb h0 hv)
 |u::l,k,j+1,st,h,hb,hm,hr=>by
  rw [Ae] at hm;rw [seeK];refine qhl h0 hv (l:=l) (j:=j) ?_ ?_ hm (by rw [show k+1+j=k+(j+1) by omega];exact hr)
  ·split
   ·exact h.see u
   ·exact h
  ·split
   ·exact hb.see1 u
   ·exact hb
theorem vq6 {ts:List ByteArray} {g:Gr} (R:Right ts g) {v:Int} (hm:v∈g.roots) (h0:0<v):(v-1).toNat∈found ts g:=by
 refine (vs5 ts g 0).subset ?_;rw [search];refine qa2 (n:=g.nodes.length) h0 (R.roots v hm).2 (qf8 _) (fun x hx=> ?_) hm;have:=Ac (n:=g.nodes.length) (a:=false) (i:=x);rw [this] at hx;split at hx<;>cases hx
theorem qn8 {ts:List ByteArray} {g:Gr} {k:Nat} (h:k∈found ts g):k<g.nodes.length:=(vdg ts g g.nodes.length).low k h
theorem qjo (ts:List ByteArray) (g:Gr) {i k:Nat} (h:(found ts g)[i]? =some k):(search ts g i).out[i]? =some k:=by
 by_cases hl:i<(search ts g i).out.length
 ·obtain ⟨t,ht⟩:=vs5 ts g i;rw [←ht,Al hl] at h;exact h
 ·have h1:=vh0 (ts:=ts) (g:=g) (i:=i) zo g.nodes.length;have hle:(search ts g g.nodes.length).out.length≤g.nodes.length:=(vdg ts g g.nodes.length).le;have h2:=vh0 hle i;have e:(search ts g i).out=found ts g:=by
   unfold found;rw [←h2,Nat.add_comm,h1]
  rw [e];exact h
theorem vw2 {ts:List ByteArray} {g:Gr} (R:Right ts g) {k:Nat} (hk:k∈found ts g) {v:Int} (hv:Ref ts g.nodes k v) (h0:0<v):(v-1).toNat∈found ts g:=by
 obtain ⟨i,hi⟩:=List.mem_iff_getElem?.1 hk;obtain ⟨o,s,j,ho,hs,hr,hj⟩:=hv;refine (vs5 ts g (i+1)).subset ?_;rw [search];unfold seeN;rw [qjo ts g hi];dsimp only;rw [ho];dsimp only;unfold seeO;rw [hs];dsimp only;unfold seeT;rw [Am];obtain ⟨t,s',t1,t2,t3,_,_,t4⟩:=R.obj o (Ah ho);rw [t1,Int.toNat_natCast,t2] at hs;cases hs;exact qhl h0 (t4 j v hj hr).2 (vdg ts g i) (vp2 ts g i) hj (by rw [Nat.zero_add];exact hr)
theorem qh7 {P:Nat→Prop} {st:Fd} {v:Int} (h:∀x∈st.out,P x) (hv:0<v→P (v-1).toNat):∀x∈(see1 st v).out,P x:=by
 unfold see1;split
 ·rename_i c;intro x hx;rcases Ar.1 hx with hx|hx
  ·exact h x hx
  ·rw [List.mem_singleton.1 hx];exact hv c.1
 ·exact h
theorem qbz {P:Nat→Prop}:∀{l:List Int} {st:Fd},(∀x∈st.out,P x)→(∀v∈l,0<v→P (v-1).toNat)→∀x∈(seeAll st l).out,P x
 | [],_,h,_=>h
 |u::l,_,h,hl=>qbz (l:=l) (qh7 h (hl u Ap)) fun v hv=>hl v (Ao _ hv)
theorem qge {P:Nat→Prop} {s:ByteArray}:∀{l:List Int} {k:Nat} {st:Fd},(∀x∈st.out,P x)→(∀(j:Nat) v,l[j]? =some v→refAt s (k+j)=true→0<v→P (v-1).toNat)→∀x∈(seeK s st k l).out,P x
 | [],_,_,h,_=>h
 |u::l,k,st,h,hl=>by
  rw [seeK];refine qge (l:=l) ?_ fun j v hv hr=>hl (j+1) v (by rw [Ae];exact hv) (by rw [show k+(j+1)=k+1+j by omega];exact hr);split
  ·rename_i c;exact qh7 h (hl 0 u rfl (by rw [Nat.add_zero];exact c))
  ·exact h
theorem vuk {ts:List ByteArray} {g:Gr} {P:Nat→Prop} (hr:∀v∈g.roots,0<v→P (v-1).toNat) (hc:∀k,P k→∀v,Ref ts g.nodes k v→0<v→P (v-1).toNat):∀i,∀x∈(search ts g i).out,P x
 |0=>qbz (fun x hx=>by cases hx) hr
 |i+1=>by
  have ih:=vuk hr hc i;rw [search];unfold seeN;split
  ·rename_i k hk;split
   ·rename_i o ho;unfold seeO;split
    ·rename_i s hs;unfold seeT;rw [Am];exact qge ih fun j v hv hr=>hc k (ih k (Ah hk)) v ⟨o,s,j,ho,hs,by rwa [Nat.zero_add] at hr,hv⟩
    ·exact ih
   ·exact ih
  ·exact ih
theorem qd2 {ts:List ByteArray} {g:Gr} {P:Nat→Prop} (hr:∀v∈g.roots,0<v→P (v-1).toNat) (hc:∀k,P k→∀v,Ref ts g.nodes k v→0<v→P (v-1).toNat):∀x∈found ts g,P x:=vuk hr hc _
def Alk (P:Nat→Prop) (a b:Fd):Prop:=a.out=b.out∧∀k,P k→a.seen[k]? =b.seen[k]?
theorem Alk.see1 {P:Nat→Prop} {a b:Fd} (h:Alk P a b) {v:Int} (hv:0<v→P (v-1).toNat):Alk P (VM.see1 a v) (VM.see1 b v):=by
 unfold VM.see1;by_cases c:0<v
 ·have e:=h.2 _ (hv c);by_cases c1:a.seen[(v-1).toNat]? =some false
  ·rw [if_pos ⟨c,c1⟩,if_pos ⟨c,by rw [←e];exact c1⟩];refine ⟨by rw [h.1],fun k hk=> ?_⟩;rw [Af,Af];split
   ·have l1:=(Aa.1 c1).1;have l2:=(Aa.1 (e▸c1)).1;rw [if_pos l1,if_pos l2]
   ·exact h.2 k hk
  ·rw [if_neg (fun hc=>c1 hc.2),if_neg (fun hc=>c1 (by rw [e];exact hc.2))];exact h
 ·rw [if_neg (fun hc=>c hc.1),if_neg (fun hc=>c hc.1)];exact h
theorem Alk.all {P:Nat→Prop}:∀{l:List Int} {a b:Fd},Alk P a b→(∀v∈l,0<v→P (v-1).toNat)→Alk P (seeAll a l) (seeAll b l)
 | [],_,_,h,_=>h
 |u::l,_,_,h,hl=>Alk.all (l:=l) (h.see1 (hl u Ap)) fun v hv=>hl v (Ao _ hv)
theorem Alk.seeK {P:Nat→Prop} {s:ByteArray}:∀{l:List Int} {k:Nat} {a b:Fd},Alk P a b→(∀(j:Nat) v,l[j]? =some v→refAt s (k+j)=true→0<v→P (v-1).toNat)→Alk P (VM.seeK s a k l) (VM.seeK s b k l)
 | [],_,_,_,h,_=>h
 |u::l,k,a,b,h,hl=>by
  rw [VM.seeK,VM.seeK];refine Alk.seeK (l:=l) ?_ fun j v hv hr=>hl (j+1) v (by rw [Ae];exact hv) (by rw [show k+(j+1)=k+1+j by omega];exact hr);split
  ·rename_i c;exact h.see1 (hl 0 u rfl (by rw [Nat.add_zero];exact c))
  ·exact h
structure Agree (ts:List ByteArray) (P:Nat→Prop) (g h:Gr):Prop where
 r:g.roots=h.roots
 rp:∀v∈g.roots,0<v→P (v-1).toNat
 n:∀k,P k→k<g.nodes.length∧k<h.nodes.length∧g.nodes[k]? =h.nodes[k]?
 c:∀k,P k→∀v,Ref ts g.nodes k v→0<v→P (v-1).toNat
theorem Agree.search {ts:List ByteArray} {P:Nat→Prop} {g h:Gr} (A:Agree ts P g h):∀i,Alk P (VM.search ts g i) (VM.search ts h i)
 |0=>by
  rw [VM.search,VM.search,←A.r];refine Alk.all ⟨rfl,fun k hk=> ?_⟩ A.rp;obtain ⟨h1,h2,_⟩:=A.n k hk;rw [Ac,Ac,if_pos h1,if_pos h2]
 |i+1=>by
  have ih:=A.search i;have hP:=vuk A.rp A.c i;rw [VM.search,VM.search];unfold seeN;rw [←ih.1];split
  ·rename_i k hk;have hp:=hP k (Ah hk);rw [←(A.n k hp).2.2];split
   ·rename_i o ho;unfold seeO;split
    ·rename_i s hs;unfold seeT;rw [Am];exact ih.seeK fun j v hv hr=>A.c k hp v ⟨o,s,j,ho,hs,by rwa [Nat.zero_add] at hr,hv⟩
    ·exact ih
   ·exact ih
  ·exact ih
theorem Agree.found {ts:List ByteArray} {P:Nat→Prop} {g h:Gr} (A:Agree ts P g h):VM.found ts g=VM.found ts h:=by
 have h1:(VM.found ts g).length≤g.nodes.length:=(vdg ts g g.nodes.length).le;have h2:(VM.found ts h).length≤h.nodes.length:=(vdg ts h h.nodes.length).le;rw [←qhh ts g (i:=g.nodes.length+h.nodes.length) zo,←qhh ts h (i:=g.nodes.length+h.nodes.length) zo];exact (A.search _).1
theorem Agree.plain {ts:List ByteArray} {P:Nat→Prop} {g h:Gr} (A:Agree ts P g h):plainG ts g=plainG ts h:=by
 unfold plainG;rw [←A.found,A.r];congr 1;refine List.map_congr_left fun k hk=> ?_;unfold plainN;rw [(A.n k (qd2 A.rp A.c k hk)).2.2]
