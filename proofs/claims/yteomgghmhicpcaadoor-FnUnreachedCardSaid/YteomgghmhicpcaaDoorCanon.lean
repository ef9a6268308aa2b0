/- The canonical form is its own canonical form: what is found in it is 0, 1, .. . -/
import Derived.Test.YteomgghmhicpcaaDoorLawP
namespace Go.Proofs.YteomgghmhicpcaaDoor.VM
open Go Sy
theorem voc (st:Fd) (v:Int):st.out<+:(see1 st v).out:=by
 unfold see1
 split
 ·exact List.prefix_append _ _
 ·exact List.prefix_rfl
theorem vkn:∀(l:List Int) (st:Fd),st.out<+:(seeAll st l).out
 | [],_=>List.prefix_rfl
 |v::l,st=>(voc st v).trans (vkn l (see1 st v))
theorem vjf {s:ByteArray}:∀(l:List Int) (k:Nat) (st:Fd),st.out<+:(seeK s st k l).out
 | [],_,_=>List.prefix_rfl
 |v::l,k,st=>by
  rw [seeK]
  refine List.IsPrefix.trans ?_ (vjf l (k+1) _)
  split
  ·exact voc st v
  ·exact List.prefix_rfl
theorem vv1 (ts:List ByteArray) (st:Fd) (o:Obj'):st.out<+:(seeO ts st o).out:=by
 unfold seeO
 split
 ·exact vjf _ _ _
 ·exact List.prefix_rfl
theorem vv3 (ts:List ByteArray) (g:Gr) (st:Fd) (i:Nat):st.out<+:(seeN ts g st i).out:=by
 unfold seeN
 split
 ·split
  ·exact vv1 _ _ _
  ·exact List.prefix_rfl
 ·exact List.prefix_rfl
theorem vks (ts:List ByteArray) (g:Gr) (i:Nat):∀j,(search ts g i).out<+:(search ts g (i+j)).out
 |0=>List.prefix_rfl
 |j+1=>(vks ts g i j).trans (vv3 ts g _ _)
section
variable {F:List Nat} {n:Nat}
structure As (F:List Nat) (st st':Fd):Prop where
 out:st'.out=List.range st.out.length
 seen:st'.seen=(List.range F.length).map fun i=>decide (i<st.out.length)
theorem vqz (F:List Nat):nm F 0=0:=by
 unfold nm idxOf
 rw [show F.findIdx? (fun x:Nat=>decide ((x:Int)=0-1))=none from List.findIdx?_eq_none_iff.2 fun x hx=>by
  rw [decide_eq_false];omega]
 rfl
theorem vxk (hn:F.Nodup) {i k:Nat} (h:F[i]? =some k):nm F ((k:Int)+1)=(i:Int)+1:=by
 unfold nm idxOf
 have hi:=(List.getElem?_eq_some_iff.1 h).1
 have hk:=(List.getElem?_eq_some_iff.1 h).2
 rw [show F.findIdx? (fun x:Nat=>decide ((x:Int)=(k:Int)+1-1))=some i from List.findIdx?_eq_some_iff_getElem.2 ⟨hi,by rw [hk];exact decide_eq_true (by omega),fun j hj=>by
  rw [Bool.not_eq_true,decide_eq_false_iff_not]
  intro he
  have:F[j]'(by omega)=F[i]:=by rw [hk];omega
  have:=(List.getElem_inj hn).1 this
  omega⟩]
def Bk (st:Fd):Prop:=∀x,st.seen[x]? =some true→x∈st.out
theorem Bk.see1 {st:Fd} (h:Bk st) (v:Int):Bk (VM.see1 st v):=by
 unfold VM.see1
 split
 ·intro x hx
  rw [List.getElem?_set] at hx
  split at hx
  ·rename_i e;simp [e]
  ·exact List.mem_append.2 (.inl (h x hx))
 ·exact h
theorem Bk.seeAll:∀{l:List Int} {st:Fd},Bk st→Bk (VM.seeAll st l)
 | [],_,h=>h
 |v::l,_,h=>Bk.seeAll (l:=l) (h.see1 v)
theorem Bk.seeK {s:ByteArray}:∀{l:List Int} {k:Nat} {st:Fd},Bk st→Bk (VM.seeK s st k l)
 | [],_,_,h=>h
 |v::l,k,st,h=>by
  rw [VM.seeK]
  refine Bk.seeK (l:=l) ?_
  split
  ·exact h.see1 v
  ·exact h
theorem vd4 (ts:List ByteArray) (g:Gr):∀i,Bk (search ts g i)
 |0=>Bk.seeAll fun x hx=>by
  have:=List.getElem?_replicate (n:=g.nodes.length) (a:=false) (i:=x)
  rw [this] at hx
  split at hx<;>cases hx
 |i+1=>by
  rw [search]
  unfold seeN
  split
  ·split
   ·unfold seeO
    split
    ·exact (vd4 ts g i).seeK
    ·exact vd4 ts g i
   ·exact vd4 ts g i
  ·exact vd4 ts g i
theorem As.see1 (hF:F.Nodup) (hFl:∀x∈F,x<n) {st st':Fd} (hs:InvF n st) (hbk:Bk st) (h:As F st st') {v:Int} (h0:0≤v) (hp:(see1 st v).out<+:F):As F (see1 st v) (VM.see1 st' (nm F v)):=by
 by_cases c0:0<v
 ·obtain ⟨k,rfl⟩:∃k:Nat,v=(k:Int)+1:=⟨(v-1).toNat,by omega⟩
  have ek:((k:Int)+1-1).toNat=k:=by omega
  unfold VM.see1 at hp⊢
  rw [ek] at hp⊢
  have seen':∀j,st'.seen[j]? =if j<F.length then some (decide (j<st.out.length)) else none:=fun j=>by
   rw [h.seen,List.getElem?_map]
   split
   ·rename_i hj;rw [List.getElem?_range hj];rfl
   ·rename_i hj;rw [List.getElem?_eq_none (by simpa using hj)];rfl
  by_cases c1:st.seen[k]? =some false
  ·rw [if_pos ⟨c0,c1⟩] at hp⊢
   have hk:F[st.out.length]? =some k:=by
    obtain ⟨t,ht⟩:=hp
    rw [←ht]
    simp
   have hl:=(List.getElem?_eq_some_iff.1 hk).1
   rw [vxk hF hk]
   have e2:(((st.out.length:Nat):Int)+1-1).toNat=st.out.length:=by omega
   rw [e2,if_pos ⟨by omega,by rw [seen',if_pos hl,decide_eq_false (by omega)]⟩]
   refine ⟨by rw [h.out];simp [List.range_succ],?_⟩
   simp only [h.seen,List.length_append,List.length_singleton]
   refine List.ext_getElem? fun j=> ?_
   rw [List.getElem?_set,List.getElem?_map,List.getElem?_map]
   by_cases e:st.out.length=j
   ·subst e
    rw [if_pos rfl,if_pos (by simpa using hl),List.getElem?_range hl]
    simp
   ·rw [if_neg e]
    by_cases hj:j<F.length
    ·rw [List.getElem?_range hj]
     simp only [Option.map_some,Option.some.injEq,decide_eq_decide]
     omega
    ·rw [List.getElem?_eq_none (by simpa using hj)];rfl
  ·rw [if_neg (fun hc=>c1 hc.2)] at hp⊢
   rw [if_neg ?_]
   ·exact h
   ·rintro ⟨c2,c3⟩
    rw [seen'] at c3
    split at c3
    ·rename_i hj
     simp only [Option.some.injEq,decide_eq_false_iff_not] at c3
     have hb:=vj5 F ((k:Int)+1)
     obtain ⟨i,hi⟩:∃i:Nat,nm F ((k:Int)+1)=(i:Int)+1:=⟨(nm F ((k:Int)+1)-1).toNat,by omega⟩
     rw [hi] at c3 hj
     have e2:((i:Int)+1-1).toNat=i:=by omega
     rw [e2] at c3 hj
     unfold nm idxOf at hi
     cases hf:F.findIdx? (fun x:Nat=>decide ((x:Int)=(k:Int)+1-1)) with
     |none=>rw [hf] at hi;simp at hi;omega
     |some i2=>
      rw [hf] at hi
      obtain ⟨hi2,hk2,_⟩:=List.findIdx?_eq_some_iff_getElem.1 hf
      have:i2=i:=by simp at hi;omega
      subst this
      have hkF:F[i2]=k:=by have:=of_decide_eq_true hk2;omega
      have hkn:k<n:=hFl k (hkF▸List.getElem_mem hi2)
      have hsk:st.seen[k]? =some true:=by
       obtain ⟨b,hb⟩:∃b,st.seen[k]? =some b:=⟨_,List.getElem?_eq_getElem (by rw [hs.len];exact hkn)⟩
       cases b with
       |true=>exact hb
       |false=>exact absurd hb c1
      obtain ⟨j,hj,hjk⟩:=List.mem_iff_getElem.1 (hbk k hsk)
      obtain ⟨t,ht⟩:=hp
      have:F[j]? =some k:=by rw [←ht,List.getElem?_append_left hj,List.getElem?_eq_getElem hj,hjk]
      obtain ⟨hj2,hjF⟩:=List.getElem?_eq_some_iff.1 this
      have:=(List.getElem_inj hF).1 (hjF.trans hkF.symm)
      omega
    ·cases c3
 ·obtain rfl:v=0:=by omega
  rw [vqz]
  unfold VM.see1
  rw [if_neg (fun hc=>absurd hc.1 (by decide)),if_neg (fun hc=>absurd hc.1 (by decide))]
  exact h
theorem As.seeAll (hF:F.Nodup) (hFl:∀x∈F,x<n):∀{l:List Int} {st st':Fd},InvF n st→Bk st→As F st st'→(∀v∈l,0≤v)→(VM.seeAll st l).out<+:F→As F (VM.seeAll st l) (VM.seeAll st' (l.map (nm F)))
 | [],_,_,_,_,h,_,_=>h
 |v::l,st,st',hs,hb,h,hl,hp=>As.seeAll hF hFl (l:=l) (hs.see v) (hb.see1 v) (As.see1 hF hFl hs hb h (hl v (by simp)) ((vkn l _).trans hp)) (fun x hx=>hl x (by simp [hx])) hp
theorem As.seeK (hF:F.Nodup) (hFl:∀x∈F,x<n) {s:ByteArray}:∀{l:List Int} {k:Nat} {st st':Fd},InvF n st→Bk st→As F st st'→(∀(j:Nat) v,l[j]? =some v→refAt s (k+j)=true→0≤v)→(VM.seeK s st k l).out<+:F→As F (VM.seeK s st k l) (VM.seeK s st' k (nmK F s k l))
 | [],_,_,_,_,_,h,_,_=>h
 |v::l,k,st,st',hs,hb,h,hl,hp=>by
  rw [nmK,VM.seeK,VM.seeK]
  rw [VM.seeK] at hp
  have hl':∀(j:Nat) w,l[j]? =some w→refAt s (k+1+j)=true→0≤w:=fun j w hw hr=>hl (j+1) w (by simpa using hw) (by rwa [show k+(j+1)=k+1+j by omega])
  by_cases c:refAt s k=true
  ·simp only [c,if_true] at hp⊢
   exact As.seeK hF hFl (l:=l) (hs.see v) (hb.see1 v) (As.see1 hF hFl hs hb h (hl 0 v rfl c) ((vjf l _ _).trans hp)) hl' hp
  ·simp only [Bool.not_eq_true] at c
   simp only [c,Bool.false_eq_true,if_false] at hp⊢
   exact As.seeK hF hFl (l:=l) hs hb h hl' hp
end
theorem ve7 (ts:List ByteArray) (g:Gr) (i:Nat):(search ts g i).out<+:found ts g:=by
 have h1:=vks ts g i g.nodes.length
 have hle:(search ts g g.nodes.length).out.length≤g.nodes.length:=(vau ts g g.nodes.length).le
 rw [Nat.add_comm,vcl hle i] at h1
 exact h1
theorem vn7 (ts:List ByteArray) (g:Gr) {i:Nat} (h:(found ts g).length≤i):(search ts g i).out=found ts g:=by
 have h1:=ve7 ts g i
 have h2:(search ts g i).out.length≤i:=Nat.le_trans h1.length_le h
 have h3:=vcl h2 g.nodes.length
 have hle:(search ts g g.nodes.length).out.length≤g.nodes.length:=(vau ts g g.nodes.length).le
 have h4:=vcl hle i
 unfold found
 rw [←h4,Nat.add_comm,h3]
theorem vhb {ts:List ByteArray} {g:Gr} (h:Right ts g):∀i,As (found ts g) (search ts g i) (search ts (plainG ts g) i)
 |0=>by
  have hI:=vau ts g g.nodes.length
  have hnod:(found ts g).Nodup:=hI.nod
  have hlow:∀x∈found ts g,x<g.nodes.length:=hI.low
  refine As.seeAll (n:=g.nodes.length) hnod hlow (vk5 _) (fun x hx=> ?_) ⟨by simp,?_⟩ (fun v hv=>(h.roots v hv).1) (ve7 ts g 0)
  ·have:=List.getElem?_replicate (n:=g.nodes.length) (a:=false) (i:=x)
   rw [this] at hx
   split at hx<;>cases hx
  ·simp only [plainG,List.length_map,List.length_nil]
   refine List.ext_getElem? fun j=> ?_
   rw [List.getElem?_replicate,List.getElem?_map]
   split
   ·rename_i hj;rw [List.getElem?_range hj];rfl
   ·rename_i hj;rw [List.getElem?_eq_none (by simpa using hj)];rfl
 |i+1=>by
  have hI:=vau ts g g.nodes.length
  have ih:=vhb h i
  have hp:=ve7 ts g (i+1)
  rw [search,search]
  rw [search] at hp
  unfold seeN at hp⊢
  cases hk:(search ts g i).out[i]? with
  |none=>
   rw [ih.out,List.getElem?_eq_none (by simpa using List.getElem?_eq_none_iff.1 hk)]
   exact ih
  |some k=>
   rw [hk] at hp
   have hil:=(List.getElem?_eq_some_iff.1 hk).1
   rw [ih.out,List.getElem?_range hil]
   have hFi:(found ts g)[i]? =some k:=by
    obtain ⟨t,ht⟩:=ve7 ts g i
    rw [←ht,List.getElem?_append_left hil];exact hk
   have hkn:=hI.low k (List.mem_of_getElem? hFi)
   obtain ⟨o,ho⟩:∃o,g.nodes[k]? =some o:=⟨_,List.getElem?_eq_getElem hkn⟩
   obtain ⟨t,s,t1,t2,t3,_,_,t4⟩:=h.obj o (List.mem_of_getElem? ho)
   have hP:(plainG ts g).nodes[i]? =some ⟨o.ty,nmK (found ts g) s 0 o.vals⟩:=by
    simp only [plainG,List.getElem?_map,hFi,Option.map_some,plainN,ho,plainO,t1,Int.toNat_natCast,t2]
   simp only [ho] at hp
   simp only [ho,hP]
   unfold seeO at hp⊢
   simp only [t1,Int.toNat_natCast,t2] at hp⊢
   unfold seeT at hp⊢
   simp only [List.take_length] at hp⊢
   have hnod:(found ts g).Nodup:=hI.nod
   have hlow:∀x∈found ts g,x<g.nodes.length:=hI.low
   exact As.seeK hnod hlow (vau ts g i) (vd4 ts g i) ih (fun j v hv hr=>(t4 j v hv (by rwa [Nat.zero_add] at hr)).1) hp
theorem vi4 {ts:List ByteArray} {g:Gr} (h:Right ts g):found ts (plainG ts g)=List.range (found ts g).length:=by
 have e:(plainG ts g).nodes.length=(found ts g).length:=by simp [plainG]
 unfold found
 rw [e,(vhb h _).out,vn7 ts g (Nat.le_refl _)]
 rfl
end Go.Proofs.YteomgghmhicpcaaDoor.VM
