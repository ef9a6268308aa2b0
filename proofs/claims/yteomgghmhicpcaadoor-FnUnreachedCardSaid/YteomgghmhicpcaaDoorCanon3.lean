/- A node that nobody names changes neither what is found nor the canonical form. -/
import Derived.Test.YteomgghmhicpcaaDoorCanon2
namespace Go.Proofs.YteomgghmhicpcaaDoor.VM
open Go Sy
def Ex (st:Fd):Fd:=⟨st.out,st.seen++ [false]⟩
theorem vrf {n:Nat} {st:Fd} (h:InvF n st) {v:Int} (h1:v≤n):see1 (Ex st) v=Ex (see1 st v):=by
 unfold see1 Ex
 by_cases c:0<v
 ·have hlt:(v-1).toNat<st.seen.length:=by rw [h.len];omega
  simp only [c,true_and,List.getElem?_append_left hlt]
  split
  ·simp only [List.set_append_left _ _ hlt]
  ·rfl
 ·rw [if_neg (fun hc=>c hc.1),if_neg (fun hc=>c hc.1)]
theorem vm3 {n:Nat}:∀{l:List Int} {st:Fd},InvF n st→(∀v∈l,v≤n)→seeAll (Ex st) l=Ex (seeAll st l)
 | [],_,_,_=>rfl
 |v::l,st,h,hl=>by
  show seeAll (see1 (Ex st) v) l=Ex (seeAll (see1 st v) l)
  rw [vrf h (hl v (by simp)),vm3 (l:=l) (h.see v) fun x hx=>hl x (by simp [hx])]
theorem vl3 {n:Nat} {s:ByteArray}:∀{l:List Int} {k:Nat} {st:Fd},InvF n st→(∀(j:Nat) v,l[j]? =some v→refAt s (k+j)=true→v≤n)→seeK s (Ex st) k l=Ex (seeK s st k l)
 | [],_,_,_,_=>rfl
 |v::l,k,st,h,hl=>by
  have hl':∀(j:Nat) w,l[j]? =some w→refAt s (k+1+j)=true→w≤(n:Int):=fun j w hw hr=>hl (j+1) w (by simpa using hw) (by rwa [show k+(j+1)=k+1+j by omega])
  rw [seeK,seeK]
  by_cases c:refAt s k=true
  ·rw [if_pos c,if_pos c,vrf h (hl 0 v rfl c)]
   exact vl3 (l:=l) (h.see v) hl'
  ·rw [if_neg c,if_neg c]
   exact vl3 (l:=l) h hl'
def addN (g:Gr) (o:Obj'):Gr:=⟨g.roots,g.nodes++ [o]⟩
theorem vkm {ts:List ByteArray} {g:Gr} (h:Right ts g) (o:Obj'):∀i,search ts (addN g o) i=Ex (search ts g i)
 |0=>by
  rw [search,search]
  rw [show (⟨[],List.replicate (addN g o).nodes.length false⟩:Fd)=Ex ⟨[],List.replicate g.nodes.length false⟩ from by
   simp only [addN,Ex,List.length_append,List.length_singleton,List.replicate_succ']]
  exact vm3 (vk5 _) fun v hv=>(h.roots v hv).2
 |i+1=>by
  have hI:=vau ts g i
  rw [search,search,vkm h o i]
  unfold seeN
  show (match (search ts g i).out[i]? with|some k=>_|none=>_)=_
  cases hk:(search ts g i).out[i]? with
  |none=>rfl
  |some k=>
   have hkn:=hI.low k (List.mem_of_getElem? hk)
   obtain ⟨p,hp⟩:∃p,g.nodes[k]? =some p:=⟨_,List.getElem?_eq_getElem hkn⟩
   obtain ⟨t,s,t1,t2,t3,_,_,t4⟩:=h.obj p (List.mem_of_getElem? hp)
   have hp':(addN g o).nodes[k]? =some p:=by rw [addN,List.getElem?_append_left hkn];exact hp
   simp only [hp,hp']
   unfold seeO
   simp only [t1,Int.toNat_natCast,t2]
   unfold seeT
   simp only [List.take_length]
   exact vl3 hI fun j v hv hr=>(t4 j v hv (by rwa [Nat.zero_add] at hr)).2
theorem vm7 {ts:List ByteArray} {g:Gr} (h:Right ts g) (o:Obj'):found ts (addN g o)=found ts g:=by
 show (search ts (addN g o) (addN g o).nodes.length).out=_
 rw [vkm h o]
 show (search ts g _).out=_
 refine vn7 ts g ?_
 have:(found ts g).length≤g.nodes.length:=(vau ts g g.nodes.length).le
 simp only [addN,List.length_append,List.length_singleton]
 omega
theorem vs9 {ts:List ByteArray} {g:Gr} (h:Right ts g) (o:Obj'):plainG ts (addN g o)=plainG ts g:=by
 have hf:=vm7 h o
 show (⟨(addN g o).roots.map (nm (found ts (addN g o))),(found ts (addN g o)).map (plainN ts (found ts (addN g o)) (addN g o))⟩:Gr)=⟨_,_⟩
 rw [hf]
 have e:(found ts g).map (plainN ts (found ts g) (addN g o))=(found ts g).map (plainN ts (found ts g) g):=List.map_congr_left fun k hk=>by
  have hkn:k<g.nodes.length:=(vau ts g g.nodes.length).low k hk
  unfold plainN
  rw [show (addN g o).nodes[k]? =g.nodes[k]? from by rw [addN,List.getElem?_append_left hkn]]
 rw [e]
 rfl
theorem vi2 {ts:List ByteArray} {g:Gr} (hs:Small ts g) (hg:graphOk ts g=true) (hn:g.nodes.length<400) {s:ByteArray} (h0:ts[0]? =some s):graphOk ts (addN g ⟨0,List.replicate s.size 0⟩)=true:=by
 have h:=Right.of hs hg
 have ht:typesOk ts=true:=by
  unfold graphOk at hg
  simp only [Bool.and_eq_true] at hg
  exact hg.1
 unfold graphOk
 simp only [ht,Bool.true_and,Bool.and_eq_true,decide_eq_true_eq,List.all_eq_true]
 have hl:(addN g ⟨0,List.replicate s.size 0⟩).nodes.length=g.nodes.length+1:=by simp [addN]
 rw [hl]
 refine ⟨h.r,by omega,fun v hv=> ?_,fun o ho=> ?_⟩
 ·have:=h.roots v hv
  exact decide_eq_true (by omega)
 ·rcases List.mem_append.1 ho with ho|ho
  ·obtain ⟨t,s,t1,t2,t3,_,_,t4⟩:=h.obj o ho
   unfold objOk
   simp only [t1,Int.toNat_natCast,t2,Bool.and_eq_true,decide_eq_true_eq]
   refine ⟨by omega,t3,vby.2 fun j v hv=> ?_⟩
   rw [Nat.zero_add]
   unfold badV
   cases hr:refAt s j with
   |false=>rfl
   |true=>
    have:=t4 j v hv hr
    simp only [Bool.true_and,Bool.not_eq_false',isN]
    exact decide_eq_true (by omega)
  ·simp only [List.mem_singleton] at ho
   subst ho
   unfold objOk
   simp only [show (0:Int).toNat=0 from rfl,h0,Bool.and_eq_true,decide_eq_true_eq]
   refine ⟨by omega,by simp,vby.2 fun j v hv=> ?_⟩
   have hv0:v=0:=by
    have:=List.mem_of_getElem? hv
    exact (List.mem_replicate.1 this).2
   subst hv0
   unfold badV isN
   rw [decide_eq_true (by omega)]
   simp
theorem vux {ts:List ByteArray} {g:Gr} (hs:Small ts g) (hg:graphOk ts g=true) (hn:g.nodes.length<400) {s:ByteArray} (h0:ts[0]? =some s):linesFor ts (addN g ⟨0,List.replicate s.size 0⟩)=linesFor ts g:=by
 have h:=Right.of hs hg
 unfold linesFor linesG
 rw [if_pos hg,if_pos (vi2 hs hg hn h0),vm7 h]
 have l1:∀k∈found ts g,k<g.nodes.length:=(vau ts g g.nodes.length).low
 have l2:∀k∈found ts g,k<(addN g ⟨0,List.replicate s.size 0⟩).nodes.length:=fun k hk=>by
  have:=l1 k hk
  simp only [addN,List.length_append,List.length_singleton];omega
 rw [vcb (F:=found ts g) _ _ l1,vcb (F:=found ts g) _ _ l2]
 have e:(found ts g).map (plainN ts (found ts g) (addN g ⟨0,List.replicate s.size 0⟩))=(found ts g).map (plainN ts (found ts g) g):=List.map_congr_left fun k hk=>by
  have hkn:=l1 k hk
  unfold plainN
  rw [show (addN g ⟨0,List.replicate s.size 0⟩).nodes[k]? =g.nodes[k]? from by rw [addN,List.getElem?_append_left hkn]]
 rw [e]
end Go.Proofs.YteomgghmhicpcaaDoor.VM
