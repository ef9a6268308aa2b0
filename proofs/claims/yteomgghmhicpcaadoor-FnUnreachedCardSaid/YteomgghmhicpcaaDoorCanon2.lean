/- The canonical form is right, and its own canonical form; it needs as many lines. A node that nobody names changes nothing. -/
import Derived.Test.YteomgghmhicpcaaDoorCanon
import Derived.Test.YteomgghmhicpcaaDoorLawLines
namespace Go.Proofs.YteomgghmhicpcaaDoor.VM
open Go Sy
theorem voe {m:Nat} {w:Int} (h0:0≤w) (h1:w≤m):nm (List.range m) w=w:=by
 by_cases c:w=0
 ·subst c;exact vqz _
 ·obtain ⟨k,rfl⟩:∃k:Nat,w=(k:Int)+1:=⟨(w-1).toNat,by omega⟩
  exact vxk List.nodup_range (by rw [List.getElem?_range (by omega)])
theorem vmr {m:Nat} {s:ByteArray}:∀{l:List Int} {k:Nat},(∀(j:Nat) v,l[j]? =some v→refAt s (k+j)=true→0≤v∧v≤m)→nmK (List.range m) s k l=l
 | [],_,_=>rfl
 |v::l,k,h=>by
  rw [nmK,vmr (l:=l) fun j w hw hr=>h (j+1) w (by simpa using hw) (by rwa [show k+(j+1)=k+1+j by omega])]
  split
  ·rename_i c
   obtain ⟨h0,h1⟩:=h 0 v rfl c
   rw [voe h0 h1]
  ·rfl
theorem vmt {ts:List ByteArray} {g:Gr} (h:Right ts g) {i k:Nat} (hk:(found ts g)[i]? =some k):∃(o:Obj') (t:Nat) (s:ByteArray),g.nodes[k]? =some o∧o.ty=(t:Int)∧ts[t]? =some s∧o.vals.length=s.size∧plainN ts (found ts g) g k=⟨o.ty,nmK (found ts g) s 0 o.vals⟩:=by
 have hkn:=(vau ts g g.nodes.length).low k (List.mem_of_getElem? hk)
 obtain ⟨o,ho⟩:∃o,g.nodes[k]? =some o:=⟨_,List.getElem?_eq_getElem hkn⟩
 obtain ⟨t,s,t1,t2,t3,_⟩:=h.obj o (List.mem_of_getElem? ho)
 exact ⟨o,t,s,ho,t1,t2,t3,by simp only [plainN,ho,plainO,t1,Int.toNat_natCast,t2]⟩
theorem vk4 {ts:List ByteArray} {g:Gr} {s:ByteArray} {l:List Int} {j:Nat} {v:Int} (hv:(nmK (found ts g) s 0 l)[j]? =some v) (hr:refAt s j=true):0≤v∧v≤(found ts g).length:=by
 rw [vh0] at hv
 obtain ⟨w,_,rfl⟩:=Option.map_eq_some_iff.1 hv
 rw [Nat.zero_add,if_pos hr]
 exact vj5 _ _
theorem vpm {α:Type} {f:α→α}:∀{l:List α},(∀x∈l,f x=x)→l.map f=l
 | [],_=>rfl
 |x::l,h=>by rw [List.map_cons,h x (by simp),vpm (l:=l) fun y hy=>h y (by simp [hy])]
theorem qcj {ts:List ByteArray} {g:Gr} (h:Right ts g):plainG ts (plainG ts g)=plainG ts g:=by
 have hf:=vi4 h
 show (⟨(plainG ts g).roots.map (nm (found ts (plainG ts g))),(found ts (plainG ts g)).map (plainN ts (found ts (plainG ts g)) (plainG ts g))⟩:Gr)=_
 rw [hf]
 have e1:(plainG ts g).roots.map (nm (List.range (found ts g).length))=(plainG ts g).roots:=vpm fun v hv=>by
  obtain ⟨w,_,rfl⟩:=List.mem_map.1 hv
  have:=vj5 (found ts g) w
  exact voe this.1 this.2
 have e2:(List.range (found ts g).length).map (plainN ts (List.range (found ts g).length) (plainG ts g))=(plainG ts g).nodes:=by
  refine List.ext_getElem? fun i=> ?_
  rw [List.getElem?_map]
  by_cases hi:i<(found ts g).length
  ·obtain ⟨k,hk⟩:∃k,(found ts g)[i]? =some k:=⟨_,List.getElem?_eq_getElem hi⟩
   obtain ⟨o,t,s,h1,h2,h3,h4,h5⟩:=vmt h hk
   have hP:(plainG ts g).nodes[i]? =some ⟨o.ty,nmK (found ts g) s 0 o.vals⟩:=by
    simp only [plainG,List.getElem?_map,hk,Option.map_some,h5]
   rw [List.getElem?_range hi,hP]
   simp only [Option.map_some,plainN,hP,plainO,h2,Int.toNat_natCast,h3]
   rw [vmr fun j v hv hr=>vk4 hv (by rwa [Nat.zero_add] at hr)]
  ·rw [List.getElem?_eq_none (by simpa using hi),List.getElem?_eq_none (by simpa [plainG] using hi)]
   rfl
 rw [e1,e2]
theorem vnk {ts:List ByteArray} {g:Gr} (hs:Small ts g) (hg:graphOk ts g=true):graphOk ts (plainG ts g)=true:=by
 have h:=Right.of hs hg
 have hlen:(plainG ts g).nodes.length=(found ts g).length:=by simp [plainG]
 have hle:(found ts g).length≤g.nodes.length:=(vau ts g g.nodes.length).le
 have ht:typesOk ts=true:=by
  unfold graphOk at hg
  simp only [Bool.and_eq_true] at hg
  exact hg.1
 unfold graphOk
 simp only [ht,Bool.true_and,Bool.and_eq_true,decide_eq_true_eq,List.all_eq_true]
 have hn:=h.n
 refine ⟨by simpa [plainG] using h.r,by omega,fun v hv=> ?_,fun o ho=> ?_⟩
 ·obtain ⟨w,_,rfl⟩:=List.mem_map.1 hv
  rw [hlen]
  exact decide_eq_true (vj5 _ _)
 ·obtain ⟨i,hi⟩:=List.mem_iff_getElem?.1 ho
  rw [hlen]
  simp only [plainG,List.getElem?_map] at hi
  obtain ⟨k,hk,rfl⟩:=Option.map_eq_some_iff.1 hi
  obtain ⟨o,t,s,h1,h2,h3,h4,h5⟩:=vmt h hk
  rw [h5]
  unfold objOk
  simp only [h2,Int.toNat_natCast,h3,Bool.and_eq_true,decide_eq_true_eq]
  refine ⟨by omega,by rw [vdg];exact h4,vby.2 fun j v hv=> ?_⟩
  rw [Nat.zero_add]
  unfold badV
  cases hr:refAt s j with
  |false=>rfl
  |true=>
   have:=vk4 hv hr
   simp only [Bool.true_and,Bool.not_eq_false',isN]
   exact decide_eq_true this
theorem vpw {ts:List ByteArray} {g:Gr} (hs:Small ts g) (hg:graphOk ts g=true):linesFor ts (plainG ts g)=linesFor ts g:=by
 have h:=Right.of hs hg
 unfold linesFor linesG
 rw [if_pos hg,if_pos (vnk hs hg),vi4 h]
 have l1:∀k∈found ts g,k<g.nodes.length:=(vau ts g g.nodes.length).low
 rw [vcb (F:=found ts g) _ _ l1]
 have e:∀(l:List Obj') (n:Nat),(List.range l.length).foldl (fun n k=>n+(match l[k]? with|some o=>lnO ts o|none=>0)) n=l.foldl (fun n o=>n+lnO ts o) n:=by
  intro l
  induction l with
  |nil=>intro n;rfl
  |cons o l ih=>
   intro n
   rw [List.length_cons,List.range_succ_eq_map,List.foldl_cons,List.foldl_map,List.foldl_cons]
   simp only [List.getElem?_cons_zero,List.getElem?_cons_succ]
   exact ih _
 have:=e (plainG ts g).nodes 0
 rw [show (plainG ts g).nodes.length=(found ts g).length by simp [plainG]] at this
 show ((_:Nat):Int)=((_:Nat):Int)
 exact congrArg _ this
end Go.Proofs.YteomgghmhicpcaaDoor.VM
