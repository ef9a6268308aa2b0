/- The interpreter 'VM': slices.Sort over whole numbers by its contract: what the sorted world keeps. -/
import Derived.Test.YteomgghmhicpcaaDoorVmTop
import Derived.Sort.Row
import Derived.Sort.Grow
namespace Go.Proofs.YteomgghmhicpcaaDoor.VM
open Go Go.Sort
def unInts:List PV→Option (List Int)
 | []=>some []
 | .a (.int .i64 n)::es=>(unInts es).map (n::·)
 |_=>none
theorem vr8 (l:List Int):unInts (l.map fun n=> .a (.int .i64 n))=some l:=by
 induction l with
 |nil=>rfl
 |cons n l ih=>simp [unInts,ih]
theorem vl9:∀{es:List PV} {l:List Int},unInts es=some l→es=l.map fun n=> .a (.int .i64 n)
 | [],l,h=>by cases h;rfl
 |e::es,l,h=>by
  unfold unInts at h
  split at h
  ·rename_i h1;cases h1
  ·rename_i n es' h1
   obtain ⟨l',h2,rfl⟩:=Option.map_eq_some_iff.1 h
   cases h1
   rw [vl9 h2];rfl
  ·cases h
def sortGo (t:Nat):List CV→Option (List CV×List CV)
 | [.sl false e es]=>match unInts es with
  |some l=>if e=t∧l.length<4611686018427387904 then some ([],[.sl false e ((l.mergeSort fun x y=>decide (x≤y)).map fun n=> .a (.int .i64 n))]) else none
  |none=>none
 |_=>none
def sortC (t:Nat):Callee:=⟨[.mut 0],false,true,sortGo t⟩
theorem vfc {α:Type} [Inhabited α] (enc:α→Value) (w:World) (n blk off:Nat) (d:Array α) (os:Array Obj) (b:Nat) (hb:b<w.heap.size):
  (grow (putRow enc (Go.Sort.ahead w n) blk off d) os).heap[b]? =if blk=b then (w.heap[b]?).map (onCells (putCells enc off d)) else w.heap[b]? :=by
 simp only [grow,putRow,mapBlock,Go.Sort.ahead]
 rw [Array.getElem?_append_left (by simpa using hb),Array.getElem?_modify]
theorem vpi {α:Type} [Inhabited α] (enc:α→Value) (w:World) (n blk off:Nat) (d:Array α) (os:Array Obj):Kept w (grow (putRow enc (Go.Sort.ahead w n) blk off d) os) (fun b o=>b=blk∧off≤o∧o<off+d.size):=by
 refine ⟨rfl,rfl,rfl,by simp [grow,putRow,mapBlock,Go.Sort.ahead],fun b cur e fr hb=> ?_,fun b x hb hx=> ?_⟩
 ·have hlt:b<w.heap.size:=(Array.getElem?_eq_some_iff.1 hb).1
  rw [vfc enc w n blk off d os b hlt,hb]
  by_cases e1:blk=b
  ·rw [if_pos e1]
   refine ⟨putCells enc off d cur,rfl,by simp [putCells],fun o ho=> ?_⟩
   simp only [putCells,Array.getElem?_mapIdx]
   cases cur[o]? with
   |none=>rfl
   |some y=>
    simp only [Option.map_some]
    rw [if_neg fun hc=>ho ⟨e1.symm,hc.1,hc.2⟩]
  ·rw [if_neg e1]
   exact ⟨cur,rfl,rfl,fun _ _=>rfl⟩
 ·have hlt:b<w.heap.size:=(Array.getElem?_eq_some_iff.1 hb).1
  rw [vfc enc w n blk off d os b hlt,hb]
  split
  ·cases x with
   |cells cur e fr=>exact absurd rfl (hx cur e fr)
   |_=>rfl
  ·rfl
abbrev pI (n:Int):PV:= .a (.int .i64 n)
theorem vhs (l:List Int):flat (l.map pI)=l.map pI:=by
 induction l with
 |nil=>rfl
 |cons n l ih=>simp only [flat,List.map_cons,List.flatMap_cons,PV.cells] at ih⊢;rw [ih];rfl
theorem vvu {P:Program} {w:World} {Z Fd:Cells} {e:Nat} {l:List Int} {v:Value} (h:DC P w Z (.sl e (l.map pI)) v Fd):(∃x m,v= .slice x 0 0∧l= []∧sizeT P e=some m∧∀b o,¬Fd b o)∨
  ∃g cap cur,v= .slice (some ⟨g,0,none⟩) l.length cap∧w.heap[g]? =some (.cells cur e (0,0))∧Holds (Value.int .i64) w g 0 l.toArray∧(∀b o,Fd b o↔b=g)∧
   ∀(w':World) (Z':Cells) (l':List Int) (cur':Array Value),l'.length=l.length→w'.heap[g]? =some (.cells cur' e (0,0))→cur'.size=cur.size→(∀(k:Nat) n,l'[k]? =some n→cur'[k]? =some (.int .i64 n))→DC P w' Z' (.sl e (l'.map pI)) v Fd:=by
 generalize hes:l.map pI=es at h
 cases h with
 |nil _ m _ hm hF=>exact .inl ⟨_,m,rfl,(by cases l with|nil=>rfl|cons=>cases hes),hm,hF⟩
 |sl _ _ g len cap m cur vs Fk _ hl hm hw hg hlc hcm hsz hc hr hF hd hd0=>
  subst hes
  rw [vhs] at hc hr hF hd hd0
  have hel:len=l.length:=by simpa using hl
  subst hel
  have hat:∀(k:Nat) n,l[k]? =some n→vs k= .int .i64 n∧∀b o,¬Fk k b o:=fun k n hn=>by
   have:=hr k (pI n) (by rw [List.getElem?_map,hn];rfl)
   generalize vs k=u at this
   cases this with
   |a _ _ _ hF=>exact ⟨rfl,hF⟩
  have hkn:∀(k:Nat) b o,k<(l.map pI).length→¬Fk k b o:=fun k b o hk hf=>by
   obtain ⟨n,hn⟩:∃n,l[k]? =some n:=⟨_,List.getElem?_eq_getElem (by simpa using hk)⟩
   exact (hat k n hn).2 b o hf
  have hFd:∀b o,Fd b o↔b=g:=fun b o=>by
   rw [hF b o]
   exact ⟨fun h=>h.elim id fun ⟨k,hk,hf⟩=>(hkn k b o hk hf).elim,.inl⟩
  refine .inr ⟨g,cap,cur,rfl,hg,fun j hj=> ?_,hFd,fun w' Z' l' cur' hl' hg' hs' hc'=> ?_⟩
  ·have hjl:j<l.length:=by simpa using hj
   obtain ⟨n,hn⟩:∃n,l[j]? =some n:=⟨_,List.getElem?_eq_getElem hjl⟩
   have e1:l.toArray[j]! =n:=by
    rw [getElem!_pos _ j (by simpa using hjl)]
    have:=(List.getElem?_eq_some_iff.1 hn).2
    simpa using this
   refine ⟨?_,by simp [World.frozen?,hg]⟩
   rw [e1,Nat.zero_add,vbd hg,hc j (pI n) (by rw [List.getElem?_map,hn];rfl),(hat j n hn).1]
  ·have m1:∀n∈l',m=1:=fun n hn=>by
    have:l'≠[]:=fun h=>by rw [h] at hn;cases hn
    obtain ⟨x,hx⟩:∃x,x∈l:=by
     cases l with
     |nil=>exact absurd (List.length_eq_zero_iff.1 hl') this
     |cons x _=>exact ⟨x,by simp⟩
    exact (hw (pI x) (List.mem_map.2 ⟨x,hx,rfl⟩)).symm
   refine .sl e _ g _ cap m cur' (fun k=>match l'[k]? with|some n=> .int .i64 n|none=> .int .i64 0) (fun _ _ _=>False) Fd (by simpa using hl'.symm) hm (fun y hy=> ?_) hg' hlc hcm (by rw [hs',hsz]) (fun k c hk=> ?_) (fun k c hk=> ?_) (fun b o=> ?_) (fun _ _ _ _ _ _ _ h=>h.elim) fun _ _ _ h=>h
   ·obtain ⟨n,hn,rfl⟩:=List.mem_map.1 hy
    exact (m1 n hn).symm
   ·rw [vhs,List.getElem?_map] at hk
    obtain ⟨n,hn,rfl⟩:=Option.map_eq_some_iff.1 hk
    simp only [hn]
    exact hc' k n hn
   ·rw [vhs,List.getElem?_map] at hk
    obtain ⟨n,hn,rfl⟩:=Option.map_eq_some_iff.1 hk
    simp only [hn]
    exact .a _ _ rfl fun _ _ h=>h
   ·rw [hFd b o]
    exact ⟨.inl,fun h=>h.elim id fun ⟨_,_,h⟩=>h.elim⟩
structure IsSort (P:Program) (f:Nat):Prop where
 row:∀(blk off cap:Nat) (zs:List Int) (w:World),Holds (Value.int .i64) w blk off zs.toArray→blk<w.heap.size→zs.length<4611686018427387904→Calls P f #[.slice (some ⟨blk,off,none⟩) zs.length cap] w fun e w'=>
  e= .returned (.tuple #[])∧∃n os,w'=grow (putRow (Value.int .i64) (Go.Sort.ahead w n) blk off (zs.mergeSort fun x y=>decide (x≤y)).toArray) os
 nothing:∀(p:Option Addr) (cap:Nat) (w:World),Calls P f #[.slice p 0 cap] w fun e w'=>e= .returned (.tuple #[])∧w'=w
theorem vrv {P:Program} {f t:Nat} (L:IsSort P f) {fn:Func} (hfn:P.funcs[f]? =some fn) (hname:(fn.name== "runtime.NumGoroutine")=false) (hbody:fn.body.isNone=false):Sound P f (sortC t) where
 ans:=by
  intro w Z cs args F rs fs hc hZ hF hk hgo
  simp only [sortC,sortGo] at hgo
  split at hgo
  ·rename_i e es
   split at hgo
   ·rename_i l hl
    split at hgo
    ·rename_i hcond
     obtain ⟨rfl,hlen⟩:=hcond
     cases hgo
     have hes:=vl9 hl
     subst hes
     simp only [CRL,CR] at hc
     obtain ⟨v,vs',F1,F2,rfl,hd,⟨rfl,hF2⟩,_,hFF⟩:=hc
     intro o a K Q hK
     have hcall:(callFunc f #[v]).run P w= .ok (.enter f #[v]) w:=by
      unfold callFunc
      simp only [Sem.run_bind,run_program,Result.andThen_ok,hfn,hname,Bool.false_eq_true,if_false,hbody,Sem.run_pure]
     show o.upon P a K Q ((callFunc f #[v]).run P w)
     rw [hcall,Oper.upon_enter]
     rcases vvu hd with ⟨x,m,rfl,rfl,hm,hF1⟩|⟨g,cap,cur,rfl,hg,hH,hFd,hput⟩
     ·refine (L.nothing x 0 w).mono ?_
      rintro e' w' ⟨rfl,rfl⟩
      refine hK _ _ ⟨[],F,rfl,rfl,Kept.refl w' F,?_,fun b o hf=>⟨.inl hf,hF b o hf⟩⟩
      simp only [List.nil_append,sortC,muts,CRL,CR,Bool.false_eq_true,if_false,List.mergeSort_nil,List.map_nil]
      exact ⟨_,_,F1,F2,rfl,.nil _ m _ hm hF1,⟨rfl,hF2⟩,fun b o h1 h2=>hF2 b o h2,hFF⟩
     ·have hgl:g<w.heap.size:=(Array.getElem?_eq_some_iff.1 hg).1
      refine (L.row g 0 cap l w hH hgl hlen).mono ?_
      rintro e' w' ⟨rfl,n,os,rfl⟩
      have hk:=vpi (Value.int .i64) w n g 0 (l.mergeSort fun x y=>decide (x≤y)).toArray os
      have hgF:∀b o,b=g→F b o:=fun b o hb=>(hFF b o).2 (.inl ((hFd b o).2 hb))
      have hsz:l.length≤cur.size:=by
       refine Nat.le_of_not_lt fun hlt=> ?_
       have:=(hH cur.size (by simpa using hlt)).1
       rw [Nat.zero_add,vbd hg,Array.getElem?_eq_none (Nat.le_refl _)] at this
       cases this
      refine hK _ _ ⟨[],F,rfl,rfl,⟨hk.os,hk.tape,hk.output,hk.size,fun b cur e fr h=> ?_,hk.other⟩,?_,fun b o hf=>⟨.inl hf,Nat.lt_of_lt_of_le (hF b o hf) hk.size⟩⟩
      ·obtain ⟨cur',h1,h2,h3⟩:=hk.cells b cur e fr h
       exact ⟨cur',h1,h2,fun o ho=>h3 o fun hm=>ho (hgF b o hm.1)⟩
      ·simp only [List.nil_append,sortC,muts,CRL,CR,Bool.false_eq_true,if_false]
       refine ⟨_,_,F1,F2,rfl,?_,⟨rfl,hF2⟩,fun b o h1 h2=>hF2 b o h2,hFF⟩
       refine hput _ _ _ (putCells (Value.int .i64) 0 (l.mergeSort fun x y=>decide (x≤y)).toArray cur) (List.length_mergeSort ..) ?_ (by simp [putCells]) fun k x hx=> ?_
       ·rw [vfc _ w n g 0 _ os g hgl,if_pos rfl,hg];rfl
       ·have hkl:k<l.length:=by
         have:=(List.getElem?_eq_some_iff.1 hx).1
         rwa [List.length_mergeSort] at this
        have hks:k<(l.mergeSort fun x y=>decide (x≤y)).length:=by rw [List.length_mergeSort];exact hkl
        simp only [putCells,Array.getElem?_mapIdx]
        rw [Array.getElem?_eq_getElem (by omega),Option.map_some,if_pos ⟨Nat.zero_le _,by simpa using hkl⟩,Nat.sub_zero]
        rw [getElem!_pos _ k (by simpa using hkl)]
        have:=(List.getElem?_eq_some_iff.1 hx).2
        simp [this]
    ·cases hgo
   ·cases hgo
  ·cases hgo
 nofz:=by
  intro _ cs rs fs _ hgo
  simp only [sortC,sortGo] at hgo
  split at hgo
  ·split at hgo
   ·split at hgo
    ·cases hgo
     simp only [List.nil_append,cnofzL,cnofz,and_true]
     rw [vaz]
     intro _ y hy
     obtain ⟨n,_,rfl⟩:=List.mem_map.1 hy
     simp only [nofz]
    ·cases hgo
   ·cases hgo
  ·cases hgo
end Go.Proofs.YteomgghmhicpcaaDoor.VM
