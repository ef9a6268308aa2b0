/- Canonical forms of graphs: in plain words; where a number stands. Canonical forms of graphs: the program's. Canonical forms of graphs: the program's, whole. Canonical forms of graphs: the reference's. -/
import Derived.Test.YteomgghmhicpcaaDoorLawD
namespace Go.Proofs.YteomgghmhicpcaaDoor.VM
open Go Sy
variable {Φ:Nat→Option Callee} {N:Nat}
def nm (F:List Nat) (v:Int):Int:=idxOf (fun x:Nat=>decide ((x:Int)=v-1)) F+1
def nmK (F:List Nat) (s:ByteArray):Nat→List Int→List Int
 |_,[]=> []
 |k,v::l=>(if refAt s k then nm F v else v)::nmK F s (k+1) l
def plainO (ts:List ByteArray) (F:List Nat) (o:Obj'):Obj':=match ts[o.ty.toNat]? with
 |some s=>⟨o.ty,nmK F s 0 o.vals⟩
 |none=>o
def plainN (ts:List ByteArray) (F:List Nat) (g:Gr) (k:Nat):Obj':=match g.nodes[k]? with
 |some o=>plainO ts F o
 |none=>⟨0,[]⟩
def plainG (ts:List ByteArray) (g:Gr):Gr:=⟨g.roots.map (nm (found ts g)),(found ts g).map (plainN ts (found ts g) g)⟩
theorem vdg {F:List Nat} {s:ByteArray}:∀{l:List Int} {k:Nat},(nmK F s k l).length=l.length
 | [],_=>rfl
 |v::l,k=>by rw [nmK,List.length_cons,List.length_cons,vdg]
theorem vh0 {F:List Nat} {s:ByteArray}:∀{l:List Int} {k i:Nat},(nmK F s k l)[i]? =(l[i]?).map fun v=>if refAt s (k+i) then nm F v else v
 | [],_,_=>by simp [nmK]
 |v::l,k,0=>by simp [nmK]
 |v::l,k,i+1=>by
  rw [nmK,List.getElem?_cons_succ,List.getElem?_cons_succ,vh0,show k+1+i=k+(i+1) by omega]
theorem voh {α:Type} (q:α→Bool) (l:List α): -1≤idxOf q l∧idxOf q l<l.length:=by
 unfold idxOf
 cases h:l.findIdx? q with
 |some i=>obtain ⟨hi,_⟩:=List.findIdx?_eq_some_iff_getElem.1 h;dsimp only;omega
 |none=>dsimp only;omega
theorem vj5 (F:List Nat) (v:Int):0≤nm F v∧nm F v≤F.length:=by
 have:=voh (fun x:Nat=>decide ((x:Int)=v-1)) F
 unfold nm;omega
def Rn (F:List Nat) (n:Nat):List Int:=(List.range (n+1)).map fun v:Nat=>nm F v
theorem vj2 {F:List Nat} {n v:Nat} (h:v≤n):(Rn F n)[v]? =some (nm F v):=by
 unfold Rn
 rw [List.getElem?_map,List.getElem?_range (by omega)];rfl
theorem qbo (n:Nat):Rn [] n=List.replicate (n+1) 0:=by
 unfold Rn
 rw [List.eq_replicate_iff]
 refine ⟨by simp,fun b hb=> ?_⟩
 obtain ⟨v,_,rfl⟩:=List.mem_map.1 hb
 rfl
theorem vx9 {F:List Nat} {k:Nat} (hk:k∉F) (v:Nat):nm (F++ [k]) v=if k+1=v then ((F.length+1:Nat):Int) else nm F v:=by
 unfold nm idxOf
 rw [List.findIdx?_append]
 by_cases c:k+1=v
 ·subst c
  rw [if_pos rfl]
  rw [show F.findIdx? (fun x:Nat=>decide ((x:Int)=((k+1:Nat):Int)-1))=none from List.findIdx?_eq_none_iff.2 fun x hx=>by
   rw [decide_eq_false]
   intro he
   have:x=k:=by omega
   subst this
   exact hk hx]
  rw [show [k].findIdx? (fun x:Nat=>decide ((x:Int)=((k+1:Nat):Int)-1))=some 0 from by
   rw [List.findIdx?_cons,show decide ((k:Int)=((k+1:Nat):Int)-1)=true from decide_eq_true (by omega)];rfl]
  simp
 ·rw [if_neg c]
  rw [show [k].findIdx? (fun x:Nat=>decide ((x:Int)=(v:Int)-1))=none from by
   rw [List.findIdx?_cons,show decide ((k:Int)=(v:Int)-1)=false from decide_eq_false (by omega)];rfl]
  cases F.findIdx? (fun x:Nat=>decide ((x:Int)=(v:Int)-1))<;>rfl
theorem vzg {F:List Nat} {n i k:Nat} (hd:F.Nodup) (hk:F[i]? =some k):(Rn (F.take i) n).set (k+1) ((i+1:Nat):Int)=Rn (F.take (i+1)) n:=by
 have hi:i<F.length:=(List.getElem?_eq_some_iff.1 hk).1
 have hnk:k∉F.take i:=by
  intro hm
  obtain ⟨j,hj,hjk⟩:=List.mem_iff_getElem.1 hm
  rw [List.length_take] at hj
  rw [List.getElem_take] at hjk
  have hk':=(List.getElem?_eq_some_iff.1 hk).2
  have:=(List.getElem_inj (h₀:=by omega) (h₁:=hi) hd).1 (hjk.trans hk'.symm)
  omega
 apply List.ext_getElem?
 intro v
 rw [List.getElem?_set]
 rw [List.take_add_one,hk,Option.toList_some]
 by_cases hv:v≤n
 ·rw [vj2 hv,vj2 hv,vx9 hnk,List.length_take,Nat.min_eq_left (by omega)]
  have hlen:(Rn (F.take i) n).length=n+1:=by simp [Rn]
  by_cases c:k+1=v
  ·rw [if_pos c,if_pos c,if_pos (by omega)]
  ·rw [if_neg c,if_neg c]
 ·have e1:(Rn (F.take i) n)[v]? =none:=List.getElem?_eq_none (by simp [Rn];omega)
  have e2:(Rn (F.take i++ [k]) n)[v]? =none:=List.getElem?_eq_none (by simp [Rn];omega)
  have hlen:(Rn (F.take i) n).length=n+1:=by simp [Rn]
  rw [e1,e2]
  split
  ·rw [if_neg (by omega)]
  ·rfl
def S95 (l:List Nat) (n:Int) (i:Nat):St:=⟨[(0,.sz t_i64 (l.map eNat)),(1,.a (.int .i64 n)),(5,.a (.int .i64 i))],[],0⟩
theorem vww (l:List Nat) (n:Int) (hl:l.length≤1048576):
  loopE Φ fuel [0,1,5] c_spec_l7Place_L0 (S95 l n 0)=
  some (match l.findIdx? (fun x:Nat=>decide ((x:Int)=n)) with|some i=>(.ret,⟨[(4,.a (.int .i64 (i:Nat)))],[],1200⟩)|none=>(.ext 0,⟨[(0,.sz t_i64 (l.map eNat)),(1,.a (.int .i64 n)),(5,.a (.int .i64 l.length)),(9,.a (.bool false))],[],400⟩)):=by
 refine vbf (S95 l n) _ (fun i=>∀(j:Nat) b,j<i→l[j]? =some b→decide ((b:Int)=n)=false) (m:=l.length) (vas (by omega)) (fun j b h=>by omega) (by split<;>simp) (fun i hi hp=> ?_)
 by_cases hi':i<l.length
 ·obtain ⟨b,hb⟩:∃b,l[i]? =some b:=⟨_,List.getElem?_eq_getElem hi'⟩
  have hw:=vag i (by omega)
  unfold round S95 c_spec_l7Place_L0
  by_cases c:(b:Int)=n
  ·right
   rw [vdi (q:=fun x:Nat=>decide ((x:Int)=n)) hb (decide_eq_true c) hp]
   simp (maxSteps:=3000000) (implicitDefEqProofs:=false) (disch:=first|assumption|(refine ofR ?_;show norm _ _=_;kernel_rfl)|(refine ofR ?_;show okD _ _ _ _=true;kernel_rfl)|exact ofR (by with_unfolding_all rfl)|exact ofB (by with_unfolding_all rfl)|omega|(simp only [go_sem,vab];omega)) only [go_sem,Nat.reduceAdd,Nat.reduceBEq,hb,hw]
  ·refine .inl ⟨hi',?_,fun j y hj hy=> ?_⟩
   ·simp (maxSteps:=3000000) (implicitDefEqProofs:=false) (disch:=first|assumption|(refine ofR ?_;show norm _ _=_;kernel_rfl)|(refine ofR ?_;show okD _ _ _ _=true;kernel_rfl)|exact ofR (by with_unfolding_all rfl)|exact ofB (by with_unfolding_all rfl)|omega|(simp only [go_sem,vab];omega)) only [go_sem,Nat.reduceAdd,Nat.reduceBEq,hb,hw]
    kernel_rfl
   ·by_cases hji:j=i
    ·subst hji;rw [hb] at hy;cases hy;exact decide_eq_false c
    ·exact hp j y (by omega) hy
 ·obtain rfl:i=l.length:=by omega
  right
  rw [vde fun j y hy=>hp j y (by have:=(List.getElem?_eq_some_iff.1 hy).1;omega) hy]
  unfold round S95 c_spec_l7Place_L0
  simp (maxSteps:=3000000) (implicitDefEqProofs:=false) (disch:=first|assumption|(refine ofR ?_;show norm _ _=_;kernel_rfl)|(refine ofR ?_;show okD _ _ _ _=true;kernel_rfl)|exact ofR (by with_unfolding_all rfl)|exact ofB (by with_unfolding_all rfl)|omega|(simp only [go_sem,vab];omega)) only [go_sem,Nat.reduceAdd,Nat.reduceBEq]
theorem vmv (l:List Nat) (n:Int) (hl:l.length≤1048576):runFn Φ fuel f_spec_l7Place [.sl true t_i64 (l.map eNat),.a (.int .i64 n)]=some ([.a (.int .i64 (idxOf (fun x:Nat=>decide ((x:Int)=n)) l))],[]):=by
 have key:=vww (Φ:=Φ) l n hl
 unfold S95 at key
 rw [vae rfl]
 unfold idxOf
 cases h:l.findIdx? (fun x:Nat=>decide ((x:Int)=n)) with
 |some i=>
  rw [h] at key
  dsimp only at key
  simp (maxSteps:=3000000) (implicitDefEqProofs:=false) (disch:=first|assumption|(refine ofR ?_;show norm _ _=_;kernel_rfl)|(refine ofR ?_;show okD _ _ _ _=true;kernel_rfl)|exact ofR (by with_unfolding_all rfl)|exact ofB (by with_unfolding_all rfl)|omega|(simp only [go_sem,vab];omega)) only [go_sem,Nat.reduceAdd,Nat.reduceBEq,f_spec_l7Place,c_spec_l7Place,vbo key]
 |none=>
  rw [h] at key
  dsimp only at key
  simp (maxSteps:=3000000) (implicitDefEqProofs:=false) (disch:=first|assumption|(refine ofR ?_;show norm _ _=_;kernel_rfl)|(refine ofR ?_;show okD _ _ _ _=true;kernel_rfl)|exact ofR (by with_unfolding_all rfl)|exact ofB (by with_unfolding_all rfl)|omega|(simp only [go_sem,vab];omega)) only [go_sem,Nat.reduceAdd,Nat.reduceBEq,f_spec_l7Place,c_spec_l7Place,vah key]
end Go.Proofs.YteomgghmhicpcaaDoor.VM
namespace Go.Proofs.YteomgghmhicpcaaDoor.VM
open Go Sy
variable {Φ:Nat→Option Callee} {N:Nat}
def mixL {α:Type} (A B:List α) (j:Nat):List α:=A.take j++B.drop j
theorem qb5 {α:Type} (A B:List α):mixL A B 0=B:=by simp [mixL]
theorem vv4 {α:Type} {A B:List α} (h:A.length=B.length):mixL A B B.length=A:=by
 unfold mixL
 rw [←h,List.take_length,h,List.drop_length,List.append_nil]
theorem vp7 {α:Type} {A B:List α} (h:A.length=B.length) {j:Nat}:(mixL A B j).length=B.length:=by
 unfold mixL
 rw [List.length_append,List.length_take,List.length_drop];omega
theorem vw6 {α:Type} {A B:List α} (h:A.length=B.length) {j:Nat}:(mixL A B j)[j]? =B[j]? :=by
 unfold mixL
 by_cases c:j≤A.length
 ·rw [List.getElem?_append_right (by rw [List.length_take];omega),List.length_take,Nat.min_eq_left c,Nat.sub_self,List.getElem?_drop,Nat.add_zero]
 ·rw [List.getElem?_eq_none (by rw [List.length_append,List.length_take,List.length_drop];omega),List.getElem?_eq_none (by omega)]
theorem vv2 {α:Type} {A B:List α} (h:A.length=B.length) {j:Nat} {a:α} (ha:A[j]? =some a):(mixL A B j).set j a=mixL A B (j+1):=by
 have hj:j<A.length:=(List.getElem?_eq_some_iff.1 ha).1
 have hlt:(A.take j).length=j:=by rw [List.length_take];omega
 unfold mixL
 rw [List.take_add_one,ha,Option.toList_some,List.append_assoc,List.set_append_right _ _ (by omega),hlt,Nat.sub_self]
 congr 1
 rw [List.drop_eq_getElem_cons (by omega),List.set_cons_zero,List.singleton_append]
theorem vt7 {α:Type} {A B:List α} (h:A.length=B.length) {j:Nat} {a:α} (ha:A[j]? =some a) (hb:B[j]? =some a):mixL A B (j+1)=mixL A B j:=by
 have hj:j<A.length:=(List.getElem?_eq_some_iff.1 ha).1
 unfold mixL
 rw [List.take_add_one,ha,Option.toList_some,List.append_assoc]
 congr 1
 rw [List.drop_eq_getElem_cons (by omega:j<B.length),(List.getElem?_eq_some_iff.1 hb).2,List.singleton_append]
abbrev nP0 (g:Gr) (O:List Nat) (R:List Int) (i:Nat):List (Nat×Option Node):=if i=0 then [(0,some (.bx false (uGr g))),(1,some (.bx false [.rf 4,.rf 5])),(2,some (.sl false 0 t_i64 (O.map eNat))),(3,some (.sl false 0 t_i64 (R.map eInt))),(4,some (.sl false 0 t_i64 [])),(5,some (.sl false 0 t_impl_Obj []))]
 else [(0,some (.bx false (uGr g))),(1,some (.bx false [.rf 4,.rf 5])),(2,some (.sl false 0 t_i64 (O.map eNat))),(3,some (.sl false 0 t_i64 (R.map eInt))),(4,some (.sl false 0 t_i64 [])),(5,some (.sl false 0 t_impl_Obj []))]
def SP0 (ts:List ByteArray) (g:Gr) (F:List Nat) (i:Nat):St:=⟨[(0,.sz t_string (ts.map eStr)),(3,.rf 0),(4,.rf 1),(5,.rf 2),(6,.rf 3),(25,.rf 2),(26,.a (.int .i64 F.length)),(27,.a (.int .i64 i))],nP0 g F (Rn (F.take i) g.nodes.length) i,6⟩
theorem vv6 {ts:List ByteArray} {g:Gr} {F:List Nat} (hn:g.nodes.length≤400) (hd:F.Nodup) (hF:∀k∈F,k<g.nodes.length) (hl:F.length≤g.nodes.length):
  loopE Φ fuel [0,3,4,5,6,25,26,27] c_impl_plain_L0 (SP0 ts g F 0)=some (.ext 0,⟨[(0,.sz t_string (ts.map eStr)),(3,.rf 0),(4,.rf 1),(5,.rf 2),(6,.rf 3),(25,.rf 2),(26,.a (.int .i64 F.length)),(27,.a (.int .i64 F.length)),(28,.a (.bool false))],nP0 g F (Rn F g.nodes.length) F.length,106⟩):=by
 refine vbq (SP0 ts g F) _ (m:=F.length) (vas (by omega)) (fun i hi=> ?_) ?_
 ·obtain ⟨k,hk⟩:∃v,F[i]? =some v:=⟨_,List.getElem?_eq_getElem hi⟩
  have hkn:=hF k (List.mem_of_getElem? hk)
  have hst:=vzg (n:=g.nodes.length) hd hk
  have hw:=vag i (by omega)
  have hwk:=vag k (by omega)
  have hlen:(Rn (F.take i) g.nodes.length).length=g.nodes.length+1:=by simp [Rn]
  have hset:((Rn (F.take i) g.nodes.length).map eInt).set (k+1) (.a (.int .i64 ((i+1:Nat):Int)))=(Rn (F.take (i+1)) g.nodes.length).map eInt:=by rw [←hst,List.map_set];rfl
  unfold round SP0 c_impl_plain_L0 nP0
  rw [if_neg (Nat.succ_ne_zero i)]
  obtain ⟨old,ho⟩:∃v,(Rn (F.take i) g.nodes.length)[k+1]? =some v:=⟨_,List.getElem?_eq_getElem (by omega)⟩
  generalize Rn (F.take (i+1)) g.nodes.length=R' at *
  generalize Rn (F.take i) g.nodes.length=R at *
  by_cases c:i=0
  ·rw [if_pos c]
   simp (maxSteps:=3000000) (implicitDefEqProofs:=false) (disch:=first|assumption|(refine ofR ?_;show norm _ _=_;kernel_rfl)|(refine ofR ?_;show okD _ _ _ _=true;kernel_rfl)|exact ofR (by with_unfolding_all rfl)|exact ofB (by with_unfolding_all rfl)|omega|(simp only [go_sem,vab];omega)) only [go_sem,Nat.reduceAdd,Nat.reduceBEq,hk,hw,hwk,ho,hset]
   (show some _=some _;kernel_rfl)
  ·rw [if_neg c]
   simp (maxSteps:=3000000) (implicitDefEqProofs:=false) (disch:=first|assumption|(refine ofR ?_;show norm _ _=_;kernel_rfl)|(refine ofR ?_;show okD _ _ _ _=true;kernel_rfl)|exact ofR (by with_unfolding_all rfl)|exact ofB (by with_unfolding_all rfl)|omega|(simp only [go_sem,vab];omega)) only [go_sem,Nat.reduceAdd,Nat.reduceBEq,hk,hw,hwk,ho,hset]
   (show some _=some _;kernel_rfl)
 ·unfold round SP0 c_impl_plain_L0 nP0
  rw [List.take_length]
  by_cases c:F.length=0
  ·rw [if_pos c]
   simp (maxSteps:=3000000) (implicitDefEqProofs:=false) (disch:=first|assumption|(refine ofR ?_;show norm _ _=_;kernel_rfl)|(refine ofR ?_;show okD _ _ _ _=true;kernel_rfl)|exact ofR (by with_unfolding_all rfl)|exact ofB (by with_unfolding_all rfl)|omega|(simp only [go_sem,vab];omega)) only [go_sem,Nat.reduceAdd,Nat.reduceBEq]
  ·rw [if_neg c]
   simp (maxSteps:=3000000) (implicitDefEqProofs:=false) (disch:=first|assumption|(refine ofR ?_;show norm _ _=_;kernel_rfl)|(refine ofR ?_;show okD _ _ _ _=true;kernel_rfl)|exact ofR (by with_unfolding_all rfl)|exact ofB (by with_unfolding_all rfl)|omega|(simp only [go_sem,vab];omega)) only [go_sem,Nat.reduceAdd,Nat.reduceBEq]
abbrev nP1 (g:Gr) (O:List Nat) (R X:List Int) (i:Nat):List (Nat×Option Node):=if i=0 then [(0,some (.bx false (uGr g))),(1,some (.bx false [.rf 5,.rf 6])),(2,some (.sl false 0 t_i64 (O.map eNat))),(3,some (.sl false 0 t_i64 (R.map eInt))),(4,some (.bx false [.rf 7,.rf 8])),(5,some (.sl false 0 t_i64 [])),(6,some (.sl false 0 t_impl_Obj [])),(7,some (.sl false 0 t_i64 (X.map eInt))),(8,some (.sl false 0 t_impl_Obj []))]
 else [(0,some (.bx false (uGr g))),(1,some (.bx false [.rf 5,.rf 6])),(2,some (.sl false 0 t_i64 (O.map eNat))),(3,some (.sl false 0 t_i64 (R.map eInt))),(4,some (.bx false [.rf 7,.rf 8])),(5,some (.sl false 0 t_i64 [])),(6,some (.sl false 0 t_impl_Obj [])),(7,some (.sl false 0 t_i64 (X.map eInt))),(8,some (.sl false 0 t_impl_Obj []))]
def SP1 (ts:List ByteArray) (g:Gr) (F:List Nat) (i:Nat):St:=⟨[(0,.sz t_string (ts.map eStr)),(3,.rf 0),(4,.rf 1),(5,.rf 2),(6,.rf 3),(9,.rf 4),(41,.sz t_i64 (g.roots.map eInt)),(42,.a (.int .i64 g.roots.length)),(43,.a (.int .i64 i))],nP1 g F (Rn F g.nodes.length) ((g.roots.take i).map (nm F)) i,9⟩
theorem vf3 {α β:Type} (f:α→β) {l:List α} {i:Nat} {x:α} (h:l[i]? =some x):(l.take (i+1)).map f=(l.take i).map f++ [f x]:=by
 rw [List.take_add_one,h];simp
theorem vxd {ts:List ByteArray} {g:Gr} {F:List Nat} (hr:g.roots.length≤40) (hv:∀v∈g.roots,0≤v∧v≤(g.nodes.length:Int)):
  loopE Φ fuel [0,3,4,5,6,9,41,42,43] c_impl_plain_L1 (SP1 ts g F 0)=some (.ext 2,⟨[(0,.sz t_string (ts.map eStr)),(3,.rf 0),(4,.rf 1),(5,.rf 2),(6,.rf 3),(9,.rf 4),(41,.sz t_i64 (g.roots.map eInt)),(42,.a (.int .i64 g.roots.length)),(43,.a (.int .i64 g.roots.length)),(44,.a (.bool false))],nP1 g F (Rn F g.nodes.length) (g.roots.map (nm F)) g.roots.length,109⟩):=by
 refine vbq (SP1 ts g F) _ (m:=g.roots.length) (vas (by omega)) (fun i hi=> ?_) ?_
 ·obtain ⟨v,hk⟩:∃v,g.roots[i]? =some v:=⟨_,List.getElem?_eq_getElem hi⟩
  obtain ⟨v0,v1⟩:=hv v (List.mem_of_getElem? hk)
  obtain ⟨w,rfl⟩:∃w:Nat,v=(w:Int):=⟨v.toNat,by omega⟩
  have hg:=vj2 (F:=F) (n:=g.nodes.length) (v:=w) (by omega)
  have hw:=vag i (by omega)
  have hlen:(Rn F g.nodes.length).length=g.nodes.length+1:=by simp [Rn]
  have hX:((g.roots.take i).map (nm F)).length≤40:=by rw [List.length_map,List.length_take];omega
  unfold round SP1 c_impl_plain_L1 nP1
  rw [if_neg (Nat.succ_ne_zero i),vf3 _ hk]
  generalize (g.roots.take i).map (nm F)=X at *
  generalize Rn F g.nodes.length=R at *
  generalize nm F w=y at *
  by_cases c:i=0
  ·rw [if_pos c]
   simp (maxSteps:=3000000) (implicitDefEqProofs:=false) (disch:=first|assumption|(refine ofR ?_;show norm _ _=_;kernel_rfl)|(refine ofR ?_;show okD _ _ _ _=true;kernel_rfl)|exact ofR (by with_unfolding_all rfl)|exact ofB (by with_unfolding_all rfl)|omega|(simp only [go_sem,vab];omega)) only [go_sem,Nat.reduceAdd,Nat.reduceBEq,hk,hw,hg]
   (show some _=some _;kernel_rfl)
  ·rw [if_neg c]
   simp (maxSteps:=3000000) (implicitDefEqProofs:=false) (disch:=first|assumption|(refine ofR ?_;show norm _ _=_;kernel_rfl)|(refine ofR ?_;show okD _ _ _ _=true;kernel_rfl)|exact ofR (by with_unfolding_all rfl)|exact ofB (by with_unfolding_all rfl)|omega|(simp only [go_sem,vab];omega)) only [go_sem,Nat.reduceAdd,Nat.reduceBEq,hk,hw,hg]
   (show some _=some _;kernel_rfl)
 ·unfold round SP1 c_impl_plain_L1 nP1
  rw [List.take_length]
  by_cases c:g.roots.length=0
  ·rw [if_pos c]
   simp (maxSteps:=3000000) (implicitDefEqProofs:=false) (disch:=first|assumption|(refine ofR ?_;show norm _ _=_;kernel_rfl)|(refine ofR ?_;show okD _ _ _ _=true;kernel_rfl)|exact ofR (by with_unfolding_all rfl)|exact ofB (by with_unfolding_all rfl)|omega|(simp only [go_sem,vab];omega)) only [go_sem,Nat.reduceAdd,Nat.reduceBEq]
  ·rw [if_neg c]
   simp (maxSteps:=3000000) (implicitDefEqProofs:=false) (disch:=first|assumption|(refine ofR ?_;show norm _ _=_;kernel_rfl)|(refine ofR ?_;show okD _ _ _ _=true;kernel_rfl)|exact ofR (by with_unfolding_all rfl)|exact ofB (by with_unfolding_all rfl)|omega|(simp only [go_sem,vab];omega)) only [go_sem,Nat.reduceAdd,Nat.reduceBEq]
abbrev nP3 (g:Gr) (O:List Nat) (R X:List Int) (P:List Obj') (t:Nat) (V:List Int):List (Nat×Option Node):= [(0,some (.bx false (uGr g))),(1,some (.bx false [.rf 7,.rf 8])),(2,some (.sl false 0 t_i64 (R.map eInt))),(3,some (.bx false [.rf 9,.rf 10])),(4,some (.bx false [.a (.int .i64 t),.rf 6])),(5,some (.sl false 0 t_i64 (O.map eNat))),(6,some (.sl false 0 t_i64 (V.map eInt))),(7,some (.sl false 0 t_i64 [])),(8,some (.sl false 0 t_impl_Obj [])),(9,some (.sl false 0 t_i64 (X.map eInt))),(10,some (.sl false 0 t_impl_Obj (P.map eObj)))]
def SP3 (ts:List ByteArray) (g:Gr) (F:List Nat) (X:List Int) (P:List Obj') (t:Nat) (A V:List Int) (q i:Nat):St:=⟨[(0,.sz t_string (ts.map eStr)),(3,.rf 0),(4,.rf 1),(6,.rf 2),(9,.rf 3),(14,.rf 4),(57,.rf 5),(58,.a (.int .i64 F.length)),(59,.a (.int .i64 q)),(78,.rf 6),(79,.a (.int .i64 V.length)),(80,.a (.int .i64 i))],nP3 g F (Rn F g.nodes.length) X P t (mixL A V i),11⟩
theorem vxb {ts:List ByteArray} {g:Gr} {F:List Nat} {X:List Int} {P:List Obj'} {q:Nat} (hn:g.nodes.length≤400) {t:Nat} {s:ByteArray} {V:List Int} (hs:ts[t]? =some s) (hz:V.length=s.size) (hss:s.size≤23) (hv:∀(j:Nat) v,V[j]? =some v→refAt s j=true→0≤v∧v≤(g.nodes.length:Int)):
  loopE Φ fuel [0,3,4,6,9,14,57,58,59,78,79,80] c_impl_plain_L3 (SP3 ts g F X P t (nmK F s 0 V) V q 0)=some (.ext 6,⟨[(0,.sz t_string (ts.map eStr)),(3,.rf 0),(4,.rf 1),(6,.rf 2),(9,.rf 3),(14,.rf 4),(57,.rf 5),(58,.a (.int .i64 F.length)),(59,.a (.int .i64 q)),(78,.rf 6),(79,.a (.int .i64 V.length)),(80,.a (.int .i64 V.length)),(81,.a (.bool false))],nP3 g F (Rn F g.nodes.length) X P t (nmK F s 0 V),111⟩):=by
 have htl:t<ts.length:=(List.getElem?_eq_some_iff.1 hs).1
 have hAB:(nmK F s 0 V).length=V.length:=vdg
 refine vbq (SP3 ts g F X P t (nmK F s 0 V) V q) _ (m:=V.length) (vas (by omega)) (fun i hi=> ?_) ?_
 ·obtain ⟨v,hk⟩:∃v,V[i]? =some v:=⟨_,List.getElem?_eq_getElem hi⟩
  obtain ⟨b,hb⟩:∃b,(ch s)[i]? =some b:=⟨_,List.getElem?_eq_getElem (by rw [←vck];omega)⟩
  have hx:=vd1 hb
  have hw:=vag i (by omega)
  have hr:refAt s i=decide ((b.toNat:Int)=114):=by simp only [refAt,hb]
  have hm:(mixL (nmK F s 0 V) V i)[i]? =some v:=by rw [vw6 hAB,hk]
  have hml:(mixL (nmK F s 0 V) V i).length=V.length:=vp7 hAB
  have hlen:(Rn F g.nodes.length).length=g.nodes.length+1:=by simp [Rn]
  have hA:(nmK F s 0 V)[i]? =some (if refAt s i then nm F v else v):=by rw [vh0,hk,Option.map_some,Nat.zero_add]
  unfold round SP3 c_impl_plain_L3 nP3
  by_cases c1:(b.toNat:Int)=114
  ·obtain ⟨v0,v1⟩:=hv i v hk (by rw [hr];exact decide_eq_true c1)
   obtain ⟨w,rfl⟩:∃w:Nat,v=(w:Int):=⟨v.toNat,by omega⟩
   have hg:=vj2 (F:=F) (n:=g.nodes.length) (v:=w) (by omega)
   rw [hr,decide_eq_true c1,if_pos rfl] at hA
   have hset:((mixL (nmK F s 0 V) V i).map eInt).set i (.a (.int .i64 (nm F w)))=(mixL (nmK F s 0 V) V (i+1)).map eInt:=by rw [←vv2 hAB hA,List.map_set];rfl
   generalize mixL (nmK F s 0 V) V i=M at *
   generalize mixL (nmK F s 0 V) V (i+1)=M' at *
   generalize Rn F g.nodes.length=R at *
   generalize nm F w=y at *
   simp (maxSteps:=3000000) (implicitDefEqProofs:=false) (disch:=first|assumption|(refine ofR ?_;show norm _ _=_;kernel_rfl)|(refine ofR ?_;show okD _ _ _ _=true;kernel_rfl)|exact ofR (by with_unfolding_all rfl)|exact ofB (by with_unfolding_all rfl)|omega|(simp only [go_sem,vab];omega)) only [go_sem,Nat.reduceAdd,Nat.reduceBEq,hm,hx,hs,hw,c1,hg,hset]
   (show some _=some _;kernel_rfl)
  ·rw [hr,decide_eq_false c1,if_neg (by simp)] at hA
   rw [vt7 hAB hA hk]
   generalize mixL (nmK F s 0 V) V i=M at *
   simp (maxSteps:=3000000) (implicitDefEqProofs:=false) (disch:=first|assumption|(refine ofR ?_;show norm _ _=_;kernel_rfl)|(refine ofR ?_;show okD _ _ _ _=true;kernel_rfl)|exact ofR (by with_unfolding_all rfl)|exact ofB (by with_unfolding_all rfl)|omega|(simp only [go_sem,vab];omega)) only [go_sem,Nat.reduceAdd,Nat.reduceBEq,hm,hx,hs,hw]
   (show some _=some _;kernel_rfl)
 ·unfold round SP3 c_impl_plain_L3 nP3
  rw [vv4 hAB]
  simp (maxSteps:=3000000) (implicitDefEqProofs:=false) (disch:=first|assumption|(refine ofR ?_;show norm _ _=_;kernel_rfl)|(refine ofR ?_;show okD _ _ _ _=true;kernel_rfl)|exact ofR (by with_unfolding_all rfl)|exact ofB (by with_unfolding_all rfl)|omega|(simp only [go_sem,vab];omega)) only [go_sem,Nat.reduceAdd,Nat.reduceBEq]
end Go.Proofs.YteomgghmhicpcaaDoor.VM
namespace Go.Proofs.YteomgghmhicpcaaDoor.VM
open Go Sy
variable {Φ:Nat→Option Callee} {N:Nat}
abbrev nP2 (g:Gr) (O:List Nat) (R X:List Int) (P:List Obj'):List (Nat×Option Node):= [(0,some (.bx false (uGr g))),(1,some (.bx false [.rf 5,.rf 6])),(2,some (.sl false 0 t_i64 (R.map eInt))),(3,some (.bx false [.rf 7,.rf 8])),(4,some (.sl false 0 t_i64 (O.map eNat))),(5,some (.sl false 0 t_i64 [])),(6,some (.sl false 0 t_impl_Obj [])),(7,some (.sl false 0 t_i64 (X.map eInt))),(8,some (.sl false 0 t_impl_Obj (P.map eObj)))]
def SP2 (ts:List ByteArray) (g:Gr) (F:List Nat) (X:List Int) (i:Nat):St:=⟨[(0,.sz t_string (ts.map eStr)),(3,.rf 0),(4,.rf 1),(6,.rf 2),(9,.rf 3),(57,.rf 4),(58,.a (.int .i64 F.length)),(59,.a (.int .i64 i))],nP2 g F (Rn F g.nodes.length) X ((F.take i).map (plainN ts F g)),9⟩
theorem vwv {d:Nat} {ts:List ByteArray} {g:Gr} (h:Right ts g) {F:List Nat} {X:List Int} (hF:∀k∈F,k<g.nodes.length) (hl:F.length≤g.nodes.length):
  loopE (T (d+1)) fuel [0,3,4,6,9,57,58,59] c_impl_plain_L2 (SP2 ts g F X 0)=some (.ext 4,⟨[(0,.sz t_string (ts.map eStr)),(3,.rf 0),(4,.rf 1),(6,.rf 2),(9,.rf 3),(57,.rf 4),(58,.a (.int .i64 F.length)),(59,.a (.int .i64 F.length)),(60,.a (.bool false))],nP2 g F (Rn F g.nodes.length) X (F.map (plainN ts F g)),109⟩):=by
 have hn:=h.n
 refine vbq (SP2 ts g F X) _ (m:=F.length) (vas (by omega)) (fun i hi=> ?_) ?_
 ·obtain ⟨k,hk⟩:∃v,F[i]? =some v:=⟨_,List.getElem?_eq_getElem hi⟩
  have hkn:=hF k (List.mem_of_getElem? hk)
  obtain ⟨o,ho⟩:∃v,g.nodes[k]? =some v:=⟨_,List.getElem?_eq_getElem hkn⟩
  obtain ⟨t,s,o1,o2,o3,o4,o5,o6⟩:=h.obj o (List.mem_of_getElem? ho)
  have hpn:plainN ts F g k=⟨o.ty,nmK F s 0 o.vals⟩:=by unfold plainN;rw [ho];simp only;unfold plainO;rw [o1,Int.toNat_natCast,o2]
  obtain ⟨ty,V⟩:=o
  dsimp only at *
  subst o1
  have hw:=vag i (by omega)
  have key:=vxb (Φ:=T (d+1)) (F:=F) (X:=X) (P:=(F.take i).map (plainN ts F g)) (q:=i) h.n o2 o3 o5 o6
  have hPl:((F.take i).map (plainN ts F g)).length≤400:=by rw [List.length_map,List.length_take];omega
  have hcp:List.map PV.cpy (List.map eInt V)=List.map eInt V:=by rw [List.map_map];rfl
  unfold SP3 nP3 at key
  rw [qb5] at key
  unfold round SP2 c_impl_plain_L2 nP2
  rw [vf3 _ hk,hpn]
  generalize (F.take i).map (plainN ts F g)=P at *
  generalize Rn F g.nodes.length=R at *
  generalize nmK F s 0 V=W at *
  simp (maxSteps:=3000000) (implicitDefEqProofs:=false) (disch:=first|assumption|(refine ofR ?_;show norm _ _=_;kernel_rfl)|(refine ofR ?_;show okD _ _ _ _=true;kernel_rfl)|exact ofR (by with_unfolding_all rfl)|exact ofB (by with_unfolding_all rfl)|omega|(simp only [go_sem,vab];omega)) only [go_sem,Nat.reduceAdd,Nat.reduceBEq,hk,ho,hw,hcp]
  rw [vah key (by kernel_rfl)]
  simp (maxSteps:=3000000) (implicitDefEqProofs:=false) (disch:=first|assumption|(refine ofR ?_;show norm _ _=_;kernel_rfl)|(refine ofR ?_;show okD _ _ _ _=true;kernel_rfl)|exact ofR (by with_unfolding_all rfl)|exact ofB (by with_unfolding_all rfl)|omega|(simp only [go_sem,vab];omega)) only [go_sem,Nat.reduceAdd,Nat.reduceBEq,hw]
  (show some _=some _;kernel_rfl)
 ·unfold round SP2 c_impl_plain_L2 nP2
  rw [List.take_length]
  simp (maxSteps:=3000000) (implicitDefEqProofs:=false) (disch:=first|assumption|(refine ofR ?_;show norm _ _=_;kernel_rfl)|(refine ofR ?_;show okD _ _ _ _=true;kernel_rfl)|exact ofR (by with_unfolding_all rfl)|exact ofB (by with_unfolding_all rfl)|omega|(simp only [go_sem,vab];omega)) only [go_sem,Nat.reduceAdd,Nat.reduceBEq]
theorem vhe {d:Nat} {ts:List ByteArray} {g:Gr} (h:Right ts g):runFn (T (d+2)) fuel f_impl_plain [.sl true t_string (ts.map eStr),cGr true g]=some ([cGr false (plainG ts g)],[]):=by
 have hn:=h.n
 have hr:=h.r
 have hI:=vau ts g g.nodes.length
 have hd:=vfs (d:=d) h
 have k0:=vv6 (Φ:=T (d+2)) (ts:=ts) (g:=g) (F:=found ts g) hn hI.nod hI.low hI.le
 have k1:=vxd (Φ:=T (d+2)) (ts:=ts) (g:=g) (F:=found ts g) hr h.roots
 have k2:=vwv (d:=d+1) h (F:=found ts g) (X:=g.roots.map (nm (found ts g))) hI.low hI.le
 have hle:(found ts g).length≤g.nodes.length:=hI.le
 have hw:=vag g.nodes.length (by omega)
 unfold SP0 nP0 at k0
 unfold SP1 nP1 at k1
 unfold SP2 nP2 at k2
 rw [if_pos rfl,List.take_zero,qbo] at k0
 rw [if_pos rfl,List.take_zero,List.map_nil] at k1
 rw [List.take_zero,List.map_nil] at k2
 have e:List.map eInt (List.replicate (g.nodes.length+1) 0)=List.replicate (g.nodes.length+1) (.a (.int .i64 0)):=by rw [List.map_replicate];rfl
 simp only [e,List.map_nil] at k0 k1 k2
 rw [vae rfl]
 unfold plainG
 generalize found ts g=F at *
 generalize Rn F g.nodes.length=R at *
 generalize g.roots.map (nm F)=X at *
 generalize F.map (plainN ts F g)=P at *
 simp (maxSteps:=3000000) (implicitDefEqProofs:=false) (disch:=first|assumption|(refine ofR ?_;show norm _ _=_;kernel_rfl)|(refine ofR ?_;show okD _ _ _ _=true;kernel_rfl)|exact ofR (by with_unfolding_all rfl)|exact ofB (by with_unfolding_all rfl)|omega|(simp only [go_sem,vab];omega)) only [go_sem,Nat.reduceAdd,Nat.reduceBEq,f_impl_plain,c_impl_plain,hd,hw]
 rw [vah k0 (by kernel_rfl)]
 by_cases c0:F.length=0
 ·rw [if_pos c0]
  simp (maxSteps:=3000000) (implicitDefEqProofs:=false) (disch:=first|assumption|(refine ofR ?_;show norm _ _=_;kernel_rfl)|(refine ofR ?_;show okD _ _ _ _=true;kernel_rfl)|exact ofR (by with_unfolding_all rfl)|exact ofB (by with_unfolding_all rfl)|omega|(simp only [go_sem,vab];omega)) only [go_sem,Nat.reduceAdd,Nat.reduceBEq]
  rw [vah k1 (by kernel_rfl)]
  by_cases c1:g.roots.length=0
  ·rw [if_pos c1]
   simp (maxSteps:=3000000) (implicitDefEqProofs:=false) (disch:=first|assumption|(refine ofR ?_;show norm _ _=_;kernel_rfl)|(refine ofR ?_;show okD _ _ _ _=true;kernel_rfl)|exact ofR (by with_unfolding_all rfl)|exact ofB (by with_unfolding_all rfl)|omega|(simp only [go_sem,vab];omega)) only [go_sem,Nat.reduceAdd,Nat.reduceBEq]
   rw [vah k2 (by kernel_rfl)]
   simp (maxSteps:=3000000) (implicitDefEqProofs:=false) (disch:=first|assumption|(refine ofR ?_;show norm _ _=_;kernel_rfl)|(refine ofR ?_;show okD _ _ _ _=true;kernel_rfl)|exact ofR (by with_unfolding_all rfl)|exact ofB (by with_unfolding_all rfl)|omega|(simp only [go_sem,vab];omega)) only [go_sem,Nat.reduceAdd,Nat.reduceBEq]
  ·rw [if_neg c1]
   simp (maxSteps:=3000000) (implicitDefEqProofs:=false) (disch:=first|assumption|(refine ofR ?_;show norm _ _=_;kernel_rfl)|(refine ofR ?_;show okD _ _ _ _=true;kernel_rfl)|exact ofR (by with_unfolding_all rfl)|exact ofB (by with_unfolding_all rfl)|omega|(simp only [go_sem,vab];omega)) only [go_sem,Nat.reduceAdd,Nat.reduceBEq]
   rw [vah k2 (by kernel_rfl)]
   simp (maxSteps:=3000000) (implicitDefEqProofs:=false) (disch:=first|assumption|(refine ofR ?_;show norm _ _=_;kernel_rfl)|(refine ofR ?_;show okD _ _ _ _=true;kernel_rfl)|exact ofR (by with_unfolding_all rfl)|exact ofB (by with_unfolding_all rfl)|omega|(simp only [go_sem,vab];omega)) only [go_sem,Nat.reduceAdd,Nat.reduceBEq]
 ·rw [if_neg c0]
  simp (maxSteps:=3000000) (implicitDefEqProofs:=false) (disch:=first|assumption|(refine ofR ?_;show norm _ _=_;kernel_rfl)|(refine ofR ?_;show okD _ _ _ _=true;kernel_rfl)|exact ofR (by with_unfolding_all rfl)|exact ofB (by with_unfolding_all rfl)|omega|(simp only [go_sem,vab];omega)) only [go_sem,Nat.reduceAdd,Nat.reduceBEq]
  rw [vah k1 (by kernel_rfl)]
  by_cases c1:g.roots.length=0
  ·rw [if_pos c1]
   simp (maxSteps:=3000000) (implicitDefEqProofs:=false) (disch:=first|assumption|(refine ofR ?_;show norm _ _=_;kernel_rfl)|(refine ofR ?_;show okD _ _ _ _=true;kernel_rfl)|exact ofR (by with_unfolding_all rfl)|exact ofB (by with_unfolding_all rfl)|omega|(simp only [go_sem,vab];omega)) only [go_sem,Nat.reduceAdd,Nat.reduceBEq]
   rw [vah k2 (by kernel_rfl)]
   simp (maxSteps:=3000000) (implicitDefEqProofs:=false) (disch:=first|assumption|(refine ofR ?_;show norm _ _=_;kernel_rfl)|(refine ofR ?_;show okD _ _ _ _=true;kernel_rfl)|exact ofR (by with_unfolding_all rfl)|exact ofB (by with_unfolding_all rfl)|omega|(simp only [go_sem,vab];omega)) only [go_sem,Nat.reduceAdd,Nat.reduceBEq]
  ·rw [if_neg c1]
   simp (maxSteps:=3000000) (implicitDefEqProofs:=false) (disch:=first|assumption|(refine ofR ?_;show norm _ _=_;kernel_rfl)|(refine ofR ?_;show okD _ _ _ _=true;kernel_rfl)|exact ofR (by with_unfolding_all rfl)|exact ofB (by with_unfolding_all rfl)|omega|(simp only [go_sem,vab];omega)) only [go_sem,Nat.reduceAdd,Nat.reduceBEq]
   rw [vah k2 (by kernel_rfl)]
   simp (maxSteps:=3000000) (implicitDefEqProofs:=false) (disch:=first|assumption|(refine ofR ?_;show norm _ _=_;kernel_rfl)|(refine ofR ?_;show okD _ _ _ _=true;kernel_rfl)|exact ofR (by with_unfolding_all rfl)|exact ofB (by with_unfolding_all rfl)|omega|(simp only [go_sem,vab];omega)) only [go_sem,Nat.reduceAdd,Nat.reduceBEq]
end Go.Proofs.YteomgghmhicpcaaDoor.VM
namespace Go.Proofs.YteomgghmhicpcaaDoor.VM
open Go Sy
variable {Φ:Nat→Option Callee} {N:Nat}
theorem vmz {v:Int} (h0:0≤v) (h1:v≤1048576):IntKind.i64.wrap (v-1)=v-1:=by rw [van]<;>omega
theorem vmd (F:List Nat) (v:Int) (h:F.length≤1048576):IntKind.i64.wrap (idxOf (fun x:Nat=>decide ((x:Int)=v-1)) F+1)=nm F v:=by
 have:=voh (fun x:Nat=>decide ((x:Int)=v-1)) F
 rw [van _ (by omega) (by omega)];rfl
abbrev nQ0 (g:Gr) (O:List Nat) (X:List Int) (i:Nat):List (Nat×Option Node):=if i=0 then [(0,some (.bx false (uGr g))),(1,some (.bx false [.rf 4,.rf 5])),(2,some (.sl false 0 t_i64 (O.map eNat))),(3,some (.bx false [.rf 6,.rf 7])),(4,some (.sl false 0 t_i64 [])),(5,some (.sl false 0 t_impl_Obj [])),(6,some (.sl false 0 t_i64 (X.map eInt))),(7,some (.sl false 0 t_impl_Obj []))]
 else [(0,some (.bx false (uGr g))),(1,some (.bx false [.rf 4,.rf 5])),(2,some (.sl false 0 t_i64 (O.map eNat))),(3,some (.bx false [.rf 6,.rf 7])),(4,some (.sl false 0 t_i64 [])),(5,some (.sl false 0 t_impl_Obj [])),(6,some (.sl false 0 t_i64 (X.map eInt))),(7,some (.sl false 0 t_impl_Obj []))]
def SQ0 (ts:List ByteArray) (g:Gr) (F:List Nat) (i:Nat):St:=⟨[(0,.sz t_string (ts.map eStr)),(3,.rf 0),(4,.rf 1),(5,.rf 2),(6,.rf 3),(7,.a (.int .i64 i))],nQ0 g F ((g.roots.take i).map (nm F)) i,8⟩
theorem vvb {d:Nat} {ts:List ByteArray} {g:Gr} {F:List Nat} (hn:g.nodes.length≤400) (hl:F.length≤g.nodes.length) (hr:g.roots.length≤40) (hv:∀v∈g.roots,0≤v∧v≤(g.nodes.length:Int)):
  loopE (T (d+1)) fuel [0,3,4,5,6,7] c_spec_l7Plain_L0 (SQ0 ts g F 0)=some (.ext 0,⟨[(0,.sz t_string (ts.map eStr)),(3,.rf 0),(4,.rf 1),(5,.rf 2),(6,.rf 3),(7,.a (.int .i64 g.roots.length)),(21,.a (.bool false))],nQ0 g F (g.roots.map (nm F)) g.roots.length,508⟩):=by
 refine vbq (SQ0 ts g F) _ (m:=g.roots.length) (vas (by omega)) (fun i hi=> ?_) ?_
 ·obtain ⟨v,hk⟩:∃v,g.roots[i]? =some v:=⟨_,List.getElem?_eq_getElem hi⟩
  obtain ⟨v0,v1⟩:=hv v (List.mem_of_getElem? hk)
  have hw:=vag i (by omega)
  have hc:=vmv (Φ:=T d) F (v-1) (by omega)
  have hs:=vmz v0 (by omega)
  have ha:=vmd F v (by omega)
  have hX:((g.roots.take i).map (nm F)).length≤40:=by rw [List.length_map,List.length_take];omega
  unfold round SQ0 c_spec_l7Plain_L0 nQ0
  rw [if_neg (Nat.succ_ne_zero i),vf3 _ hk]
  generalize (g.roots.take i).map (nm F)=X at *
  generalize nm F v=y at *
  generalize idxOf (fun x:Nat=>decide ((x:Int)=v-1)) F=z at *
  by_cases c:i=0
  ·rw [if_pos c]
   simp (maxSteps:=3000000) (implicitDefEqProofs:=false) (disch:=first|assumption|(refine ofR ?_;show norm _ _=_;kernel_rfl)|(refine ofR ?_;show okD _ _ _ _=true;kernel_rfl)|exact ofR (by with_unfolding_all rfl)|exact ofB (by with_unfolding_all rfl)|omega|(simp only [go_sem,vab];omega)) only [go_sem,Nat.reduceAdd,Nat.reduceBEq,hk,hw,hc,hs,ha]
   (show some _=some _;kernel_rfl)
  ·rw [if_neg c]
   simp (maxSteps:=3000000) (implicitDefEqProofs:=false) (disch:=first|assumption|(refine ofR ?_;show norm _ _=_;kernel_rfl)|(refine ofR ?_;show okD _ _ _ _=true;kernel_rfl)|exact ofR (by with_unfolding_all rfl)|exact ofB (by with_unfolding_all rfl)|omega|(simp only [go_sem,vab];omega)) only [go_sem,Nat.reduceAdd,Nat.reduceBEq,hk,hw,hc,hs,ha]
   (show some _=some _;kernel_rfl)
 ·unfold round SQ0 c_spec_l7Plain_L0 nQ0
  rw [List.take_length]
  by_cases c:g.roots.length=0
  ·rw [if_pos c]
   simp (maxSteps:=3000000) (implicitDefEqProofs:=false) (disch:=first|assumption|(refine ofR ?_;show norm _ _=_;kernel_rfl)|(refine ofR ?_;show okD _ _ _ _=true;kernel_rfl)|exact ofR (by with_unfolding_all rfl)|exact ofB (by with_unfolding_all rfl)|omega|(simp only [go_sem,vab];omega)) only [go_sem,Nat.reduceAdd,Nat.reduceBEq]
  ·rw [if_neg c]
   simp (maxSteps:=3000000) (implicitDefEqProofs:=false) (disch:=first|assumption|(refine ofR ?_;show norm _ _=_;kernel_rfl)|(refine ofR ?_;show okD _ _ _ _=true;kernel_rfl)|exact ofR (by with_unfolding_all rfl)|exact ofB (by with_unfolding_all rfl)|omega|(simp only [go_sem,vab];omega)) only [go_sem,Nat.reduceAdd,Nat.reduceBEq]
abbrev nQ2 (g:Gr) (O:List Nat) (X:List Int) (P:List Obj') (t:Nat) (V W:List Int) (i:Nat):List (Nat×Option Node):=if i=0 then [(0,some (.bx false (uGr g))),(1,some (.bx false [.rf 6,.rf 7])),(2,some (.sl false 0 t_i64 (O.map eNat))),(3,some (.bx false [.rf 8,.rf 9])),(4,some (.bx false [.a (.int .i64 t),.sz t_i64 (V.map eInt)])),(5,some (.bx false [.a (.int .i64 t),.rf 10])),(6,some (.sl false 0 t_i64 [])),(7,some (.sl false 0 t_impl_Obj [])),(8,some (.sl false 0 t_i64 (X.map eInt))),(9,some (.sl false 0 t_impl_Obj (P.map eObj))),(10,some (.sl false 0 t_i64 (W.map eInt)))]
 else [(0,some (.bx false (uGr g))),(1,some (.bx false [.rf 6,.rf 7])),(2,some (.sl false 0 t_i64 (O.map eNat))),(3,some (.bx false [.rf 8,.rf 9])),(4,some (.bx false [.a (.int .i64 t),.sz t_i64 (V.map eInt)])),(5,some (.bx false [.a (.int .i64 t),.rf 10])),(6,some (.sl false 0 t_i64 [])),(7,some (.sl false 0 t_impl_Obj [])),(8,some (.sl false 0 t_i64 (X.map eInt))),(9,some (.sl false 0 t_impl_Obj (P.map eObj))),(10,some (.sl false 0 t_i64 (W.map eInt)))]
def SQ2 (ts:List ByteArray) (g:Gr) (F:List Nat) (X:List Int) (P:List Obj') (t:Nat) (A V:List Int) (q i:Nat):St:=⟨[(0,.sz t_string (ts.map eStr)),(3,.rf 0),(4,.rf 1),(5,.rf 2),(6,.rf 3),(8,.a (.int .i64 q)),(9,.rf 4),(10,.rf 5),(11,.a (.int .i64 i))],nQ2 g F X P t V (A.take i) i,11⟩
theorem vtv {d:Nat} {ts:List ByteArray} {g:Gr} {F:List Nat} {X:List Int} {P:List Obj'} {q:Nat} (hn:g.nodes.length≤400) (hl:F.length≤g.nodes.length) {t:Nat} {s:ByteArray} {V:List Int} (hs:ts[t]? =some s) (hz:V.length=s.size) (hss:s.size≤23) (hs1:1≤s.size) (hv:∀(j:Nat) v,V[j]? =some v→refAt s j=true→0≤v∧v≤(g.nodes.length:Int)):
  loopE (T (d+1)) fuel [0,3,4,5,6,8,9,10,11] c_spec_l7Plain_L2 (SQ2 ts g F X P t (nmK F s 0 V) V q 0)=some (.ext 4,⟨[(0,.sz t_string (ts.map eStr)),(3,.rf 0),(4,.rf 1),(5,.rf 2),(6,.rf 3),(8,.a (.int .i64 q)),(9,.rf 4),(10,.rf 5),(11,.a (.int .i64 V.length)),(59,.a (.bool false))],nQ2 g F X P t V (nmK F s 0 V) 1,511⟩):=by
 have htl:t<ts.length:=(List.getElem?_eq_some_iff.1 hs).1
 have hAB:(nmK F s 0 V).length=V.length:=vdg
 refine vbq (SQ2 ts g F X P t (nmK F s 0 V) V q) _ (m:=V.length) (vas (by omega)) (fun i hi=> ?_) ?_
 ·obtain ⟨v,hk⟩:∃v,V[i]? =some v:=⟨_,List.getElem?_eq_getElem hi⟩
  obtain ⟨b,hb⟩:∃b,(ch s)[i]? =some b:=⟨_,List.getElem?_eq_getElem (by rw [←vck];omega)⟩
  have hx:=vd1 hb
  have hw:=vag i (by omega)
  have hr:refAt s i=decide ((b.toNat:Int)=114):=by simp only [refAt,hb]
  have hA:(nmK F s 0 V)[i]? =some (if refAt s i then nm F v else v):=by rw [vh0,hk,Option.map_some,Nat.zero_add]
  have htk:((nmK F s 0 V).take i).length≤23:=by rw [List.length_take];omega
  unfold round SQ2 c_spec_l7Plain_L2 nQ2
  rw [if_neg (Nat.succ_ne_zero i)]
  rw [List.take_add_one,hA,Option.toList_some]
  by_cases c1:(b.toNat:Int)=114
  ·obtain ⟨v0,v1⟩:=hv i v hk (by rw [hr];exact decide_eq_true c1)
   have hc:=vmv (Φ:=T d) F (v-1) (by omega)
   have hsu:=vmz v0 (by omega)
   have ha:=vmd F v (by omega)
   rw [hr,decide_eq_true c1,if_pos rfl]
   clear hA
   generalize (nmK F s 0 V).take i=W at *
   generalize nm F v=y at *
   generalize idxOf (fun x:Nat=>decide ((x:Int)=v-1)) F=z at *
   by_cases c:i=0
   ·rw [if_pos c]
    simp (maxSteps:=3000000) (implicitDefEqProofs:=false) (disch:=first|assumption|(refine ofR ?_;show norm _ _=_;kernel_rfl)|(refine ofR ?_;show okD _ _ _ _=true;kernel_rfl)|exact ofR (by with_unfolding_all rfl)|exact ofB (by with_unfolding_all rfl)|omega|(simp only [go_sem,vab];omega)) only [go_sem,Nat.reduceAdd,Nat.reduceBEq,hk,hx,hs,hw,c1,hc,hsu,ha]
    (show some _=some _;kernel_rfl)
   ·rw [if_neg c]
    simp (maxSteps:=3000000) (implicitDefEqProofs:=false) (disch:=first|assumption|(refine ofR ?_;show norm _ _=_;kernel_rfl)|(refine ofR ?_;show okD _ _ _ _=true;kernel_rfl)|exact ofR (by with_unfolding_all rfl)|exact ofB (by with_unfolding_all rfl)|omega|(simp only [go_sem,vab];omega)) only [go_sem,Nat.reduceAdd,Nat.reduceBEq,hk,hx,hs,hw,c1,hc,hsu,ha]
    (show some _=some _;kernel_rfl)
  ·rw [hr,decide_eq_false c1,if_neg (Bool.false_ne_true)]
   clear hA
   generalize (nmK F s 0 V).take i=W at *
   by_cases c:i=0
   ·rw [if_pos c]
    simp (maxSteps:=3000000) (implicitDefEqProofs:=false) (disch:=first|assumption|(refine ofR ?_;show norm _ _=_;kernel_rfl)|(refine ofR ?_;show okD _ _ _ _=true;kernel_rfl)|exact ofR (by with_unfolding_all rfl)|exact ofB (by with_unfolding_all rfl)|omega|(simp only [go_sem,vab];omega)) only [go_sem,Nat.reduceAdd,Nat.reduceBEq,hk,hx,hs,hw]
    (show some _=some _;kernel_rfl)
   ·rw [if_neg c]
    simp (maxSteps:=3000000) (implicitDefEqProofs:=false) (disch:=first|assumption|(refine ofR ?_;show norm _ _=_;kernel_rfl)|(refine ofR ?_;show okD _ _ _ _=true;kernel_rfl)|exact ofR (by with_unfolding_all rfl)|exact ofB (by with_unfolding_all rfl)|omega|(simp only [go_sem,vab];omega)) only [go_sem,Nat.reduceAdd,Nat.reduceBEq,hk,hx,hs,hw]
    (show some _=some _;kernel_rfl)
 ·unfold round SQ2 c_spec_l7Plain_L2 nQ2
  rw [if_neg (by omega:¬V.length=0),if_neg (by decide:¬1=0),←hAB,List.take_length]
  simp (maxSteps:=3000000) (implicitDefEqProofs:=false) (disch:=first|assumption|(refine ofR ?_;show norm _ _=_;kernel_rfl)|(refine ofR ?_;show okD _ _ _ _=true;kernel_rfl)|exact ofR (by with_unfolding_all rfl)|exact ofB (by with_unfolding_all rfl)|omega|(simp only [go_sem,vab];omega)) only [go_sem,Nat.reduceAdd,Nat.reduceBEq,hAB]
def SQ1 (ts:List ByteArray) (g:Gr) (F:List Nat) (X:List Int) (i:Nat):St:=⟨[(0,.sz t_string (ts.map eStr)),(3,.rf 0),(4,.rf 1),(5,.rf 2),(6,.rf 3),(8,.a (.int .i64 i))],[(0,some (.bx false (uGr g))),(1,some (.bx false [.rf 4,.rf 5])),(2,some (.sl false 0 t_i64 (F.map eNat))),(3,some (.bx false [.rf 6,.rf 7])),(4,some (.sl false 0 t_i64 [])),(5,some (.sl false 0 t_impl_Obj [])),(6,some (.sl false 0 t_i64 (X.map eInt))),(7,some (.sl false 0 t_impl_Obj (((F.take i).map (plainN ts F g)).map eObj)))],8⟩
theorem vue {d:Nat} {ts:List ByteArray} {g:Gr} (h:Right ts g) {F:List Nat} {X:List Int} (hF:∀k∈F,k<g.nodes.length) (hl:F.length≤g.nodes.length):
  loopE (T (d+1)) fuel [0,3,4,5,6,8] c_spec_l7Plain_L1 (SQ1 ts g F X 0)=some (.ext 2,⟨[(0,.sz t_string (ts.map eStr)),(3,.rf 0),(4,.rf 1),(5,.rf 2),(6,.rf 3),(8,.a (.int .i64 F.length)),(41,.a (.bool false))],[(0,some (.bx false (uGr g))),(1,some (.bx false [.rf 4,.rf 5])),(2,some (.sl false 0 t_i64 (F.map eNat))),(3,some (.bx false [.rf 6,.rf 7])),(4,some (.sl false 0 t_i64 [])),(5,some (.sl false 0 t_impl_Obj [])),(6,some (.sl false 0 t_i64 (X.map eInt))),(7,some (.sl false 0 t_impl_Obj ((F.map (plainN ts F g)).map eObj)))],408⟩):=by
 have hn:=h.n
 refine vbq (SQ1 ts g F X) _ (m:=F.length) (vas (by omega)) (fun i hi=> ?_) ?_
 ·obtain ⟨k,hk⟩:∃v,F[i]? =some v:=⟨_,List.getElem?_eq_getElem hi⟩
  have hkn:=hF k (List.mem_of_getElem? hk)
  obtain ⟨o,ho⟩:∃v,g.nodes[k]? =some v:=⟨_,List.getElem?_eq_getElem hkn⟩
  obtain ⟨t,s,o1,o2,o3,o4,o5,o6⟩:=h.obj o (List.mem_of_getElem? ho)
  have hpn:plainN ts F g k=⟨o.ty,nmK F s 0 o.vals⟩:=by unfold plainN;rw [ho];simp only;unfold plainO;rw [o1,Int.toNat_natCast,o2]
  obtain ⟨ty,V⟩:=o
  dsimp only at *
  subst o1
  have hw:=vag i (by omega)
  have key:=vtv (d:=d) (F:=F) (X:=X) (P:=(F.take i).map (plainN ts F g)) (q:=i) h.n hl o2 o3 o5 o4 o6
  have hPl:((F.take i).map (plainN ts F g)).length≤400:=by rw [List.length_map,List.length_take];omega
  unfold SQ2 nQ2 at key
  rw [if_pos rfl,List.take_zero,if_neg (by decide)] at key
  simp only [List.map_nil] at key
  unfold round SQ1 c_spec_l7Plain_L1
  rw [vf3 _ hk,hpn]
  generalize (F.take i).map (plainN ts F g)=P at *
  generalize nmK F s 0 V=W at *
  simp (maxSteps:=3000000) (implicitDefEqProofs:=false) (disch:=first|assumption|(refine ofR ?_;show norm _ _=_;kernel_rfl)|(refine ofR ?_;show okD _ _ _ _=true;kernel_rfl)|exact ofR (by with_unfolding_all rfl)|exact ofB (by with_unfolding_all rfl)|omega|(simp only [go_sem,vab];omega)) only [go_sem,Nat.reduceAdd,Nat.reduceBEq,hk,ho,hw]
  rw [vah key (by kernel_rfl)]
  simp (maxSteps:=3000000) (implicitDefEqProofs:=false) (disch:=first|assumption|(refine ofR ?_;show norm _ _=_;kernel_rfl)|(refine ofR ?_;show okD _ _ _ _=true;kernel_rfl)|exact ofR (by with_unfolding_all rfl)|exact ofB (by with_unfolding_all rfl)|omega|(simp only [go_sem,vab];omega)) only [go_sem,Nat.reduceAdd,Nat.reduceBEq,hw]
  (show some _=some _;kernel_rfl)
 ·unfold round SQ1 c_spec_l7Plain_L1
  rw [List.take_length]
  simp (maxSteps:=3000000) (implicitDefEqProofs:=false) (disch:=first|assumption|(refine ofR ?_;show norm _ _=_;kernel_rfl)|(refine ofR ?_;show okD _ _ _ _=true;kernel_rfl)|exact ofR (by with_unfolding_all rfl)|exact ofB (by with_unfolding_all rfl)|omega|(simp only [go_sem,vab];omega)) only [go_sem,Nat.reduceAdd,Nat.reduceBEq]
theorem vfg {d:Nat} {ts:List ByteArray} {g:Gr} (h:Right ts g):runFn (T (d+2)) fuel f_spec_l7Plain [.sl true t_string (ts.map eStr),cGr true g]=some ([cGr false (plainG ts g)],[]):=by
 have hn:=h.n
 have hr:=h.r
 have hI:=vau ts g g.nodes.length
 have hle:(found ts g).length≤g.nodes.length:=hI.le
 have hd:=vi0 (Φ:=T (d+1)) h
 have k0:=vvb (d:=d+1) (ts:=ts) (g:=g) (F:=found ts g) hn hle hr h.roots
 have k1:=vue (d:=d+1) h (F:=found ts g) (X:=g.roots.map (nm (found ts g))) hI.low hle
 unfold SQ0 nQ0 at k0
 unfold SQ1 at k1
 rw [if_pos rfl,List.take_zero,List.map_nil] at k0
 rw [List.take_zero,List.map_nil] at k1
 simp only [List.map_nil] at k0 k1
 rw [vae rfl]
 unfold plainG
 generalize found ts g=F at *
 generalize g.roots.map (nm F)=X at *
 generalize F.map (plainN ts F g)=P at *
 simp (maxSteps:=3000000) (implicitDefEqProofs:=false) (disch:=first|assumption|(refine ofR ?_;show norm _ _=_;kernel_rfl)|(refine ofR ?_;show okD _ _ _ _=true;kernel_rfl)|exact ofR (by with_unfolding_all rfl)|exact ofB (by with_unfolding_all rfl)|omega|(simp only [go_sem,vab];omega)) only [go_sem,Nat.reduceAdd,Nat.reduceBEq,f_spec_l7Plain,c_spec_l7Plain,hd]
 rw [vah k0 (by kernel_rfl)]
 by_cases c0:g.roots.length=0
 ·rw [if_pos c0]
  simp (maxSteps:=3000000) (implicitDefEqProofs:=false) (disch:=first|assumption|(refine ofR ?_;show norm _ _=_;kernel_rfl)|(refine ofR ?_;show okD _ _ _ _=true;kernel_rfl)|exact ofR (by with_unfolding_all rfl)|exact ofB (by with_unfolding_all rfl)|omega|(simp only [go_sem,vab];omega)) only [go_sem,Nat.reduceAdd,Nat.reduceBEq]
  rw [vah k1 (by kernel_rfl)]
  simp (maxSteps:=3000000) (implicitDefEqProofs:=false) (disch:=first|assumption|(refine ofR ?_;show norm _ _=_;kernel_rfl)|(refine ofR ?_;show okD _ _ _ _=true;kernel_rfl)|exact ofR (by with_unfolding_all rfl)|exact ofB (by with_unfolding_all rfl)|omega|(simp only [go_sem,vab];omega)) only [go_sem,Nat.reduceAdd,Nat.reduceBEq]
 ·rw [if_neg c0]
  simp (maxSteps:=3000000) (implicitDefEqProofs:=false) (disch:=first|assumption|(refine ofR ?_;show norm _ _=_;kernel_rfl)|(refine ofR ?_;show okD _ _ _ _=true;kernel_rfl)|exact ofR (by with_unfolding_all rfl)|exact ofB (by with_unfolding_all rfl)|omega|(simp only [go_sem,vab];omega)) only [go_sem,Nat.reduceAdd,Nat.reduceBEq]
  rw [vah k1 (by kernel_rfl)]
  simp (maxSteps:=3000000) (implicitDefEqProofs:=false) (disch:=first|assumption|(refine ofR ?_;show norm _ _=_;kernel_rfl)|(refine ofR ?_;show okD _ _ _ _=true;kernel_rfl)|exact ofR (by with_unfolding_all rfl)|exact ofB (by with_unfolding_all rfl)|omega|(simp only [go_sem,vab];omega)) only [go_sem,Nat.reduceAdd,Nat.reduceBEq]
theorem vrr {ts:List ByteArray} {g:Gr} (h:Right ts g) {k:Nat} {F:List Nat}:(plainN ts F g k).vals.length≤23:=by
 unfold plainN
 split
 ·rename_i o ho
  obtain ⟨t,s,o1,o2,o3,o4,o5,_⟩:=h.obj o (List.mem_of_getElem? ho)
  unfold plainO
  rw [o1,Int.toNat_natCast,o2]
  simp only
  rw [vdg];omega
 ·simp
theorem vez {ts:List ByteArray} {g:Gr} (h:Right ts g):(plainG ts g).roots.length≤40∧(plainG ts g).nodes.length≤400∧∀o∈(plainG ts g).nodes,o.vals.length≤23:=by
 have hle:(found ts g).length≤g.nodes.length:=(vau ts g g.nodes.length).le
 have hn:=h.n
 have hr:=h.r
 unfold plainG
 refine ⟨by simpa using hr,by simp;omega,fun o ho=> ?_⟩
 obtain ⟨k,_,rfl⟩:=List.mem_map.1 ho
 exact vrr h
end Go.Proofs.YteomgghmhicpcaaDoor.VM
