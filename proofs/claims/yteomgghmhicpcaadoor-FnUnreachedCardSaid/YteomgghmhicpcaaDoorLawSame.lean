/- Graphs and numbers compared by the laws. -/
import Derived.Test.YteomgghmhicpcaaDoorEqLaw
namespace Go.Proofs.YteomgghmhicpcaaDoor.VM
open Go Sy
variable {Φ:Nat→Option Callee} {N:Nat}
theorem vqc {x y:List Int} (hl:x.length=y.length) (hx:x.length≤1048576):loopE Φ fuel [0,1,5] c_laws_sameInts_L0 (SE2 x y 0)=
  some (if x=y then (.ext 0,⟨[(0,.sz t_i64 (x.map eInt)),(1,.sz t_i64 (y.map eInt)),(5,.a (.int .i64 x.length)),(14,.a (.bool false))],[],400⟩) else (.ret,⟨[(4,.a (.bool false))],[],1400⟩)):=by
 refine vex (SE2 x y) _ _ hl (vas (by omega)) (fun i a ha hc=> ?_) (fun i a c ha hc h=> ?_) ?_
 ·have hi:i<x.length:=(List.getElem?_eq_some_iff.1 ha).1
  have hw:=vag i (by omega)
  unfold round SE2 c_laws_sameInts_L0
  simp (maxSteps:=3000000) (implicitDefEqProofs:=false) (disch:=first|assumption|(refine ofR ?_;show norm _ _=_;kernel_rfl)|(refine ofR ?_;show okD _ _ _ _=true;kernel_rfl)|exact ofR (by with_unfolding_all rfl)|exact ofB (by with_unfolding_all rfl)|omega|(simp only [go_sem,vab];omega)) only [go_sem,Nat.reduceAdd,Nat.reduceBEq,ha,hc,hw]
  (show some _=some _;kernel_rfl)
 ·have hi:i<x.length:=(List.getElem?_eq_some_iff.1 ha).1
  unfold round SE2 c_laws_sameInts_L0
  simp (maxSteps:=3000000) (implicitDefEqProofs:=false) (disch:=first|assumption|(refine ofR ?_;show norm _ _=_;kernel_rfl)|(refine ofR ?_;show okD _ _ _ _=true;kernel_rfl)|exact ofR (by with_unfolding_all rfl)|exact ofB (by with_unfolding_all rfl)|omega|(simp only [go_sem,vab];omega)) only [go_sem,Nat.reduceAdd,Nat.reduceBEq,ha,hc,vei h]
 ·unfold round SE2 c_laws_sameInts_L0
  simp (maxSteps:=3000000) (implicitDefEqProofs:=false) (disch:=first|assumption|(refine ofR ?_;show norm _ _=_;kernel_rfl)|(refine ofR ?_;show okD _ _ _ _=true;kernel_rfl)|exact ofR (by with_unfolding_all rfl)|exact ofB (by with_unfolding_all rfl)|omega|(simp only [go_sem,vab];omega)) only [go_sem,Nat.reduceAdd,Nat.reduceBEq]
theorem vhx (x y:List Int) (hx:x.length≤1048576):runFn Φ fuel f_laws_sameInts [.sl true t_i64 (x.map eInt),.sl true t_i64 (y.map eInt)]=some ([.a (.bool (decide (x=y)))],[]):=by
 rw [vae rfl]
 by_cases hl:x.length=y.length
 ·have key:=vqc (Φ:=Φ) hl hx
  unfold SE2 at key
  by_cases h:x=y
  ·rw [if_pos h] at key
   rw [decide_eq_true h]
   simp (maxSteps:=3000000) (implicitDefEqProofs:=false) (disch:=first|assumption|(refine ofR ?_;show norm _ _=_;kernel_rfl)|(refine ofR ?_;show okD _ _ _ _=true;kernel_rfl)|exact ofR (by with_unfolding_all rfl)|exact ofB (by with_unfolding_all rfl)|omega|(simp only [go_sem,vab];omega)) only [go_sem,Nat.reduceAdd,Nat.reduceBEq,f_laws_sameInts,c_laws_sameInts,hl]
   rw [vah key (by kernel_rfl)]
   simp (maxSteps:=3000000) (implicitDefEqProofs:=false) (disch:=first|assumption|(refine ofR ?_;show norm _ _=_;kernel_rfl)|(refine ofR ?_;show okD _ _ _ _=true;kernel_rfl)|exact ofR (by with_unfolding_all rfl)|exact ofB (by with_unfolding_all rfl)|omega|(simp only [go_sem,vab];omega)) only [go_sem,Nat.reduceAdd,Nat.reduceBEq]
  ·rw [if_neg h] at key
   rw [decide_eq_false h]
   simp (maxSteps:=3000000) (implicitDefEqProofs:=false) (disch:=first|assumption|(refine ofR ?_;show norm _ _=_;kernel_rfl)|(refine ofR ?_;show okD _ _ _ _=true;kernel_rfl)|exact ofR (by with_unfolding_all rfl)|exact ofB (by with_unfolding_all rfl)|omega|(simp only [go_sem,vab];omega)) only [go_sem,Nat.reduceAdd,Nat.reduceBEq,f_laws_sameInts,c_laws_sameInts,hl]
   rw [vbo key (by kernel_rfl)]
   simp (maxSteps:=3000000) (implicitDefEqProofs:=false) (disch:=first|assumption|(refine ofR ?_;show norm _ _=_;kernel_rfl)|(refine ofR ?_;show okD _ _ _ _=true;kernel_rfl)|exact ofR (by with_unfolding_all rfl)|exact ofB (by with_unfolding_all rfl)|omega|(simp only [go_sem,vab];omega)) only [go_sem,Nat.reduceAdd,Nat.reduceBEq]
 ·rw [vdr hl]
  have hl':=vfi hl
  simp (maxSteps:=3000000) (implicitDefEqProofs:=false) (disch:=first|assumption|(refine ofR ?_;show norm _ _=_;kernel_rfl)|(refine ofR ?_;show okD _ _ _ _=true;kernel_rfl)|exact ofR (by with_unfolding_all rfl)|exact ofB (by with_unfolding_all rfl)|omega|(simp only [go_sem,vab];omega)) only [go_sem,Nat.reduceAdd,Nat.reduceBEq,f_laws_sameInts,c_laws_sameInts,hl']
theorem veo {d:Nat} (a b:Obj') (ha:a.vals.length≤1048576):runFn (T (d+1)) fuel f_laws_sameObj [cObj true a,cObj true b]=some ([.a (.bool (decide (a=b)))],[]):=by
 have hc:=vhx (Φ:=T d) a.vals b.vals ha
 rw [vae rfl,vlw]
 obtain ⟨at',av⟩:=a
 obtain ⟨bt,bv⟩:=b
 dsimp only at *
 by_cases h:at'=bt
 ·rw [decide_eq_true h]
  subst h
  simp (maxSteps:=3000000) (implicitDefEqProofs:=false) (disch:=first|assumption|(refine ofR ?_;show norm _ _=_;kernel_rfl)|(refine ofR ?_;show okD _ _ _ _=true;kernel_rfl)|exact ofR (by with_unfolding_all rfl)|exact ofB (by with_unfolding_all rfl)|omega|(simp only [go_sem,vab];omega)) only [go_sem,Nat.reduceAdd,Nat.reduceBEq,f_laws_sameObj,c_laws_sameObj,hc]
 ·rw [decide_eq_false h]
  simp (maxSteps:=3000000) (implicitDefEqProofs:=false) (disch:=first|assumption|(refine ofR ?_;show norm _ _=_;kernel_rfl)|(refine ofR ?_;show okD _ _ _ _=true;kernel_rfl)|exact ofR (by with_unfolding_all rfl)|exact ofB (by with_unfolding_all rfl)|omega|(simp only [go_sem,vab];omega)) only [go_sem,Nat.reduceAdd,Nat.reduceBEq,f_laws_sameObj,c_laws_sameObj,vei h]
theorem vif {d:Nat} {a b:Gr} (hl:a.nodes.length=b.nodes.length) (hx:a.nodes.length≤1048576) (hv:∀o∈a.nodes,o.vals.length≤1048576):loopE (T (d+2)) fuel [2,3,5] c_laws_sameGraph_L0 (SE4 a b 0)=
  some (if a.nodes=b.nodes then (.ext 0,⟨[(2,.rf 0),(3,.rf 1),(5,.a (.int .i64 a.nodes.length)),(25,.a (.bool false))],[(0,some (.bx false (uGr a))),(1,some (.bx false (uGr b)))],502⟩) else (.ret,⟨[(4,.a (.bool false))],[(0,some (.bx false (uGr a))),(1,some (.bx false (uGr b)))],1802⟩)):=by
 refine vex (SE4 a b) _ _ hl (vas (by omega)) (fun i o ha hc=> ?_) (fun i o c ha hc h=> ?_) ?_
 ·have hi:i<a.nodes.length:=(List.getElem?_eq_some_iff.1 ha).1
  have hw:=vag i (by omega)
  have hs:=veo (d:=d) o o (hv o (List.mem_of_getElem? ha))
  rw [decide_eq_true rfl] at hs
  unfold round SE4 c_laws_sameGraph_L0
  simp (maxSteps:=3000000) (implicitDefEqProofs:=false) (disch:=first|assumption|(refine ofR ?_;show norm _ _=_;kernel_rfl)|(refine ofR ?_;show okD _ _ _ _=true;kernel_rfl)|exact ofR (by with_unfolding_all rfl)|exact ofB (by with_unfolding_all rfl)|omega|(simp only [go_sem,vab];omega)) only [go_sem,Nat.reduceAdd,Nat.reduceBEq,ha,hc,hw,hs]
  (show some _=some _;kernel_rfl)
 ·have hi:i<a.nodes.length:=(List.getElem?_eq_some_iff.1 ha).1
  have hs:=veo (d:=d) o c (hv o (List.mem_of_getElem? ha))
  rw [decide_eq_false h] at hs
  unfold round SE4 c_laws_sameGraph_L0
  simp (maxSteps:=3000000) (implicitDefEqProofs:=false) (disch:=first|assumption|(refine ofR ?_;show norm _ _=_;kernel_rfl)|(refine ofR ?_;show okD _ _ _ _=true;kernel_rfl)|exact ofR (by with_unfolding_all rfl)|exact ofB (by with_unfolding_all rfl)|omega|(simp only [go_sem,vab];omega)) only [go_sem,Nat.reduceAdd,Nat.reduceBEq,ha,hc,hs]
 ·unfold round SE4 c_laws_sameGraph_L0
  simp (maxSteps:=3000000) (implicitDefEqProofs:=false) (disch:=first|assumption|(refine ofR ?_;show norm _ _=_;kernel_rfl)|(refine ofR ?_;show okD _ _ _ _=true;kernel_rfl)|exact ofR (by with_unfolding_all rfl)|exact ofB (by with_unfolding_all rfl)|omega|(simp only [go_sem,vab];omega)) only [go_sem,Nat.reduceAdd,Nat.reduceBEq]
theorem vho {d:Nat} (a b:Gr) (hr:a.roots.length≤1048576) (hn:a.nodes.length≤1048576) (hv:∀o∈a.nodes,o.vals.length≤1048576):runFn (T (d+3)) fuel f_laws_sameGraph [cGr true a,cGr true b]=some ([.a (.bool (sameG a b))],[]):=by
 have h1:=vhx (Φ:=T (d+2)) a.roots b.roots hr
 rw [vae rfl]
 unfold sameG
 by_cases h:a.roots=b.roots
 ·rw [decide_eq_true h] at h1⊢
  by_cases hl:a.nodes.length=b.nodes.length
  ·have key:=vif (d:=d+1) hl hn hv
   unfold SE4 at key
   by_cases h':a.nodes=b.nodes
   ·rw [if_pos h'] at key
    rw [decide_eq_true h']
    simp (maxSteps:=3000000) (implicitDefEqProofs:=false) (disch:=first|assumption|(refine ofR ?_;show norm _ _=_;kernel_rfl)|(refine ofR ?_;show okD _ _ _ _=true;kernel_rfl)|exact ofR (by with_unfolding_all rfl)|exact ofB (by with_unfolding_all rfl)|omega|(simp only [go_sem,vab];omega)) only [go_sem,Nat.reduceAdd,Nat.reduceBEq,f_laws_sameGraph,c_laws_sameGraph,h1,hl]
    rw [vah key (by kernel_rfl)]
    simp (maxSteps:=3000000) (implicitDefEqProofs:=false) (disch:=first|assumption|(refine ofR ?_;show norm _ _=_;kernel_rfl)|(refine ofR ?_;show okD _ _ _ _=true;kernel_rfl)|exact ofR (by with_unfolding_all rfl)|exact ofB (by with_unfolding_all rfl)|omega|(simp only [go_sem,vab];omega)) only [go_sem,Nat.reduceAdd,Nat.reduceBEq]
   ·rw [if_neg h'] at key
    rw [decide_eq_false h']
    simp (maxSteps:=3000000) (implicitDefEqProofs:=false) (disch:=first|assumption|(refine ofR ?_;show norm _ _=_;kernel_rfl)|(refine ofR ?_;show okD _ _ _ _=true;kernel_rfl)|exact ofR (by with_unfolding_all rfl)|exact ofB (by with_unfolding_all rfl)|omega|(simp only [go_sem,vab];omega)) only [go_sem,Nat.reduceAdd,Nat.reduceBEq,f_laws_sameGraph,c_laws_sameGraph,h1,hl]
    rw [vbo key (by kernel_rfl)]
    simp (maxSteps:=3000000) (implicitDefEqProofs:=false) (disch:=first|assumption|(refine ofR ?_;show norm _ _=_;kernel_rfl)|(refine ofR ?_;show okD _ _ _ _=true;kernel_rfl)|exact ofR (by with_unfolding_all rfl)|exact ofB (by with_unfolding_all rfl)|omega|(simp only [go_sem,vab];omega)) only [go_sem,Nat.reduceAdd,Nat.reduceBEq]
  ·rw [vdr hl]
   have hl':=vfi hl
   simp (maxSteps:=3000000) (implicitDefEqProofs:=false) (disch:=first|assumption|(refine ofR ?_;show norm _ _=_;kernel_rfl)|(refine ofR ?_;show okD _ _ _ _=true;kernel_rfl)|exact ofR (by with_unfolding_all rfl)|exact ofB (by with_unfolding_all rfl)|omega|(simp only [go_sem,vab];omega)) only [go_sem,Nat.reduceAdd,Nat.reduceBEq,f_laws_sameGraph,c_laws_sameGraph,h1,hl']
 ·rw [decide_eq_false h] at h1⊢
  simp (maxSteps:=3000000) (implicitDefEqProofs:=false) (disch:=first|assumption|(refine ofR ?_;show norm _ _=_;kernel_rfl)|(refine ofR ?_;show okD _ _ _ _=true;kernel_rfl)|exact ofR (by with_unfolding_all rfl)|exact ofB (by with_unfolding_all rfl)|omega|(simp only [go_sem,vab];omega)) only [go_sem,Nat.reduceAdd,Nat.reduceBEq,f_laws_sameGraph,c_laws_sameGraph,h1]
end Go.Proofs.YteomgghmhicpcaaDoor.VM
