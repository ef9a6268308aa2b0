/- Graphs compared. -/
import Derived.Test.YteomgghmhicpcaaDoorLawP
namespace Go.Proofs.YteomgghmhicpcaaDoor.VM
open Go Sy
variable {Φ:Nat→Option Callee} {N:Nat}
theorem vex {α:Type} [DecidableEq α] {live:List Nat} {b:VC} (S:Nat→St) (e1 e0:St) {id:Nat} {x y:List α} (hl:x.length=y.length) (hN:x.length<N)
  (yes:∀i a,x[i]? =some a→y[i]? =some a→round Φ N live b (S i)=some (.nrm,S (i+1)))
  (no:∀i a c,x[i]? =some a→y[i]? =some c→a≠c→round Φ N live b (S i)=some (.ret,e0))
  (last:round Φ N live b (S x.length)=some (.ext id,e1)):loopE Φ N live b (S 0)=some (if x=y then (.ext id,e1) else (.ret,e0)):=by
 refine vbf S _ (fun i=>∀j,j<i→x[j]? =y[j]?) (m:=x.length) hN (fun j h=>by omega) (by split<;>simp) (fun i hi hp=> ?_)
 by_cases hi':i<x.length
 ·obtain ⟨a,ha⟩:∃a,x[i]? =some a:=⟨_,List.getElem?_eq_getElem hi'⟩
  obtain ⟨c,hc⟩:∃a,y[i]? =some a:=⟨_,List.getElem?_eq_getElem (by omega)⟩
  by_cases h:a=c
  ·subst h
   refine .inl ⟨hi',yes i a ha hc,fun j hj=> ?_⟩
   by_cases hji:j=i
   ·subst hji;rw [ha,hc]
   ·exact hp j (by omega)
  ·right
   rw [if_neg (fun e=>by subst e;rw [ha] at hc;cases hc;exact h rfl)]
   exact no i a c ha hc h
 ·obtain rfl:i=x.length:=by omega
  right
  rw [if_pos (List.ext_getElem? fun j=>by
   by_cases hj:j<x.length
   ·exact hp j hj
   ·rw [List.getElem?_eq_none (by omega),List.getElem?_eq_none (by omega)])]
  exact last
theorem vu6 {α:Type} [DecidableEq α] {live:List Nat} {b:VC} (S:Nat→St) (e1:St) (sl:List (Nat×TV)) {id:Nat} {x y:List α} (hl:x.length=y.length) (hN:x.length<N)
  (yes:∀i a,x[i]? =some a→y[i]? =some a→round Φ N live b (S i)=some (.nrm,S (i+1)))
  (no:∀i a c,x[i]? =some a→y[i]? =some c→a≠c→∃nd nx,round Φ N live b (S i)=some (.ret,⟨sl,nd,nx⟩))
  (last:round Φ N live b (S x.length)=some (.ext id,e1)):(x=y→loopE Φ N live b (S 0)=some (.ext id,e1))∧(¬x=y→∃nd nx,loopE Φ N live b (S 0)=some (.ret,⟨sl,nd,nx⟩)):=by
 obtain ⟨o,e,h1,h2⟩:=vpd (Φ:=Φ) (N:=N) (live:=live) (b:=b) S (fun o e=>(x=y→o= .ext id∧e=e1)∧(¬x=y→o= .ret∧∃nd nx,e=⟨sl,nd,nx⟩)) (fun i=>∀j,j<i→x[j]? =y[j]?) (m:=x.length) hN (fun j h=>by omega) (fun i hi hp=>by
  by_cases hi':i<x.length
  ·obtain ⟨a,ha⟩:∃a,x[i]? =some a:=⟨_,List.getElem?_eq_getElem hi'⟩
   obtain ⟨c,hc⟩:∃a,y[i]? =some a:=⟨_,List.getElem?_eq_getElem (by omega)⟩
   by_cases h:a=c
   ·subst h
    refine .inl ⟨hi',yes i a ha hc,fun j hj=> ?_⟩
    by_cases hji:j=i
    ·subst hji;rw [ha,hc]
    ·exact hp j (by omega)
   ·right
    obtain ⟨nd,nx,hr⟩:=no i a c ha hc h
    exact ⟨_,_,by simp,hr,fun e=>absurd (by subst e;rw [ha] at hc;cases hc;rfl) h,fun _=>⟨rfl,nd,nx,rfl⟩⟩
  ·obtain rfl:i=x.length:=by omega
   right
   refine ⟨_,_,by simp,last,fun _=>⟨rfl,rfl⟩,fun e=>absurd (List.ext_getElem? fun j=> ?_) e⟩
   by_cases hj:j<x.length
   ·exact hp j hj
   ·rw [List.getElem?_eq_none (by omega),List.getElem?_eq_none (by omega)])
 refine ⟨fun e'=> ?_,fun e'=> ?_⟩
 ·obtain ⟨rfl,rfl⟩:=h1.1 e';exact h2
 ·obtain ⟨rfl,nd,nx,rfl⟩:=h1.2 e';exact ⟨nd,nx,h2⟩
theorem vdr {α:Type} [DecidableEq α] {x y:List α} (h:¬x.length=y.length):decide (x=y)=false:=decide_eq_false fun e=>h (by rw [e])
theorem vfi {m n:Nat} (h:¬m=n):¬(m:Int)=(n:Int):=by omega
theorem vei {a c:Int} (h:a≠c):decide (a=c)=false:=decide_eq_false h
def SE1 (x y:List Int) (i:Nat):St:=⟨[(0,.sz t_i64 (x.map eInt)),(1,.sz t_i64 (y.map eInt)),(12,.a (.int .i64 x.length)),(13,.a (.int .i64 i))],[],0⟩
theorem vwi {x y:List Int} (hl:x.length=y.length) (hx:x.length≤1048576):loopE Φ fuel [0,1,12,13] c_slices_Equal_int64_int64_L0 (SE1 x y 0)=
  some (if x=y then (.ext 0,⟨[(0,.sz t_i64 (x.map eInt)),(1,.sz t_i64 (y.map eInt)),(12,.a (.int .i64 x.length)),(13,.a (.int .i64 x.length)),(14,.a (.bool false))],[],100⟩) else (.ret,⟨[(4,.a (.bool false))],[],1300⟩)):=by
 refine vex (SE1 x y) _ _ hl (vas (by omega)) (fun i a ha hc=> ?_) (fun i a c ha hc h=> ?_) ?_
 ·have hi:i<x.length:=(List.getElem?_eq_some_iff.1 ha).1
  have hw:=vag i (by omega)
  unfold round SE1 c_slices_Equal_int64_int64_L0
  simp (maxSteps:=3000000) (implicitDefEqProofs:=false) (disch:=first|assumption|(refine ofR ?_;show norm _ _=_;kernel_rfl)|(refine ofR ?_;show okD _ _ _ _=true;kernel_rfl)|exact ofR (by with_unfolding_all rfl)|exact ofB (by with_unfolding_all rfl)|omega|(simp only [go_sem,vab];omega)) only [go_sem,Nat.reduceAdd,Nat.reduceBEq,ha,hc,hw]
  (show some _=some _;kernel_rfl)
 ·have hi:i<x.length:=(List.getElem?_eq_some_iff.1 ha).1
  unfold round SE1 c_slices_Equal_int64_int64_L0
  simp (maxSteps:=3000000) (implicitDefEqProofs:=false) (disch:=first|assumption|(refine ofR ?_;show norm _ _=_;kernel_rfl)|(refine ofR ?_;show okD _ _ _ _=true;kernel_rfl)|exact ofR (by with_unfolding_all rfl)|exact ofB (by with_unfolding_all rfl)|omega|(simp only [go_sem,vab];omega)) only [go_sem,Nat.reduceAdd,Nat.reduceBEq,ha,hc,vei h]
 ·unfold round SE1 c_slices_Equal_int64_int64_L0
  simp (maxSteps:=3000000) (implicitDefEqProofs:=false) (disch:=first|assumption|(refine ofR ?_;show norm _ _=_;kernel_rfl)|(refine ofR ?_;show okD _ _ _ _=true;kernel_rfl)|exact ofR (by with_unfolding_all rfl)|exact ofB (by with_unfolding_all rfl)|omega|(simp only [go_sem,vab];omega)) only [go_sem,Nat.reduceAdd,Nat.reduceBEq]
theorem vmp (x y:List Int) (hx:x.length≤1048576):runFn Φ fuel f_slices_Equal_int64_int64 [.sl true t_i64 (x.map eInt),.sl true t_i64 (y.map eInt)]=some ([.a (.bool (decide (x=y)))],[]):=by
 rw [vae rfl]
 by_cases hl:x.length=y.length
 ·have key:=vwi (Φ:=Φ) hl hx
  unfold SE1 at key
  by_cases h:x=y
  ·rw [if_pos h] at key
   rw [decide_eq_true h]
   simp (maxSteps:=3000000) (implicitDefEqProofs:=false) (disch:=first|assumption|(refine ofR ?_;show norm _ _=_;kernel_rfl)|(refine ofR ?_;show okD _ _ _ _=true;kernel_rfl)|exact ofR (by with_unfolding_all rfl)|exact ofB (by with_unfolding_all rfl)|omega|(simp only [go_sem,vab];omega)) only [go_sem,Nat.reduceAdd,Nat.reduceBEq,f_slices_Equal_int64_int64,c_slices_Equal_int64_int64,hl]
   rw [←hl,vah key (by kernel_rfl)]
   simp (maxSteps:=3000000) (implicitDefEqProofs:=false) (disch:=first|assumption|(refine ofR ?_;show norm _ _=_;kernel_rfl)|(refine ofR ?_;show okD _ _ _ _=true;kernel_rfl)|exact ofR (by with_unfolding_all rfl)|exact ofB (by with_unfolding_all rfl)|omega|(simp only [go_sem,vab];omega)) only [go_sem,Nat.reduceAdd,Nat.reduceBEq]
  ·rw [if_neg h] at key
   rw [decide_eq_false h]
   simp (maxSteps:=3000000) (implicitDefEqProofs:=false) (disch:=first|assumption|(refine ofR ?_;show norm _ _=_;kernel_rfl)|(refine ofR ?_;show okD _ _ _ _=true;kernel_rfl)|exact ofR (by with_unfolding_all rfl)|exact ofB (by with_unfolding_all rfl)|omega|(simp only [go_sem,vab];omega)) only [go_sem,Nat.reduceAdd,Nat.reduceBEq,f_slices_Equal_int64_int64,c_slices_Equal_int64_int64,hl]
   rw [←hl,vbo key (by kernel_rfl)]
   simp (maxSteps:=3000000) (implicitDefEqProofs:=false) (disch:=first|assumption|(refine ofR ?_;show norm _ _=_;kernel_rfl)|(refine ofR ?_;show okD _ _ _ _=true;kernel_rfl)|exact ofR (by with_unfolding_all rfl)|exact ofB (by with_unfolding_all rfl)|omega|(simp only [go_sem,vab];omega)) only [go_sem,Nat.reduceAdd,Nat.reduceBEq]
 ·rw [vdr hl]
  have hl':=vfi hl
  simp (maxSteps:=3000000) (implicitDefEqProofs:=false) (disch:=first|assumption|(refine ofR ?_;show norm _ _=_;kernel_rfl)|(refine ofR ?_;show okD _ _ _ _=true;kernel_rfl)|exact ofR (by with_unfolding_all rfl)|exact ofB (by with_unfolding_all rfl)|omega|(simp only [go_sem,vab];omega)) only [go_sem,Nat.reduceAdd,Nat.reduceBEq,f_slices_Equal_int64_int64,c_slices_Equal_int64_int64,hl']
def SE2 (x y:List Int) (i:Nat):St:=⟨[(0,.sz t_i64 (x.map eInt)),(1,.sz t_i64 (y.map eInt)),(5,.a (.int .i64 i))],[],0⟩
theorem vyi {x y:List Int} (hl:x.length=y.length) (hx:x.length≤1048576):loopE Φ fuel [0,1,5] c_spec_l7Ints_L0 (SE2 x y 0)=
  some (if x=y then (.ext 0,⟨[(0,.sz t_i64 (x.map eInt)),(1,.sz t_i64 (y.map eInt)),(5,.a (.int .i64 x.length)),(14,.a (.bool false))],[],400⟩) else (.ret,⟨[(4,.a (.bool false))],[],1400⟩)):=by
 refine vex (SE2 x y) _ _ hl (vas (by omega)) (fun i a ha hc=> ?_) (fun i a c ha hc h=> ?_) ?_
 ·have hi:i<x.length:=(List.getElem?_eq_some_iff.1 ha).1
  have hw:=vag i (by omega)
  unfold round SE2 c_spec_l7Ints_L0
  simp (maxSteps:=3000000) (implicitDefEqProofs:=false) (disch:=first|assumption|(refine ofR ?_;show norm _ _=_;kernel_rfl)|(refine ofR ?_;show okD _ _ _ _=true;kernel_rfl)|exact ofR (by with_unfolding_all rfl)|exact ofB (by with_unfolding_all rfl)|omega|(simp only [go_sem,vab];omega)) only [go_sem,Nat.reduceAdd,Nat.reduceBEq,ha,hc,hw]
  (show some _=some _;kernel_rfl)
 ·have hi:i<x.length:=(List.getElem?_eq_some_iff.1 ha).1
  unfold round SE2 c_spec_l7Ints_L0
  simp (maxSteps:=3000000) (implicitDefEqProofs:=false) (disch:=first|assumption|(refine ofR ?_;show norm _ _=_;kernel_rfl)|(refine ofR ?_;show okD _ _ _ _=true;kernel_rfl)|exact ofR (by with_unfolding_all rfl)|exact ofB (by with_unfolding_all rfl)|omega|(simp only [go_sem,vab];omega)) only [go_sem,Nat.reduceAdd,Nat.reduceBEq,ha,hc,vei h]
 ·unfold round SE2 c_spec_l7Ints_L0
  simp (maxSteps:=3000000) (implicitDefEqProofs:=false) (disch:=first|assumption|(refine ofR ?_;show norm _ _=_;kernel_rfl)|(refine ofR ?_;show okD _ _ _ _=true;kernel_rfl)|exact ofR (by with_unfolding_all rfl)|exact ofB (by with_unfolding_all rfl)|omega|(simp only [go_sem,vab];omega)) only [go_sem,Nat.reduceAdd,Nat.reduceBEq]
theorem vjm (x y:List Int) (hx:x.length≤1048576):runFn Φ fuel f_spec_l7Ints [.sl true t_i64 (x.map eInt),.sl true t_i64 (y.map eInt)]=some ([.a (.bool (decide (x=y)))],[]):=by
 rw [vae rfl]
 by_cases hl:x.length=y.length
 ·have key:=vyi (Φ:=Φ) hl hx
  unfold SE2 at key
  by_cases h:x=y
  ·rw [if_pos h] at key
   rw [decide_eq_true h]
   simp (maxSteps:=3000000) (implicitDefEqProofs:=false) (disch:=first|assumption|(refine ofR ?_;show norm _ _=_;kernel_rfl)|(refine ofR ?_;show okD _ _ _ _=true;kernel_rfl)|exact ofR (by with_unfolding_all rfl)|exact ofB (by with_unfolding_all rfl)|omega|(simp only [go_sem,vab];omega)) only [go_sem,Nat.reduceAdd,Nat.reduceBEq,f_spec_l7Ints,c_spec_l7Ints,hl]
   rw [vah key (by kernel_rfl)]
   simp (maxSteps:=3000000) (implicitDefEqProofs:=false) (disch:=first|assumption|(refine ofR ?_;show norm _ _=_;kernel_rfl)|(refine ofR ?_;show okD _ _ _ _=true;kernel_rfl)|exact ofR (by with_unfolding_all rfl)|exact ofB (by with_unfolding_all rfl)|omega|(simp only [go_sem,vab];omega)) only [go_sem,Nat.reduceAdd,Nat.reduceBEq]
  ·rw [if_neg h] at key
   rw [decide_eq_false h]
   simp (maxSteps:=3000000) (implicitDefEqProofs:=false) (disch:=first|assumption|(refine ofR ?_;show norm _ _=_;kernel_rfl)|(refine ofR ?_;show okD _ _ _ _=true;kernel_rfl)|exact ofR (by with_unfolding_all rfl)|exact ofB (by with_unfolding_all rfl)|omega|(simp only [go_sem,vab];omega)) only [go_sem,Nat.reduceAdd,Nat.reduceBEq,f_spec_l7Ints,c_spec_l7Ints,hl]
   rw [vbo key (by kernel_rfl)]
   simp (maxSteps:=3000000) (implicitDefEqProofs:=false) (disch:=first|assumption|(refine ofR ?_;show norm _ _=_;kernel_rfl)|(refine ofR ?_;show okD _ _ _ _=true;kernel_rfl)|exact ofR (by with_unfolding_all rfl)|exact ofB (by with_unfolding_all rfl)|omega|(simp only [go_sem,vab];omega)) only [go_sem,Nat.reduceAdd,Nat.reduceBEq]
 ·rw [vdr hl]
  have hl':=vfi hl
  simp (maxSteps:=3000000) (implicitDefEqProofs:=false) (disch:=first|assumption|(refine ofR ?_;show norm _ _=_;kernel_rfl)|(refine ofR ?_;show okD _ _ _ _=true;kernel_rfl)|exact ofR (by with_unfolding_all rfl)|exact ofB (by with_unfolding_all rfl)|omega|(simp only [go_sem,vab];omega)) only [go_sem,Nat.reduceAdd,Nat.reduceBEq,f_spec_l7Ints,c_spec_l7Ints,hl']
instance:DecidableEq Obj':=fun a b=>if h:a.ty=b.ty∧a.vals=b.vals then isTrue (by cases a;cases b;obtain ⟨h1,h2⟩:=h;dsimp only at h1 h2;rw [h1,h2]) else isFalse (fun e=>h (by rw [e];exact ⟨rfl,rfl⟩))
theorem vlw (a b:Obj'):decide (a=b)=(decide (a.ty=b.ty)&&decide (a.vals=b.vals)):=by
 by_cases h:a=b
 ·subst h;simp
 ·rw [decide_eq_false h]
  by_cases h1:a.ty=b.ty
  ·by_cases h2:a.vals=b.vals
   ·exact absurd (by cases a;cases b;dsimp only at h1 h2;rw [h1,h2]) h
   ·rw [decide_eq_false h2];simp
  ·rw [decide_eq_false h1];rfl
theorem vip {d:Nat} (a b:Obj') (ha:a.vals.length≤1048576):runFn (T (d+1)) fuel f_impl_sameObj [cObj true a,cObj true b]=some ([.a (.bool (decide (a=b)))],[]):=by
 have hc:=vmp (Φ:=T d) a.vals b.vals ha
 rw [vae rfl,vlw]
 obtain ⟨at',av⟩:=a
 obtain ⟨bt,bv⟩:=b
 dsimp only at *
 by_cases h:at'=bt
 ·rw [decide_eq_true h]
  subst h
  simp (maxSteps:=3000000) (implicitDefEqProofs:=false) (disch:=first|assumption|(refine ofR ?_;show norm _ _=_;kernel_rfl)|(refine ofR ?_;show okD _ _ _ _=true;kernel_rfl)|exact ofR (by with_unfolding_all rfl)|exact ofB (by with_unfolding_all rfl)|omega|(simp only [go_sem,vab];omega)) only [go_sem,Nat.reduceAdd,Nat.reduceBEq,f_impl_sameObj,c_impl_sameObj,hc]
 ·rw [decide_eq_false h]
  simp (maxSteps:=3000000) (implicitDefEqProofs:=false) (disch:=first|assumption|(refine ofR ?_;show norm _ _=_;kernel_rfl)|(refine ofR ?_;show okD _ _ _ _=true;kernel_rfl)|exact ofR (by with_unfolding_all rfl)|exact ofB (by with_unfolding_all rfl)|omega|(simp only [go_sem,vab];omega)) only [go_sem,Nat.reduceAdd,Nat.reduceBEq,f_impl_sameObj,c_impl_sameObj,vei h]
def SE3 (x y:List Obj') (i:Nat):St:=⟨[(1,.sz t_impl_Obj (y.map eObj)),(2,.fn n_impl_sameObj [] []),(15,.sz t_impl_Obj (x.map eObj)),(16,.a (.int .i64 x.length)),(17,.a (.int .i64 i))],[],0⟩
theorem vpc {d:Nat} {x y:List Obj'} (hl:x.length=y.length) (hx:x.length≤1048576) (hv:∀o∈x,o.vals.length≤1048576):(x=y→loopE (T (d+2)) fuel [1,2,15,16,17] c_slices_EqualFunc_impl_Obj_impl_Obj_impl_Obj_impl_Obj_L0 (SE3 x y 0)=some (.ext 0,⟨[(1,.sz t_impl_Obj (y.map eObj)),(2,.fn n_impl_sameObj [] []),(15,.sz t_impl_Obj (x.map eObj)),(16,.a (.int .i64 x.length)),(17,.a (.int .i64 x.length)),(18,.a (.bool false))],[],100⟩))∧(¬x=y→∃nd nx,loopE (T (d+2)) fuel [1,2,15,16,17] c_slices_EqualFunc_impl_Obj_impl_Obj_impl_Obj_impl_Obj_L0 (SE3 x y 0)=some (.ret,⟨[(6,.a (.bool false))],nd,nx⟩)):=by
 refine vu6 (SE3 x y) _ _ hl (vas (by omega)) (fun i a ha hc=> ?_) (fun i a c ha hc h=> ?_) ?_
 ·have hi:i<x.length:=(List.getElem?_eq_some_iff.1 ha).1
  have hw:=vag i (by omega)
  have hs:=vip (d:=d) a a (hv a (List.mem_of_getElem? ha))
  rw [decide_eq_true rfl] at hs
  unfold round SE3 c_slices_EqualFunc_impl_Obj_impl_Obj_impl_Obj_impl_Obj_L0
  simp (maxSteps:=3000000) (implicitDefEqProofs:=false) (disch:=first|assumption|(refine ofR ?_;show norm _ _=_;kernel_rfl)|(refine ofR ?_;show okD _ _ _ _=true;kernel_rfl)|exact ofR (by with_unfolding_all rfl)|exact ofB (by with_unfolding_all rfl)|omega|(simp only [go_sem,vab];omega)) only [go_sem,Nat.reduceAdd,Nat.reduceBEq,ha,hc,hw,hs]
  (show some _=some _;kernel_rfl)
 ·have hi:i<x.length:=(List.getElem?_eq_some_iff.1 ha).1
  have hs:=vip (d:=d) a c (hv a (List.mem_of_getElem? ha))
  rw [decide_eq_false h] at hs
  unfold round SE3 c_slices_EqualFunc_impl_Obj_impl_Obj_impl_Obj_impl_Obj_L0
  exact ⟨_,_,by
   simp (maxSteps:=3000000) (implicitDefEqProofs:=false) (disch:=first|assumption|(refine ofR ?_;show norm _ _=_;kernel_rfl)|(refine ofR ?_;show okD _ _ _ _=true;kernel_rfl)|exact ofR (by with_unfolding_all rfl)|exact ofB (by with_unfolding_all rfl)|omega|(simp only [go_sem,vab];omega)) only [go_sem,Nat.reduceAdd,Nat.reduceBEq,ha,hc,hs]
   rfl⟩
 ·unfold round SE3 c_slices_EqualFunc_impl_Obj_impl_Obj_impl_Obj_impl_Obj_L0
  simp (maxSteps:=3000000) (implicitDefEqProofs:=false) (disch:=first|assumption|(refine ofR ?_;show norm _ _=_;kernel_rfl)|(refine ofR ?_;show okD _ _ _ _=true;kernel_rfl)|exact ofR (by with_unfolding_all rfl)|exact ofB (by with_unfolding_all rfl)|omega|(simp only [go_sem,vab];omega)) only [go_sem,Nat.reduceAdd,Nat.reduceBEq]
theorem vn0 {d:Nat} (x y:List Obj') (hx:x.length≤1048576) (hv:∀o∈x,o.vals.length≤1048576):runFn (T (d+2)) fuel f_slices_EqualFunc_impl_Obj_impl_Obj_impl_Obj_impl_Obj [.sl true t_impl_Obj (x.map eObj),.sl true t_impl_Obj (y.map eObj),.fn n_impl_sameObj [] []]=some ([.a (.bool (decide (x=y)))],[]):=by
 rw [vae rfl]
 by_cases hl:x.length=y.length
 ·have key':=vpc (d:=d) hl hx hv
  unfold SE3 at key'
  by_cases h:x=y
  ·have key:=key'.1 h
   rw [decide_eq_true h]
   simp (maxSteps:=3000000) (implicitDefEqProofs:=false) (disch:=first|assumption|(refine ofR ?_;show norm _ _=_;kernel_rfl)|(refine ofR ?_;show okD _ _ _ _=true;kernel_rfl)|exact ofR (by with_unfolding_all rfl)|exact ofB (by with_unfolding_all rfl)|omega|(simp only [go_sem,vab];omega)) only [go_sem,Nat.reduceAdd,Nat.reduceBEq,f_slices_EqualFunc_impl_Obj_impl_Obj_impl_Obj_impl_Obj,c_slices_EqualFunc_impl_Obj_impl_Obj_impl_Obj_impl_Obj,hl]
   rw [←hl,vah key (by kernel_rfl)]
   simp (maxSteps:=3000000) (implicitDefEqProofs:=false) (disch:=first|assumption|(refine ofR ?_;show norm _ _=_;kernel_rfl)|(refine ofR ?_;show okD _ _ _ _=true;kernel_rfl)|exact ofR (by with_unfolding_all rfl)|exact ofB (by with_unfolding_all rfl)|omega|(simp only [go_sem,vab];omega)) only [go_sem,Nat.reduceAdd,Nat.reduceBEq]
  ·obtain ⟨nd,nx,key⟩:=key'.2 h
   rw [decide_eq_false h]
   simp (maxSteps:=3000000) (implicitDefEqProofs:=false) (disch:=first|assumption|(refine ofR ?_;show norm _ _=_;kernel_rfl)|(refine ofR ?_;show okD _ _ _ _=true;kernel_rfl)|exact ofR (by with_unfolding_all rfl)|exact ofB (by with_unfolding_all rfl)|omega|(simp only [go_sem,vab];omega)) only [go_sem,Nat.reduceAdd,Nat.reduceBEq,f_slices_EqualFunc_impl_Obj_impl_Obj_impl_Obj_impl_Obj,c_slices_EqualFunc_impl_Obj_impl_Obj_impl_Obj_impl_Obj,hl]
   rw [←hl,vbo key (by kernel_rfl)]
   simp (maxSteps:=3000000) (implicitDefEqProofs:=false) (disch:=first|assumption|(refine ofR ?_;show norm _ _=_;kernel_rfl)|(refine ofR ?_;show okD _ _ _ _=true;kernel_rfl)|exact ofR (by with_unfolding_all rfl)|exact ofB (by with_unfolding_all rfl)|omega|(simp only [go_sem,vab];omega)) only [go_sem,Nat.reduceAdd,Nat.reduceBEq]
 ·rw [vdr hl]
  have hl':=vfi hl
  simp (maxSteps:=3000000) (implicitDefEqProofs:=false) (disch:=first|assumption|(refine ofR ?_;show norm _ _=_;kernel_rfl)|(refine ofR ?_;show okD _ _ _ _=true;kernel_rfl)|exact ofR (by with_unfolding_all rfl)|exact ofB (by with_unfolding_all rfl)|omega|(simp only [go_sem,vab];omega)) only [go_sem,Nat.reduceAdd,Nat.reduceBEq,f_slices_EqualFunc_impl_Obj_impl_Obj_impl_Obj_impl_Obj,c_slices_EqualFunc_impl_Obj_impl_Obj_impl_Obj_impl_Obj,hl']
def sameG (a b:Gr):Bool:=decide (a.roots=b.roots)&&decide (a.nodes=b.nodes)
theorem vnq {d:Nat} (a b:Gr) (hr:a.roots.length≤1048576) (hn:a.nodes.length≤1048576) (hv:∀o∈a.nodes,o.vals.length≤1048576):runFn (T (d+3)) fuel f_impl_sameGraph [cGr true a,cGr true b]=some ([.a (.bool (sameG a b))],[]):=by
 have h1:=vmp (Φ:=T (d+2)) a.roots b.roots hr
 have h2:=vn0 (d:=d) a.nodes b.nodes hn hv
 rw [vae rfl]
 unfold sameG
 by_cases h:a.roots=b.roots
 ·rw [decide_eq_true h] at h1⊢
  simp (maxSteps:=3000000) (implicitDefEqProofs:=false) (disch:=first|assumption|(refine ofR ?_;show norm _ _=_;kernel_rfl)|(refine ofR ?_;show okD _ _ _ _=true;kernel_rfl)|exact ofR (by with_unfolding_all rfl)|exact ofB (by with_unfolding_all rfl)|omega|(simp only [go_sem,vab];omega)) only [go_sem,Nat.reduceAdd,Nat.reduceBEq,f_impl_sameGraph,c_impl_sameGraph,h1,h2]
 ·rw [decide_eq_false h] at h1⊢
  simp (maxSteps:=3000000) (implicitDefEqProofs:=false) (disch:=first|assumption|(refine ofR ?_;show norm _ _=_;kernel_rfl)|(refine ofR ?_;show okD _ _ _ _=true;kernel_rfl)|exact ofR (by with_unfolding_all rfl)|exact ofB (by with_unfolding_all rfl)|omega|(simp only [go_sem,vab];omega)) only [go_sem,Nat.reduceAdd,Nat.reduceBEq,f_impl_sameGraph,c_impl_sameGraph,h1]
def SE4 (a b:Gr) (i:Nat):St:=⟨[(2,.rf 0),(3,.rf 1),(5,.a (.int .i64 i))],[(0,some (.bx false (uGr a))),(1,some (.bx false (uGr b)))],2⟩
theorem vui {d:Nat} {a b:Gr} (hl:a.nodes.length=b.nodes.length) (hx:a.nodes.length≤1048576) (hv:∀o∈a.nodes,o.vals.length≤1048576):loopE (T (d+1)) fuel [2,3,5] c_spec_l7Same_L0 (SE4 a b 0)=
  some (if a.nodes=b.nodes then (.ext 0,⟨[(2,.rf 0),(3,.rf 1),(5,.a (.int .i64 a.nodes.length)),(25,.a (.bool false))],[(0,some (.bx false (uGr a))),(1,some (.bx false (uGr b)))],502⟩) else (.ret,⟨[(4,.a (.bool false))],[(0,some (.bx false (uGr a))),(1,some (.bx false (uGr b)))],3502⟩)):=by
 refine vex (SE4 a b) _ _ hl (vas (by omega)) (fun i o ha hc=> ?_) (fun i o c ha hc h=> ?_) ?_
 ·have hi:i<a.nodes.length:=(List.getElem?_eq_some_iff.1 ha).1
  have hw:=vag i (by omega)
  have hs:=vjm (Φ:=T d) o.vals o.vals (hv o (List.mem_of_getElem? ha))
  rw [decide_eq_true rfl] at hs
  unfold round SE4 c_spec_l7Same_L0
  simp (maxSteps:=3000000) (implicitDefEqProofs:=false) (disch:=first|assumption|(refine ofR ?_;show norm _ _=_;kernel_rfl)|(refine ofR ?_;show okD _ _ _ _=true;kernel_rfl)|exact ofR (by with_unfolding_all rfl)|exact ofB (by with_unfolding_all rfl)|omega|(simp only [go_sem,vab];omega)) only [go_sem,Nat.reduceAdd,Nat.reduceBEq,ha,hc,hw,hs]
  (show some _=some _;kernel_rfl)
 ·have hi:i<a.nodes.length:=(List.getElem?_eq_some_iff.1 ha).1
  have hs:=vjm (Φ:=T d) o.vals c.vals (hv o (List.mem_of_getElem? ha))
  have hd:=vlw o c
  rw [decide_eq_false h] at hd
  obtain ⟨t,v⟩:=o
  obtain ⟨t',v'⟩:=c
  dsimp only at *
  by_cases ht:t=t'
  ·subst ht
   rw [decide_eq_true rfl,Bool.true_and] at hd
   rw [←hd] at hs
   unfold round SE4 c_spec_l7Same_L0
   simp (maxSteps:=3000000) (implicitDefEqProofs:=false) (disch:=first|assumption|(refine ofR ?_;show norm _ _=_;kernel_rfl)|(refine ofR ?_;show okD _ _ _ _=true;kernel_rfl)|exact ofR (by with_unfolding_all rfl)|exact ofB (by with_unfolding_all rfl)|omega|(simp only [go_sem,vab];omega)) only [go_sem,Nat.reduceAdd,Nat.reduceBEq,ha,hc,hs]
  ·unfold round SE4 c_spec_l7Same_L0
   simp (maxSteps:=3000000) (implicitDefEqProofs:=false) (disch:=first|assumption|(refine ofR ?_;show norm _ _=_;kernel_rfl)|(refine ofR ?_;show okD _ _ _ _=true;kernel_rfl)|exact ofR (by with_unfolding_all rfl)|exact ofB (by with_unfolding_all rfl)|omega|(simp only [go_sem,vab];omega)) only [go_sem,Nat.reduceAdd,Nat.reduceBEq,ha,hc,vei ht]
 ·unfold round SE4 c_spec_l7Same_L0
  simp (maxSteps:=3000000) (implicitDefEqProofs:=false) (disch:=first|assumption|(refine ofR ?_;show norm _ _=_;kernel_rfl)|(refine ofR ?_;show okD _ _ _ _=true;kernel_rfl)|exact ofR (by with_unfolding_all rfl)|exact ofB (by with_unfolding_all rfl)|omega|(simp only [go_sem,vab];omega)) only [go_sem,Nat.reduceAdd,Nat.reduceBEq]
theorem vr8 {d:Nat} (a b:Gr) (hr:a.roots.length≤1048576) (hn:a.nodes.length≤1048576) (hv:∀o∈a.nodes,o.vals.length≤1048576):runFn (T (d+1)) fuel f_spec_l7Same [cGr true a,cGr true b]=some ([.a (.bool (sameG a b))],[]):=by
 have h1:=vjm (Φ:=T d) a.roots b.roots hr
 rw [vae rfl]
 unfold sameG
 by_cases h:a.roots=b.roots
 ·rw [decide_eq_true h] at h1⊢
  by_cases hl:a.nodes.length=b.nodes.length
  ·have key:=vui (d:=d) hl hn hv
   unfold SE4 at key
   by_cases h':a.nodes=b.nodes
   ·rw [if_pos h'] at key
    rw [decide_eq_true h']
    simp (maxSteps:=3000000) (implicitDefEqProofs:=false) (disch:=first|assumption|(refine ofR ?_;show norm _ _=_;kernel_rfl)|(refine ofR ?_;show okD _ _ _ _=true;kernel_rfl)|exact ofR (by with_unfolding_all rfl)|exact ofB (by with_unfolding_all rfl)|omega|(simp only [go_sem,vab];omega)) only [go_sem,Nat.reduceAdd,Nat.reduceBEq,f_spec_l7Same,c_spec_l7Same,h1,hl]
    rw [vah key (by kernel_rfl)]
    simp (maxSteps:=3000000) (implicitDefEqProofs:=false) (disch:=first|assumption|(refine ofR ?_;show norm _ _=_;kernel_rfl)|(refine ofR ?_;show okD _ _ _ _=true;kernel_rfl)|exact ofR (by with_unfolding_all rfl)|exact ofB (by with_unfolding_all rfl)|omega|(simp only [go_sem,vab];omega)) only [go_sem,Nat.reduceAdd,Nat.reduceBEq]
   ·rw [if_neg h'] at key
    rw [decide_eq_false h']
    simp (maxSteps:=3000000) (implicitDefEqProofs:=false) (disch:=first|assumption|(refine ofR ?_;show norm _ _=_;kernel_rfl)|(refine ofR ?_;show okD _ _ _ _=true;kernel_rfl)|exact ofR (by with_unfolding_all rfl)|exact ofB (by with_unfolding_all rfl)|omega|(simp only [go_sem,vab];omega)) only [go_sem,Nat.reduceAdd,Nat.reduceBEq,f_spec_l7Same,c_spec_l7Same,h1,hl]
    rw [vbo key (by kernel_rfl)]
    simp (maxSteps:=3000000) (implicitDefEqProofs:=false) (disch:=first|assumption|(refine ofR ?_;show norm _ _=_;kernel_rfl)|(refine ofR ?_;show okD _ _ _ _=true;kernel_rfl)|exact ofR (by with_unfolding_all rfl)|exact ofB (by with_unfolding_all rfl)|omega|(simp only [go_sem,vab];omega)) only [go_sem,Nat.reduceAdd,Nat.reduceBEq]
  ·rw [vdr hl]
   have hl':=vfi hl
   simp (maxSteps:=3000000) (implicitDefEqProofs:=false) (disch:=first|assumption|(refine ofR ?_;show norm _ _=_;kernel_rfl)|(refine ofR ?_;show okD _ _ _ _=true;kernel_rfl)|exact ofR (by with_unfolding_all rfl)|exact ofB (by with_unfolding_all rfl)|omega|(simp only [go_sem,vab];omega)) only [go_sem,Nat.reduceAdd,Nat.reduceBEq,f_spec_l7Same,c_spec_l7Same,h1,hl']
 ·rw [decide_eq_false h] at h1⊢
  simp (maxSteps:=3000000) (implicitDefEqProofs:=false) (disch:=first|assumption|(refine ofR ?_;show norm _ _=_;kernel_rfl)|(refine ofR ?_;show okD _ _ _ _=true;kernel_rfl)|exact ofR (by with_unfolding_all rfl)|exact ofB (by with_unfolding_all rfl)|omega|(simp only [go_sem,vab];omega)) only [go_sem,Nat.reduceAdd,Nat.reduceBEq,f_spec_l7Same,c_spec_l7Same,h1]
end Go.Proofs.YteomgghmhicpcaaDoor.VM
