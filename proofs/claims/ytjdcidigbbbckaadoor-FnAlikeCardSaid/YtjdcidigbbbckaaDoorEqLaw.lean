/- Graphs compared. -/
import Derived.Test.YtjdcidigbbbckaaDoorLawP
namespace Go.Proofs.YtjdcidigbbbckaaDoor.VM
open Go Sy
variable {Φ:Nat→Option Callee} {N:Nat}
theorem gxf {α:Type} [DecidableEq α] {live:List Nat} {b:VC} (S:Nat→St) (e1 e0:St) {id:Nat} {x y:List α} (hl:x.length=y.length) (hN:x.length<N)
 (yes: ∀i a,x[i]? =some a→y[i]? =some a→yz Φ N live b (S i)=some (.nrm,S (i+1)))
 (no: ∀i a c,x[i]? =some a→y[i]? =some c→a≠c→yz Φ N live b (S i)=some (.ret,e0))
 (last:yz Φ N live b (S x.length)=some (.ext id,e1)):tzb Φ N live b (S 0)=some (if x=y then (.ext id,e1) else (.ret,e0)):=by
 refine hzb S _ (fun i=> ∀j,j<i→x[j]? =y[j]?) (m:=x.length) hN (fun j h=>by omega) (by split<;>simp) (fun i hi hp=> ?_)
 by_cases hi':i<x.length
 ·obtain ⟨a,ha⟩: ∃a,x[i]? =some a:=⟨_,List.getElem?_eq_getElem hi'⟩
  obtain ⟨c,hc⟩: ∃a,y[i]? =some a:=⟨_,List.getElem?_eq_getElem (by omega)⟩
  by_cases h:a=c
  ·subst h
   refine .inl ⟨hi',yes i a ha hc,fun j hj=> ?_⟩
   by_cases hji:j=i
   ·subst hji;rw [ha,hc]
   ·exact hp j (by omega)
  ·right
   rw [if_neg (fun e=>by subst e;rw [ha] at hc;cases hc;exact h rfl)]
   exact no i a c ha hc h
 ·obtain rfl:i=x.length:=by omega
  right
  rw [if_pos (List.ext_getElem? fun j=>by
   by_cases hj:j<x.length
   ·exact hp j hj
   ·rw [List.getElem?_eq_none (by omega),List.getElem?_eq_none (by omega)])]
  exact last
theorem azi {α:Type} [DecidableEq α] {live:List Nat} {b:VC} (S:Nat→St) (e1:St) (sl:List (Nat×TV)) {id:Nat} {x y:List α} (hl:x.length=y.length) (hN:x.length<N)
 (yes: ∀i a,x[i]? =some a→y[i]? =some a→yz Φ N live b (S i)=some (.nrm,S (i+1)))
 (no: ∀i a c,x[i]? =some a→y[i]? =some c→a≠c→ ∃nd nx,yz Φ N live b (S i)=some (.ret,⟨sl,nd,nx⟩))
 (last:yz Φ N live b (S x.length)=some (.ext id,e1)):(x=y→tzb Φ N live b (S 0)=some (.ext id,e1))∧(¬x=y→ ∃nd nx,tzb Φ N live b (S 0)=some (.ret,⟨sl,nd,nx⟩)):=by
 obtain ⟨o,e,h1,h2⟩:=gkg (Φ:=Φ) (N:=N) (live:=live) (b:=b) S (fun o e=>(x=y→o= .ext id∧e=e1)∧(¬x=y→o= .ret∧ ∃nd nx,e=⟨sl,nd,nx⟩)) (fun i=> ∀j,j<i→x[j]? =y[j]?) (m:=x.length) hN (fun j h=>by omega) (fun i hi hp=>by
  by_cases hi':i<x.length
  ·obtain ⟨a,ha⟩: ∃a,x[i]? =some a:=⟨_,List.getElem?_eq_getElem hi'⟩
   obtain ⟨c,hc⟩: ∃a,y[i]? =some a:=⟨_,List.getElem?_eq_getElem (by omega)⟩
   by_cases h:a=c
   ·subst h
    refine .inl ⟨hi',yes i a ha hc,fun j hj=> ?_⟩
    by_cases hji:j=i
    ·subst hji;rw [ha,hc]
    ·exact hp j (by omega)
   ·right
    obtain ⟨nd,nx,hr⟩:=no i a c ha hc h
    exact ⟨_,_,by simp,hr,fun e=>absurd (by subst e;rw [ha] at hc;cases hc;rfl) h,fun _=>⟨rfl,nd,nx,rfl⟩⟩
  ·obtain rfl:i=x.length:=by omega
   right
   refine ⟨_,_,by simp,last,fun _=>⟨rfl,rfl⟩,fun e=>absurd (List.ext_getElem? fun j=> ?_) e⟩
   by_cases hj:j<x.length
   ·exact hp j hj
   ·rw [List.getElem?_eq_none (by omega),List.getElem?_eq_none (by omega)])
 refine ⟨fun e'=> ?_,fun e'=> ?_⟩
 ·obtain ⟨rfl,rfl⟩:=h1.1 e';exact h2
 ·obtain ⟨rfl,nd,nx,rfl⟩:=h1.2 e';exact ⟨nd,nx,h2⟩
theorem qqe {α:Type} [DecidableEq α] {x y:List α} (h: ¬x.length=y.length):decide (x=y)=false:=decide_eq_false fun e=>h (by rw [e])
theorem ekg {m n:Nat} (h: ¬m=n): ¬(m:Int)=(n:Int):=by omega
theorem uxf {a c:Int} (h:a≠c):decide (a=c)=false:=decide_eq_false h
def SE1 (x y:List Int) (i:Nat):St:=⟨[(0,.sz oz (x.map eInt)),(1,.sz oz (y.map eInt)),(12,.a (.int .i64 x.length)),(13,.a (.int .i64 i))],[],0⟩
theorem nzj {x y:List Int} (hl:x.length=y.length) (hx:x.length≤1048576):tzb Φ fuel [0,1,12,13] tq (SE1 x y 0)=
 some (if x=y then (.ext 0,⟨[(0,.sz oz (x.map eInt)),(1,.sz oz (y.map eInt)),(12,.a (.int .i64 x.length)),(13,.a (.int .i64 x.length)),(14,.a (.bool false))],[],100⟩) else (.ret,⟨[(4,.a (.bool false))],[],1300⟩)):=by
 refine gxf (SE1 x y) _ _ hl (sq (by omega)) (fun i a ha hc=> ?_) (fun i a c ha hc h=> ?_) ?_
 ·have hi:i<x.length:=(List.getElem?_eq_some_iff.1 ha).1
  have hw:=gj i (by omega)
  unfold yz SE1 tq
  simp (maxSteps:=3000000) (implicitDefEqProofs:=false) (disch:=first|assumption|(refine ofR ?_;show norm _ _=_;kernel_rfl)|(refine ofR ?_;show okD _ _ _ _=true;kernel_rfl)|exact ofR (by with_unfolding_all rfl)|exact ofB (by with_unfolding_all rfl)|omega|(simp only [go_sem,bz];omega)) only [go_sem,Nat.reduceAdd,Nat.reduceBEq,ha,hc,hw]
  (show some _=some _;kernel_rfl)
 ·have hi:i<x.length:=(List.getElem?_eq_some_iff.1 ha).1
  unfold yz SE1 tq
  simp (maxSteps:=3000000) (implicitDefEqProofs:=false) (disch:=first|assumption|(refine ofR ?_;show norm _ _=_;kernel_rfl)|(refine ofR ?_;show okD _ _ _ _=true;kernel_rfl)|exact ofR (by with_unfolding_all rfl)|exact ofB (by with_unfolding_all rfl)|omega|(simp only [go_sem,bz];omega)) only [go_sem,Nat.reduceAdd,Nat.reduceBEq,ha,hc,uxf h]
 ·unfold yz SE1 tq
  simp (maxSteps:=3000000) (implicitDefEqProofs:=false) (disch:=first|assumption|(refine ofR ?_;show norm _ _=_;kernel_rfl)|(refine ofR ?_;show okD _ _ _ _=true;kernel_rfl)|exact ofR (by with_unfolding_all rfl)|exact ofB (by with_unfolding_all rfl)|omega|(simp only [go_sem,bz];omega)) only [go_sem,Nat.reduceAdd,Nat.reduceBEq]
theorem xkf (x y:List Int) (hx:x.length≤1048576):fj Φ fuel xj [.sl true oz (x.map eInt),.sl true oz (y.map eInt)]=some ([.a (.bool (decide (x=y)))],[]):=by
 rw [sj rfl]
 by_cases hl:x.length=y.length
 ·have key:=nzj (Φ:=Φ) hl hx
  unfold SE1 at key
  by_cases h:x=y
  ·rw [if_pos h] at key
   rw [decide_eq_true h]
   simp (maxSteps:=3000000) (implicitDefEqProofs:=false) (disch:=first|assumption|(refine ofR ?_;show norm _ _=_;kernel_rfl)|(refine ofR ?_;show okD _ _ _ _=true;kernel_rfl)|exact ofR (by with_unfolding_all rfl)|exact ofB (by with_unfolding_all rfl)|omega|(simp only [go_sem,bz];omega)) only [go_sem,Nat.reduceAdd,Nat.reduceBEq,xj,vk,hl]
   rw [←hl,wj key (by kernel_rfl)]
   simp (maxSteps:=3000000) (implicitDefEqProofs:=false) (disch:=first|assumption|(refine ofR ?_;show norm _ _=_;kernel_rfl)|(refine ofR ?_;show okD _ _ _ _=true;kernel_rfl)|exact ofR (by with_unfolding_all rfl)|exact ofB (by with_unfolding_all rfl)|omega|(simp only [go_sem,bz];omega)) only [go_sem,Nat.reduceAdd,Nat.reduceBEq]
  ·rw [if_neg h] at key
   rw [decide_eq_false h]
   simp (maxSteps:=3000000) (implicitDefEqProofs:=false) (disch:=first|assumption|(refine ofR ?_;show norm _ _=_;kernel_rfl)|(refine ofR ?_;show okD _ _ _ _=true;kernel_rfl)|exact ofR (by with_unfolding_all rfl)|exact ofB (by with_unfolding_all rfl)|omega|(simp only [go_sem,bz];omega)) only [go_sem,Nat.reduceAdd,Nat.reduceBEq,xj,vk,hl]
   rw [←hl,pjc key (by kernel_rfl)]
   simp (maxSteps:=3000000) (implicitDefEqProofs:=false) (disch:=first|assumption|(refine ofR ?_;show norm _ _=_;kernel_rfl)|(refine ofR ?_;show okD _ _ _ _=true;kernel_rfl)|exact ofR (by with_unfolding_all rfl)|exact ofB (by with_unfolding_all rfl)|omega|(simp only [go_sem,bz];omega)) only [go_sem,Nat.reduceAdd,Nat.reduceBEq]
 ·rw [qqe hl]
  have hl':=ekg hl
  simp (maxSteps:=3000000) (implicitDefEqProofs:=false) (disch:=first|assumption|(refine ofR ?_;show norm _ _=_;kernel_rfl)|(refine ofR ?_;show okD _ _ _ _=true;kernel_rfl)|exact ofR (by with_unfolding_all rfl)|exact ofB (by with_unfolding_all rfl)|omega|(simp only [go_sem,bz];omega)) only [go_sem,Nat.reduceAdd,Nat.reduceBEq,xj,vk,hl']
def SE2 (x y:List Int) (i:Nat):St:=⟨[(0,.sz oz (x.map eInt)),(1,.sz oz (y.map eInt)),(5,.a (.int .i64 i))],[],0⟩
theorem mzk {x y:List Int} (hl:x.length=y.length) (hx:x.length≤1048576):tzb Φ fuel [0,1,5] pxb (SE2 x y 0)=
 some (if x=y then (.ext 0,⟨[(0,.sz oz (x.map eInt)),(1,.sz oz (y.map eInt)),(5,.a (.int .i64 x.length)),(14,.a (.bool false))],[],400⟩) else (.ret,⟨[(4,.a (.bool false))],[],1400⟩)):=by
 refine gxf (SE2 x y) _ _ hl (sq (by omega)) (fun i a ha hc=> ?_) (fun i a c ha hc h=> ?_) ?_
 ·have hi:i<x.length:=(List.getElem?_eq_some_iff.1 ha).1
  have hw:=gj i (by omega)
  unfold yz SE2 pxb
  simp (maxSteps:=3000000) (implicitDefEqProofs:=false) (disch:=first|assumption|(refine ofR ?_;show norm _ _=_;kernel_rfl)|(refine ofR ?_;show okD _ _ _ _=true;kernel_rfl)|exact ofR (by with_unfolding_all rfl)|exact ofB (by with_unfolding_all rfl)|omega|(simp only [go_sem,bz];omega)) only [go_sem,Nat.reduceAdd,Nat.reduceBEq,ha,hc,hw]
  (show some _=some _;kernel_rfl)
 ·have hi:i<x.length:=(List.getElem?_eq_some_iff.1 ha).1
  unfold yz SE2 pxb
  simp (maxSteps:=3000000) (implicitDefEqProofs:=false) (disch:=first|assumption|(refine ofR ?_;show norm _ _=_;kernel_rfl)|(refine ofR ?_;show okD _ _ _ _=true;kernel_rfl)|exact ofR (by with_unfolding_all rfl)|exact ofB (by with_unfolding_all rfl)|omega|(simp only [go_sem,bz];omega)) only [go_sem,Nat.reduceAdd,Nat.reduceBEq,ha,hc,uxf h]
 ·unfold yz SE2 pxb
  simp (maxSteps:=3000000) (implicitDefEqProofs:=false) (disch:=first|assumption|(refine ofR ?_;show norm _ _=_;kernel_rfl)|(refine ofR ?_;show okD _ _ _ _=true;kernel_rfl)|exact ofR (by with_unfolding_all rfl)|exact ofB (by with_unfolding_all rfl)|omega|(simp only [go_sem,bz];omega)) only [go_sem,Nat.reduceAdd,Nat.reduceBEq]
theorem oqf (x y:List Int) (hx:x.length≤1048576):fj Φ fuel zjb [.sl true oz (x.map eInt),.sl true oz (y.map eInt)]=some ([.a (.bool (decide (x=y)))],[]):=by
 rw [sj rfl]
 by_cases hl:x.length=y.length
 ·have key:=mzk (Φ:=Φ) hl hx
  unfold SE2 at key
  by_cases h:x=y
  ·rw [if_pos h] at key
   rw [decide_eq_true h]
   simp (maxSteps:=3000000) (implicitDefEqProofs:=false) (disch:=first|assumption|(refine ofR ?_;show norm _ _=_;kernel_rfl)|(refine ofR ?_;show okD _ _ _ _=true;kernel_rfl)|exact ofR (by with_unfolding_all rfl)|exact ofB (by with_unfolding_all rfl)|omega|(simp only [go_sem,bz];omega)) only [go_sem,Nat.reduceAdd,Nat.reduceBEq,zjb,oxc,hl]
   rw [wj key (by kernel_rfl)]
   simp (maxSteps:=3000000) (implicitDefEqProofs:=false) (disch:=first|assumption|(refine ofR ?_;show norm _ _=_;kernel_rfl)|(refine ofR ?_;show okD _ _ _ _=true;kernel_rfl)|exact ofR (by with_unfolding_all rfl)|exact ofB (by with_unfolding_all rfl)|omega|(simp only [go_sem,bz];omega)) only [go_sem,Nat.reduceAdd,Nat.reduceBEq]
  ·rw [if_neg h] at key
   rw [decide_eq_false h]
   simp (maxSteps:=3000000) (implicitDefEqProofs:=false) (disch:=first|assumption|(refine ofR ?_;show norm _ _=_;kernel_rfl)|(refine ofR ?_;show okD _ _ _ _=true;kernel_rfl)|exact ofR (by with_unfolding_all rfl)|exact ofB (by with_unfolding_all rfl)|omega|(simp only [go_sem,bz];omega)) only [go_sem,Nat.reduceAdd,Nat.reduceBEq,zjb,oxc,hl]
   rw [pjc key (by kernel_rfl)]
   simp (maxSteps:=3000000) (implicitDefEqProofs:=false) (disch:=first|assumption|(refine ofR ?_;show norm _ _=_;kernel_rfl)|(refine ofR ?_;show okD _ _ _ _=true;kernel_rfl)|exact ofR (by with_unfolding_all rfl)|exact ofB (by with_unfolding_all rfl)|omega|(simp only [go_sem,bz];omega)) only [go_sem,Nat.reduceAdd,Nat.reduceBEq]
 ·rw [qqe hl]
  have hl':=ekg hl
  simp (maxSteps:=3000000) (implicitDefEqProofs:=false) (disch:=first|assumption|(refine ofR ?_;show norm _ _=_;kernel_rfl)|(refine ofR ?_;show okD _ _ _ _=true;kernel_rfl)|exact ofR (by with_unfolding_all rfl)|exact ofB (by with_unfolding_all rfl)|omega|(simp only [go_sem,bz];omega)) only [go_sem,Nat.reduceAdd,Nat.reduceBEq,zjb,oxc,hl']
instance:DecidableEq Obj':=fun a b=>if h:a.ty=b.ty∧a.vals=b.vals then isTrue (by cases a;cases b;obtain ⟨h1,h2⟩:=h;dsimp only at h1 h2;rw [h1,h2]) else isFalse (fun e=>h (by rw [e];exact ⟨rfl,rfl⟩))
theorem tkh (a b:Obj'):decide (a=b)=(decide (a.ty=b.ty)&&decide (a.vals=b.vals)):=by
 by_cases h:a=b
 ·subst h;simp
 ·rw [decide_eq_false h]
  by_cases h1:a.ty=b.ty
  ·by_cases h2:a.vals=b.vals
   ·exact absurd (by cases a;cases b;dsimp only at h1 h2;rw [h1,h2]) h
   ·rw [decide_eq_false h2];simp
  ·rw [decide_eq_false h1];rfl
theorem fxe {d:Nat} (a b:Obj') (ha:a.vals.length≤1048576):fj (T (d+1)) fuel fqb [cObj true a,cObj true b]=some ([.a (.bool (decide (a=b)))],[]):=by
 have hc:=xkf (Φ:=T d) a.vals b.vals ha
 rw [sj rfl,tkh]
 obtain ⟨at',av⟩:=a
 obtain ⟨bt,bv⟩:=b
 dsimp only at*
 by_cases h:at'=bt
 ·rw [decide_eq_true h]
  subst h
  simp (maxSteps:=3000000) (implicitDefEqProofs:=false) (disch:=first|assumption|(refine ofR ?_;show norm _ _=_;kernel_rfl)|(refine ofR ?_;show okD _ _ _ _=true;kernel_rfl)|exact ofR (by with_unfolding_all rfl)|exact ofB (by with_unfolding_all rfl)|omega|(simp only [go_sem,bz];omega)) only [go_sem,Nat.reduceAdd,Nat.reduceBEq,fqb,ykc,hc]
 ·rw [decide_eq_false h]
  simp (maxSteps:=3000000) (implicitDefEqProofs:=false) (disch:=first|assumption|(refine ofR ?_;show norm _ _=_;kernel_rfl)|(refine ofR ?_;show okD _ _ _ _=true;kernel_rfl)|exact ofR (by with_unfolding_all rfl)|exact ofB (by with_unfolding_all rfl)|omega|(simp only [go_sem,bz];omega)) only [go_sem,Nat.reduceAdd,Nat.reduceBEq,fqb,ykc,uxf h]
def SE3 (x y:List Obj') (i:Nat):St:=⟨[(1,.sz gz (y.map eObj)),(2,.fn cqb [] []),(15,.sz gz (x.map eObj)),(16,.a (.int .i64 x.length)),(17,.a (.int .i64 i))],[],0⟩
theorem hjg {d:Nat} {x y:List Obj'} (hl:x.length=y.length) (hx:x.length≤1048576) (hv: ∀o∈x,o.vals.length≤1048576):(x=y→tzb (T (d+2)) fuel [1,2,15,16,17] pz (SE3 x y 0)=some (.ext 0,⟨[(1,.sz gz (y.map eObj)),(2,.fn cqb [] []),(15,.sz gz (x.map eObj)),(16,.a (.int .i64 x.length)),(17,.a (.int .i64 x.length)),(18,.a (.bool false))],[],100⟩))∧(¬x=y→ ∃nd nx,tzb (T (d+2)) fuel [1,2,15,16,17] pz (SE3 x y 0)=some (.ret,⟨[(6,.a (.bool false))],nd,nx⟩)):=by
 refine azi (SE3 x y) _ _ hl (sq (by omega)) (fun i a ha hc=> ?_) (fun i a c ha hc h=> ?_) ?_
 ·have hi:i<x.length:=(List.getElem?_eq_some_iff.1 ha).1
  have hw:=gj i (by omega)
  have hs:=fxe (d:=d) a a (hv a (List.mem_of_getElem? ha))
  rw [decide_eq_true rfl] at hs
  unfold yz SE3 pz
  simp (maxSteps:=3000000) (implicitDefEqProofs:=false) (disch:=first|assumption|(refine ofR ?_;show norm _ _=_;kernel_rfl)|(refine ofR ?_;show okD _ _ _ _=true;kernel_rfl)|exact ofR (by with_unfolding_all rfl)|exact ofB (by with_unfolding_all rfl)|omega|(simp only [go_sem,bz];omega)) only [go_sem,Nat.reduceAdd,Nat.reduceBEq,ha,hc,hw,hs]
  (show some _=some _;kernel_rfl)
 ·have hi:i<x.length:=(List.getElem?_eq_some_iff.1 ha).1
  have hs:=fxe (d:=d) a c (hv a (List.mem_of_getElem? ha))
  rw [decide_eq_false h] at hs
  unfold yz SE3 pz
  exact ⟨_,_,by
   simp (maxSteps:=3000000) (implicitDefEqProofs:=false) (disch:=first|assumption|(refine ofR ?_;show norm _ _=_;kernel_rfl)|(refine ofR ?_;show okD _ _ _ _=true;kernel_rfl)|exact ofR (by with_unfolding_all rfl)|exact ofB (by with_unfolding_all rfl)|omega|(simp only [go_sem,bz];omega)) only [go_sem,Nat.reduceAdd,Nat.reduceBEq,ha,hc,hs]
   rfl⟩
 ·unfold yz SE3 pz
  simp (maxSteps:=3000000) (implicitDefEqProofs:=false) (disch:=first|assumption|(refine ofR ?_;show norm _ _=_;kernel_rfl)|(refine ofR ?_;show okD _ _ _ _=true;kernel_rfl)|exact ofR (by with_unfolding_all rfl)|exact ofB (by with_unfolding_all rfl)|omega|(simp only [go_sem,bz];omega)) only [go_sem,Nat.reduceAdd,Nat.reduceBEq]
theorem rqf {d:Nat} (x y:List Obj') (hx:x.length≤1048576) (hv: ∀o∈x,o.vals.length≤1048576):fj (T (d+2)) fuel nz [.sl true gz (x.map eObj),.sl true gz (y.map eObj),.fn cqb [] []]=some ([.a (.bool (decide (x=y)))],[]):=by
 rw [sj rfl]
 by_cases hl:x.length=y.length
 ·have key':=hjg (d:=d) hl hx hv
  unfold SE3 at key'
  by_cases h:x=y
  ·have key:=key'.1 h
   rw [decide_eq_true h]
   simp (maxSteps:=3000000) (implicitDefEqProofs:=false) (disch:=first|assumption|(refine ofR ?_;show norm _ _=_;kernel_rfl)|(refine ofR ?_;show okD _ _ _ _=true;kernel_rfl)|exact ofR (by with_unfolding_all rfl)|exact ofB (by with_unfolding_all rfl)|omega|(simp only [go_sem,bz];omega)) only [go_sem,Nat.reduceAdd,Nat.reduceBEq,nz,wz,hl]
   rw [←hl,wj key (by kernel_rfl)]
   simp (maxSteps:=3000000) (implicitDefEqProofs:=false) (disch:=first|assumption|(refine ofR ?_;show norm _ _=_;kernel_rfl)|(refine ofR ?_;show okD _ _ _ _=true;kernel_rfl)|exact ofR (by with_unfolding_all rfl)|exact ofB (by with_unfolding_all rfl)|omega|(simp only [go_sem,bz];omega)) only [go_sem,Nat.reduceAdd,Nat.reduceBEq]
  ·obtain ⟨nd,nx,key⟩:=key'.2 h
   rw [decide_eq_false h]
   simp (maxSteps:=3000000) (implicitDefEqProofs:=false) (disch:=first|assumption|(refine ofR ?_;show norm _ _=_;kernel_rfl)|(refine ofR ?_;show okD _ _ _ _=true;kernel_rfl)|exact ofR (by with_unfolding_all rfl)|exact ofB (by with_unfolding_all rfl)|omega|(simp only [go_sem,bz];omega)) only [go_sem,Nat.reduceAdd,Nat.reduceBEq,nz,wz,hl]
   rw [←hl,pjc key (by kernel_rfl)]
   simp (maxSteps:=3000000) (implicitDefEqProofs:=false) (disch:=first|assumption|(refine ofR ?_;show norm _ _=_;kernel_rfl)|(refine ofR ?_;show okD _ _ _ _=true;kernel_rfl)|exact ofR (by with_unfolding_all rfl)|exact ofB (by with_unfolding_all rfl)|omega|(simp only [go_sem,bz];omega)) only [go_sem,Nat.reduceAdd,Nat.reduceBEq]
 ·rw [qqe hl]
  have hl':=ekg hl
  simp (maxSteps:=3000000) (implicitDefEqProofs:=false) (disch:=first|assumption|(refine ofR ?_;show norm _ _=_;kernel_rfl)|(refine ofR ?_;show okD _ _ _ _=true;kernel_rfl)|exact ofR (by with_unfolding_all rfl)|exact ofB (by with_unfolding_all rfl)|omega|(simp only [go_sem,bz];omega)) only [go_sem,Nat.reduceAdd,Nat.reduceBEq,nz,wz,hl']
def lzf (a b:Gr):Bool:=decide (a.roots=b.roots)&&decide (a.nodes=b.nodes)
theorem jqf {d:Nat} (a b:Gr) (hr:a.roots.length≤1048576) (hn:a.nodes.length≤1048576) (hv: ∀o∈a.nodes,o.vals.length≤1048576):fj (T (d+3)) fuel lzb [cGr true a,cGr true b]=some ([.a (.bool (lzf a b))],[]):=by
 have h1:=xkf (Φ:=T (d+2)) a.roots b.roots hr
 have h2:=rqf (d:=d) a.nodes b.nodes hn hv
 rw [sj rfl]
 unfold lzf
 by_cases h:a.roots=b.roots
 ·rw [decide_eq_true h] at h1 ⊢
  simp (maxSteps:=3000000) (implicitDefEqProofs:=false) (disch:=first|assumption|(refine ofR ?_;show norm _ _=_;kernel_rfl)|(refine ofR ?_;show okD _ _ _ _=true;kernel_rfl)|exact ofR (by with_unfolding_all rfl)|exact ofB (by with_unfolding_all rfl)|omega|(simp only [go_sem,bz];omega)) only [go_sem,Nat.reduceAdd,Nat.reduceBEq,lzb,yqc,h1,h2]
 ·rw [decide_eq_false h] at h1 ⊢
  simp (maxSteps:=3000000) (implicitDefEqProofs:=false) (disch:=first|assumption|(refine ofR ?_;show norm _ _=_;kernel_rfl)|(refine ofR ?_;show okD _ _ _ _=true;kernel_rfl)|exact ofR (by with_unfolding_all rfl)|exact ofB (by with_unfolding_all rfl)|omega|(simp only [go_sem,bz];omega)) only [go_sem,Nat.reduceAdd,Nat.reduceBEq,lzb,yqc,h1]
def SE4 (a b:Gr) (i:Nat):St:=⟨[(2,.rf 0),(3,.rf 1),(5,.a (.int .i64 i))],[(0,some (.bx false (uGr a))),(1,some (.bx false (uGr b)))],2⟩
theorem pzi {d:Nat} {a b:Gr} (hl:a.nodes.length=b.nodes.length) (hx:a.nodes.length≤1048576) (hv: ∀o∈a.nodes,o.vals.length≤1048576):tzb (T (d+1)) fuel [2,3,5] tjb (SE4 a b 0)=
 some (if a.nodes=b.nodes then (.ext 0,⟨[(2,.rf 0),(3,.rf 1),(5,.a (.int .i64 a.nodes.length)),(25,.a (.bool false))],[(0,some (.bx false (uGr a))),(1,some (.bx false (uGr b)))],502⟩) else (.ret,⟨[(4,.a (.bool false))],[(0,some (.bx false (uGr a))),(1,some (.bx false (uGr b)))],3502⟩)):=by
 refine gxf (SE4 a b) _ _ hl (sq (by omega)) (fun i o ha hc=> ?_) (fun i o c ha hc h=> ?_) ?_
 ·have hi:i<a.nodes.length:=(List.getElem?_eq_some_iff.1 ha).1
  have hw:=gj i (by omega)
  have hs:=oqf (Φ:=T d) o.vals o.vals (hv o (List.mem_of_getElem? ha))
  rw [decide_eq_true rfl] at hs
  unfold yz SE4 tjb
  simp (maxSteps:=3000000) (implicitDefEqProofs:=false) (disch:=first|assumption|(refine ofR ?_;show norm _ _=_;kernel_rfl)|(refine ofR ?_;show okD _ _ _ _=true;kernel_rfl)|exact ofR (by with_unfolding_all rfl)|exact ofB (by with_unfolding_all rfl)|omega|(simp only [go_sem,bz];omega)) only [go_sem,Nat.reduceAdd,Nat.reduceBEq,ha,hc,hw,hs]
  (show some _=some _;kernel_rfl)
 ·have hi:i<a.nodes.length:=(List.getElem?_eq_some_iff.1 ha).1
  have hs:=oqf (Φ:=T d) o.vals c.vals (hv o (List.mem_of_getElem? ha))
  have hd:=tkh o c
  rw [decide_eq_false h] at hd
  obtain ⟨t,v⟩:=o
  obtain ⟨t',v'⟩:=c
  dsimp only at*
  by_cases ht:t=t'
  ·subst ht
   rw [decide_eq_true rfl,Bool.true_and] at hd
   rw [←hd] at hs
   unfold yz SE4 tjb
   simp (maxSteps:=3000000) (implicitDefEqProofs:=false) (disch:=first|assumption|(refine ofR ?_;show norm _ _=_;kernel_rfl)|(refine ofR ?_;show okD _ _ _ _=true;kernel_rfl)|exact ofR (by with_unfolding_all rfl)|exact ofB (by with_unfolding_all rfl)|omega|(simp only [go_sem,bz];omega)) only [go_sem,Nat.reduceAdd,Nat.reduceBEq,ha,hc,hs]
  ·unfold yz SE4 tjb
   simp (maxSteps:=3000000) (implicitDefEqProofs:=false) (disch:=first|assumption|(refine ofR ?_;show norm _ _=_;kernel_rfl)|(refine ofR ?_;show okD _ _ _ _=true;kernel_rfl)|exact ofR (by with_unfolding_all rfl)|exact ofB (by with_unfolding_all rfl)|omega|(simp only [go_sem,bz];omega)) only [go_sem,Nat.reduceAdd,Nat.reduceBEq,ha,hc,uxf ht]
 ·unfold yz SE4 tjb
  simp (maxSteps:=3000000) (implicitDefEqProofs:=false) (disch:=first|assumption|(refine ofR ?_;show norm _ _=_;kernel_rfl)|(refine ofR ?_;show okD _ _ _ _=true;kernel_rfl)|exact ofR (by with_unfolding_all rfl)|exact ofB (by with_unfolding_all rfl)|omega|(simp only [go_sem,bz];omega)) only [go_sem,Nat.reduceAdd,Nat.reduceBEq]
theorem qzh {d:Nat} (a b:Gr) (hr:a.roots.length≤1048576) (hn:a.nodes.length≤1048576) (hv: ∀o∈a.nodes,o.vals.length≤1048576):fj (T (d+1)) fuel uzb [cGr true a,cGr true b]=some ([.a (.bool (lzf a b))],[]):=by
 have h1:=oqf (Φ:=T d) a.roots b.roots hr
 rw [sj rfl]
 unfold lzf
 by_cases h:a.roots=b.roots
 ·rw [decide_eq_true h] at h1 ⊢
  by_cases hl:a.nodes.length=b.nodes.length
  ·have key:=pzi (d:=d) hl hn hv
   unfold SE4 at key
   by_cases h':a.nodes=b.nodes
   ·rw [if_pos h'] at key
    rw [decide_eq_true h']
    simp (maxSteps:=3000000) (implicitDefEqProofs:=false) (disch:=first|assumption|(refine ofR ?_;show norm _ _=_;kernel_rfl)|(refine ofR ?_;show okD _ _ _ _=true;kernel_rfl)|exact ofR (by with_unfolding_all rfl)|exact ofB (by with_unfolding_all rfl)|omega|(simp only [go_sem,bz];omega)) only [go_sem,Nat.reduceAdd,Nat.reduceBEq,uzb,rjc,h1,hl]
    rw [wj key (by kernel_rfl)]
    simp (maxSteps:=3000000) (implicitDefEqProofs:=false) (disch:=first|assumption|(refine ofR ?_;show norm _ _=_;kernel_rfl)|(refine ofR ?_;show okD _ _ _ _=true;kernel_rfl)|exact ofR (by with_unfolding_all rfl)|exact ofB (by with_unfolding_all rfl)|omega|(simp only [go_sem,bz];omega)) only [go_sem,Nat.reduceAdd,Nat.reduceBEq]
   ·rw [if_neg h'] at key
    rw [decide_eq_false h']
    simp (maxSteps:=3000000) (implicitDefEqProofs:=false) (disch:=first|assumption|(refine ofR ?_;show norm _ _=_;kernel_rfl)|(refine ofR ?_;show okD _ _ _ _=true;kernel_rfl)|exact ofR (by with_unfolding_all rfl)|exact ofB (by with_unfolding_all rfl)|omega|(simp only [go_sem,bz];omega)) only [go_sem,Nat.reduceAdd,Nat.reduceBEq,uzb,rjc,h1,hl]
    rw [pjc key (by kernel_rfl)]
    simp (maxSteps:=3000000) (implicitDefEqProofs:=false) (disch:=first|assumption|(refine ofR ?_;show norm _ _=_;kernel_rfl)|(refine ofR ?_;show okD _ _ _ _=true;kernel_rfl)|exact ofR (by with_unfolding_all rfl)|exact ofB (by with_unfolding_all rfl)|omega|(simp only [go_sem,bz];omega)) only [go_sem,Nat.reduceAdd,Nat.reduceBEq]
  ·rw [qqe hl]
   have hl':=ekg hl
   simp (maxSteps:=3000000) (implicitDefEqProofs:=false) (disch:=first|assumption|(refine ofR ?_;show norm _ _=_;kernel_rfl)|(refine ofR ?_;show okD _ _ _ _=true;kernel_rfl)|exact ofR (by with_unfolding_all rfl)|exact ofB (by with_unfolding_all rfl)|omega|(simp only [go_sem,bz];omega)) only [go_sem,Nat.reduceAdd,Nat.reduceBEq,uzb,rjc,h1,hl']
 ·rw [decide_eq_false h] at h1 ⊢
  simp (maxSteps:=3000000) (implicitDefEqProofs:=false) (disch:=first|assumption|(refine ofR ?_;show norm _ _=_;kernel_rfl)|(refine ofR ?_;show okD _ _ _ _=true;kernel_rfl)|exact ofR (by with_unfolding_all rfl)|exact ofB (by with_unfolding_all rfl)|omega|(simp only [go_sem,bz];omega)) only [go_sem,Nat.reduceAdd,Nat.reduceBEq,uzb,rjc,h1]
end Go.Proofs.YtjdcidigbbbckaaDoor.VM
