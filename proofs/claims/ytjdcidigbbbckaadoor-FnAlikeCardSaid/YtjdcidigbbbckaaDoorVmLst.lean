/- Lists: changed one element after the other. No program in sight. -/
import Derived.Test.YtjdcidigbbbckaaDoorVmSt
namespace Go.Proofs.YtjdcidigbbbckaaDoor.VM.Sy
def updL {α β:Type} (f g:Nat→α→β) (i:Nat) (l:List α):List β:=l.mapIdx fun j x=>if j<i then g j x else f j x
section
variable {α β:Type} {f g:Nat→α→β} {l:List α}
@[go_sem] theorem dxd {i:Nat}:(updL f g i l).length=l.length:=by simp [updL]
theorem gqf {i:Nat} {x:α} (h:l[i]? =some x):(updL f g i l)[i]? =some (f i x):=by simp [updL,h]
theorem fqf {i:Nat} {x:α} (h:l[i]? =some x):(updL f g i l).set i (g i x)=updL f g (i+1) l:=by
 apply List.ext_getElem?
 intro j
 simp only [updL,List.getElem?_set,List.getElem?_mapIdx,List.length_mapIdx]
 by_cases hij:i=j
 ·subst hij
  have hlt:=(List.getElem?_eq_some_iff.1 h).1
  rw [h]
  simp [hlt]
 ·simp only [hij,if_false]
  cases l[j]? with
  |none=>rfl
  |some y=>
   simp only [Option.map_some,Option.some.injEq]
   by_cases h1:j<i
   ·rw [if_pos h1,if_pos (by omega)]
   ·rw [if_neg h1,if_neg (by omega)]
theorem wqe:updL f g 0 l=l.mapIdx f:=by simp [updL]
theorem hqf:updL f g l.length l=l.mapIdx g:=by
 apply List.ext_getElem?
 intro j
 simp only [updL,List.getElem?_mapIdx]
 cases h:l[j]? with
 |none=>rfl
 |some y=>
  have:=(List.getElem?_eq_some_iff.1 h).1
  simp [this]
theorem ikc {h:α→β}:l.mapIdx (fun _ x=>h x)=l.map h:=by
 apply List.ext_getElem?
 intro j
 simp
theorem cqe {z:β}:l.mapIdx (fun _ _=>z)=List.replicate l.length z:=by
 apply List.ext_getElem?
 intro j
 simp only [List.getElem?_mapIdx,List.getElem?_replicate]
 by_cases h:j<l.length
 ·simp [h]
 ·simp [h]
end
def updM {α β:Type} (f g:α→β) (i:Nat) (l:List α):List β:=updL (fun _=>f) (fun _=>g) i l
def updR {α β:Type} (z:β) (g:α→β) (i:Nat) (l:List α):List β:=updL (fun _ _=>z) (fun _=>g) i l
def updI {α β:Type} (f:α→β) (g:Nat→β) (i:Nat) (l:List α):List β:=updL (fun _=>f) (fun j _=>g j) i l
section
variable {α β:Type} {f g:α→β} {h:Nat→β} {z:β} {l:List α} {i:Nat}
@[go_sem] theorem iqj:(updM f g i l).length=l.length:=dxd
@[go_sem] theorem hqj:(updR z g i l).length=l.length:=dxd
@[go_sem] theorem jqj:(updI f h i l).length=l.length:=dxd
theorem yxl {x:α} (hx:l[i]? =some x):(updM f g i l)[i]? =some (f x):=gqf hx
theorem vxl {x:α} (hx:l[i]? =some x):(updR z g i l)[i]? =some z:=gqf hx
theorem bkl {x:α} (hx:l[i]? =some x):(updI f h i l)[i]? =some (f x):=gqf hx
theorem xxl {x:α} (hx:l[i]? =some x):(updM f g i l).set i (g x)=updM f g (i+1) l:=fqf (f:=fun _=>f) (g:=fun _=>g) hx
theorem uxl {x:α} (hx:l[i]? =some x):(updR z g i l).set i (g x)=updR z g (i+1) l:=fqf (f:=fun _ _=>z) (g:=fun _=>g) hx
theorem akl {x:α} (hx:l[i]? =some x):(updI f h i l).set i (h i)=updI f h (i+1) l:=fqf (f:=fun _=>f) (g:=fun j _=>h j) hx
theorem eqk:updM f g 0 l=l.map f:=by rw [updM,wqe,ikc]
theorem dqk:updR z g 0 l=List.replicate l.length z:=by rw [updR,wqe,cqe]
theorem fqk:updI f h 0 l=l.map f:=by rw [updI,wqe,ikc]
theorem zxl:updM f g l.length l=l.map g:=by rw [updM,hqf,ikc]
theorem wxl:updR z g l.length l=l.map g:=by rw [updR,hqf,ikc]
theorem ckl:updI f h l.length l=(List.range l.length).map h:=by
 rw [updI,hqf]
 apply List.ext_getElem?
 intro j
 simp only [List.getElem?_mapIdx,List.getElem?_map]
 by_cases hj:j<l.length
 ·simp [hj]
 ·simp [hj]
end
@[go_sem] theorem uzj {n:Nat}:(List.range n).length=n:=List.length_range
end Go.Proofs.YtjdcidigbbbckaaDoor.VM.Sy
