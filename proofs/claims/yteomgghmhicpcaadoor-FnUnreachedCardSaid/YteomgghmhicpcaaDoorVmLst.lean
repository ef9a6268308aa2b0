/- Lists: changed one element after the other. No program in sight. -/
import Derived.Test.YteomgghmhicpcaaDoorVmSt
namespace Go.Proofs.YteomgghmhicpcaaDoor.VM.Sy
def updL {α β:Type} (f g:Nat→α→β) (i:Nat) (l:List α):List β:=l.mapIdx fun j x=>if j<i then g j x else f j x
section
variable {α β:Type} {f g:Nat→α→β} {l:List α}
@[go_sem] theorem vfc {i:Nat}:(updL f g i l).length=l.length:=by simp [updL]
theorem vjt {i:Nat} {x:α} (h:l[i]? =some x):(updL f g i l)[i]? =some (f i x):=by simp [updL,h]
theorem vju {i:Nat} {x:α} (h:l[i]? =some x):(updL f g i l).set i (g i x)=updL f g (i+1) l:=by
 apply List.ext_getElem?
 intro j
 simp only [updL,List.getElem?_set,List.getElem?_mapIdx,List.length_mapIdx]
 by_cases hij:i=j
 ·subst hij
  have hlt:=(List.getElem?_eq_some_iff.1 h).1
  rw [h]
  simp [hlt]
 ·simp only [hij,if_false]
  cases l[j]? with
  |none=>rfl
  |some y=>
   simp only [Option.map_some,Option.some.injEq]
   by_cases h1:j<i
   ·rw [if_pos h1,if_pos (by omega)]
   ·rw [if_neg h1,if_neg (by omega)]
theorem vhy:updL f g 0 l=l.mapIdx f:=by simp [updL]
theorem vjg:updL f g l.length l=l.mapIdx g:=by
 apply List.ext_getElem?
 intro j
 simp only [updL,List.getElem?_mapIdx]
 cases h:l[j]? with
 |none=>rfl
 |some y=>
  have:=(List.getElem?_eq_some_iff.1 h).1
  simp [this]
theorem vdm {h:α→β}:l.mapIdx (fun _ x=>h x)=l.map h:=by
 apply List.ext_getElem?
 intro j
 simp
theorem vjq {z:β}:l.mapIdx (fun _ _=>z)=List.replicate l.length z:=by
 apply List.ext_getElem?
 intro j
 simp only [List.getElem?_mapIdx,List.getElem?_replicate]
 by_cases h:j<l.length
 ·simp [h]
 ·simp [h]
end
def updM {α β:Type} (f g:α→β) (i:Nat) (l:List α):List β:=updL (fun _=>f) (fun _=>g) i l
def updR {α β:Type} (z:β) (g:α→β) (i:Nat) (l:List α):List β:=updL (fun _ _=>z) (fun _=>g) i l
def updI {α β:Type} (f:α→β) (g:Nat→β) (i:Nat) (l:List α):List β:=updL (fun _=>f) (fun j _=>g j) i l
section
variable {α β:Type} {f g:α→β} {h:Nat→β} {z:β} {l:List α} {i:Nat}
@[go_sem] theorem qcq:(updM f g i l).length=l.length:=vfc
@[go_sem] theorem qct:(updR z g i l).length=l.length:=vfc
@[go_sem] theorem qcm:(updI f h i l).length=l.length:=vfc
theorem qhp {x:α} (hx:l[i]? =some x):(updM f g i l)[i]? =some (f x):=vjt hx
theorem qh8 {x:α} (hx:l[i]? =some x):(updR z g i l)[i]? =some z:=vjt hx
theorem qiy {x:α} (hx:l[i]? =some x):(updI f h i l)[i]? =some (f x):=vjt hx
theorem qlh {x:α} (hx:l[i]? =some x):(updM f g i l).set i (g x)=updM f g (i+1) l:=vju (f:=fun _=>f) (g:=fun _=>g) hx
theorem qj4 {x:α} (hx:l[i]? =some x):(updR z g i l).set i (g x)=updR z g (i+1) l:=vju (f:=fun _ _=>z) (g:=fun _=>g) hx
theorem qiw {x:α} (hx:l[i]? =some x):(updI f h i l).set i (h i)=updI f h (i+1) l:=vju (f:=fun _=>f) (g:=fun j _=>h j) hx
theorem qfe:updM f g 0 l=l.map f:=by rw [updM,vhy,vdm]
theorem qgb:updR z g 0 l=List.replicate l.length z:=by rw [updR,vhy,vjq]
theorem qgv:updI f h 0 l=l.map f:=by rw [updI,vhy,vdm]
theorem qjm:updM f g l.length l=l.map g:=by rw [updM,vjg,vdm]
theorem qh9:updR z g l.length l=l.map g:=by rw [updR,vjg,vdm]
theorem qhe:updI f h l.length l=(List.range l.length).map h:=by
 rw [updI,vjg]
 apply List.ext_getElem?
 intro j
 simp only [List.getElem?_mapIdx,List.getElem?_map]
 by_cases hj:j<l.length
 ·simp [hj]
 ·simp [hj]
end
@[go_sem] theorem qaq {n:Nat}:(List.range n).length=n:=List.length_range
end Go.Proofs.YteomgghmhicpcaaDoor.VM.Sy
