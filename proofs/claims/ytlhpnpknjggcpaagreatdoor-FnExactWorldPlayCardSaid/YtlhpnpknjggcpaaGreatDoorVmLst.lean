/- Lists: changed one element after the other. No program in sight. -/
import Derived.Test.YtlhpnpknjggcpaaGreatDoorVmSt
open List renaming ext_getElem?->Aa,getElem?_mapIdx->Ab,getElem?_eq_some_iff->Ac,replicate->Ad,range->Ae
namespace Go.Proofs.YtlhpnpknjggcpaaGreatDoor.VM.Sy
def updL {α β:Type} (f g:Nat→α→β) (i:Nat) (l:List α):List β:=l.mapIdx fun j x=>if j<i then g j x else f j x
section
variable {α β:Type} {f g:Nat→α→β} {l:List α}
theorem vs8 {i:Nat}:(updL f g i l).length=l.length:=by simp [updL]
theorem vzn {i:Nat} {x:α} (h:l[i]? =some x):(updL f g i l)[i]? =some (f i x):=by simp [updL,h]
theorem vzi {i:Nat} {x:α} (h:l[i]? =some x):(updL f g i l).set i (g i x)=updL f g (i+1) l:=by
 apply Aa;intro j;simp only [updL,List.getElem?_set,Ab,List.length_mapIdx];by_cases hij:i=j
 ·subst hij;have hlt:=(Ac.1 h).1;rw [h];simp [hlt]
 ·simp only [hij,if_false];cases l[j]? with
  |none=>rfl
  |some y=>
   simp only [Option.map_some,Option.some.injEq];by_cases h1:j<i
   ·rw [if_pos h1,if_pos zo]
   ·rw [if_neg h1,if_neg zo]
theorem vwg:updL f g 0 l=l.mapIdx f:=by simp [updL]
theorem vzz:updL f g l.length l=l.mapIdx g:=by
 apply Aa;intro j;simp only [updL,Ab];cases h:l[j]? with
 |none=>rfl
 |some y=>
  have:=(Ac.1 h).1;simp [this]
theorem vse {h:α→β}:l.mapIdx (fun _ x=>h x)=l.map h:=by
 apply Aa;intro j;simp
theorem vz1 {z:β}:l.mapIdx (fun _ _=>z)=Ad l.length z:=by
 apply Aa;intro j;simp only [Ab,List.getElem?_replicate];by_cases h:j<l.length
 ·simp [h]
 ·simp [h]
attribute [go_sem] vs8
end
def updM {α β:Type} (f g:α→β) (i:Nat) (l:List α):List β:=updL (fun _=>f) (fun _=>g) i l
def updR {α β:Type} (z:β) (g:α→β) (i:Nat) (l:List α):List β:=updL (fun _ _=>z) (fun _=>g) i l
def updI {α β:Type} (f:α→β) (g:Nat→β) (i:Nat) (l:List α):List β:=updL (fun _=>f) (fun j _=>g j) i l
section
variable {α β:Type} {f g:α→β} {h:Nat→β} {z:β} {l:List α} {i:Nat}
theorem zca:(updM f g i l).length=l.length:=vs8
theorem zck:(updR z g i l).length=l.length:=vs8
theorem qjb:(updI f h i l).length=l.length:=vs8
theorem vvc {x:α} (hx:l[i]? =some x):(updR z g i l)[i]? =some z:=vzn hx
theorem quk {x:α} (hx:l[i]? =some x):(updI f h i l)[i]? =some (f x):=vzn hx
theorem vu8 {x:α} (hx:l[i]? =some x):(updR z g i l).set i (g x)=updR z g (i+1) l:=vzi (f:=fun _ _=>z) (g:=fun _=>g) hx
theorem qts {x:α} (hx:l[i]? =some x):(updI f h i l).set i (h i)=updI f h (i+1) l:=vzi (f:=fun _=>f) (g:=fun j _=>h j) hx
theorem vs6:updR z g 0 l=Ad l.length z:=by rw [updR,vwg,vz1]
theorem qpb:updI f h 0 l=l.map f:=by rw [updI,vwg,vse]
theorem vuq:updR z g l.length l=l.map g:=by rw [updR,vzz,vse]
theorem qu5:updI f h l.length l=(Ae l.length).map h:=by
 rw [updI,vzz];apply Aa;intro j;simp only [Ab,List.getElem?_map];by_cases hj:j<l.length
 ·simp [hj]
 ·simp [hj]
attribute [go_sem] zca zck qjb
end
theorem zam {n:Nat}:(Ae n).length=n:=List.length_range
attribute [go_sem] zam
