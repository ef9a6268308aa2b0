/- Lists: changed one element after the other. No program in sight. -/
import Derived.Test.YtkidnhclcbcglaaGreatVmSt
namespace Go.Proofs.YtkidnhclcbcglaaGreat.VM.Sy
def updL {α β:Type} (f g:Nat→α→β) (i:Nat) (l:List α):List β:=l.mapIdx fun j x=>if j<i then g j x else f j x
section
variable {α β:Type} {f g:Nat→α→β} {l:List α}
theorem vsl {i:Nat}:(updL f g i l).length=l.length:=by simp [updL]
attribute [go_sem] vsl
end
def updM {α β:Type} (f g:α→β) (i:Nat) (l:List α):List β:=updL (fun _=>f) (fun _=>g) i l
def updR {α β:Type} (z:β) (g:α→β) (i:Nat) (l:List α):List β:=updL (fun _ _=>z) (fun _=>g) i l
def updI {α β:Type} (f:α→β) (g:Nat→β) (i:Nat) (l:List α):List β:=updL (fun _=>f) (fun j _=>g j) i l
section
variable {α β:Type} {f g:α→β} {h:Nat→β} {z:β} {l:List α} {i:Nat}
theorem qw6:(updM f g i l).length=l.length:=vsl
theorem qwr:(updR z g i l).length=l.length:=vsl
theorem qwv:(updI f h i l).length=l.length:=vsl
attribute [go_sem] qw6 qwr qwv
end
theorem qvg {n:Nat}:(List.range n).length=n:=List.length_range
attribute [go_sem] qvg
