/- Lists: changed one element after the other. No program in sight. -/
import Derived.Test.YtpnnhokaehghfaaDoorVmSt
namespace Go.Proofs.YtpnnhokaehghfaaDoor.VM.Sy
def updL {α β:Type} (f g:Nat→α→β) (i:Nat) (l:List α):List β:=l.mapIdx fun j x=>if j<i then g j x else f j x
section
variable {α β:Type} {f g:Nat→α→β} {l:List α}
theorem vki {i:Nat}:(updL f g i l).length=l.length:=by simp [updL]
attribute [go_sem] vki
end
def updM {α β:Type} (f g:α→β) (i:Nat) (l:List α):List β:=updL (fun _=>f) (fun _=>g) i l
def updR {α β:Type} (z:β) (g:α→β) (i:Nat) (l:List α):List β:=updL (fun _ _=>z) (fun _=>g) i l
def updI {α β:Type} (f:α→β) (g:Nat→β) (i:Nat) (l:List α):List β:=updL (fun _=>f) (fun j _=>g j) i l
section
variable {α β:Type} {f g:α→β} {h:Nat→β} {z:β} {l:List α} {i:Nat}
theorem qfr:(updM f g i l).length=l.length:=vki
theorem qfz:(updR z g i l).length=l.length:=vki
theorem qfs:(updI f h i l).length=l.length:=vki
attribute [go_sem] qfr qfz qfs
end
theorem qe5 {n:Nat}:(List.range n).length=n:=List.length_range
attribute [go_sem] qe5
