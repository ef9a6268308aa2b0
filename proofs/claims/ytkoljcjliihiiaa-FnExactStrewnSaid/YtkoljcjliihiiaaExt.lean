/- Functions of the library whose contracts are shown. Printed by a program of ours. -/
import Derived.Test.YtkoljcjliihiiaaNum
import Derived.Test.YtkoljcjliihiiaaVmLst
import Derived.Test.YtkoljcjliihiiaaVmCl
namespace Go.Proofs.Ytkoljcjliihiiaa.VM
open Go
def extL : List (Nat × Callee) := [(n_slices_Clone_int64_int64, ⟨[.ro 0], false, false, cloneGo t_i64 8⟩)]
def ext (f : Nat) : Option Callee := look extL f
end Go.Proofs.Ytkoljcjliihiiaa.VM
