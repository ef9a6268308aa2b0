/- Functions of the library whose contract is given. -/
import Derived.Test.YtkoljcjliihiiaaNum
import Derived.Test.YtkoljcjliihiiaaVmLst
namespace Go.Proofs.Ytkoljcjliihiiaa.VM
open Go
def extL : List (Nat × Callee) := []
def ext (f : Nat) : Option Callee := look extL f
end Go.Proofs.Ytkoljcjliihiiaa.VM
