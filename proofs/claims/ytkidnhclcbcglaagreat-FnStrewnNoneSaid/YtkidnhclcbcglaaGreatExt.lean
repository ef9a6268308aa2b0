/- Functions of the library whose contracts are shown. Printed by a program of ours. -/
import Derived.Test.YtkidnhclcbcglaaGreatNum
import Derived.Test.YtkidnhclcbcglaaGreatVmLst
import Derived.Test.YtkidnhclcbcglaaGreatVmCl
namespace Go.Proofs.YtkidnhclcbcglaaGreat.VM
open Go
def extL:List (Nat×Callee):= [(vkh,⟨[.ro 0],false,false,cloneGo vam 8⟩)]
def ext (f:Nat):Option Callee:=look extL f
