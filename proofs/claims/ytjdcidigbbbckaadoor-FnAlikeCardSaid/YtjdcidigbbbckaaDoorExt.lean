/- Functions of the library whose contracts are shown. Printed by a program of ours. -/
import Derived.Test.YtjdcidigbbbckaaDoorNum
import Derived.Test.YtjdcidigbbbckaaDoorVmLst
import Derived.Test.YtjdcidigbbbckaaDoorVmCl
import Derived.Test.YtjdcidigbbbckaaDoorVmTrim
namespace Go.Proofs.YtjdcidigbbbckaaDoor.VM
open Go
def extL:List (Nat×Callee):= [(mjb,⟨[.ro 0],false,false,qxd oz 8⟩),
 (vkc,⟨[.ro 0,.ro 0],false,true,yqe⟩)]
def ext (f:Nat):Option Callee:=look extL f
end Go.Proofs.YtjdcidigbbbckaaDoor.VM
