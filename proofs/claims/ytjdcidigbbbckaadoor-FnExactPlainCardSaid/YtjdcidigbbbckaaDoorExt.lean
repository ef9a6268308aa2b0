/- Functions of the library whose contracts are shown. Printed by a program of ours. -/
import Derived.Test.YtjdcidigbbbckaaDoorNum
import Derived.Test.YtjdcidigbbbckaaDoorVmLst
import Derived.Test.YtjdcidigbbbckaaDoorVmCl
import Derived.Test.YtjdcidigbbbckaaDoorVmTrim
namespace Go.Proofs.YtjdcidigbbbckaaDoor.VM
open Go
def extL:List (Nat×Callee):= [(kzb,⟨[.ro 0],false,false,zqd nz 8⟩),
 (uxc,⟨[.ro 0,.ro 0],false,true,vqe⟩)]
def ext (f:Nat):Option Callee:=look extL f
end Go.Proofs.YtjdcidigbbbckaaDoor.VM
