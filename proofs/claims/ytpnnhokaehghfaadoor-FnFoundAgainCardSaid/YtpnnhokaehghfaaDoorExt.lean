/- Functions of the library whose contracts are shown. Printed by a program of ours. -/
import Derived.Test.YtpnnhokaehghfaaDoorNum
import Derived.Test.YtpnnhokaehghfaaDoorVmLst
import Derived.Test.YtpnnhokaehghfaaDoorVmCl
import Derived.Test.YtpnnhokaehghfaaDoorVmTrim
namespace Go.Proofs.YtpnnhokaehghfaaDoor.VM
open Go
def extL:List (Nat×Callee):= [(vfg,⟨[.ro 0],false,false,cloneGo vb6 8⟩),
 (vdy,⟨[.mut 0],false,false,cloneGoM vc1 32⟩),
 (vk2,⟨[.ro 0,.ro 0],false,true,trimGo⟩)]
def ext (f:Nat):Option Callee:=look extL f
