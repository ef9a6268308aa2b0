/- Functions of the library whose contracts are shown. Printed by a program of ours. -/
import Derived.Test.YtlhpnpknjggcpaaGreatDoorNum
import Derived.Test.YtlhpnpknjggcpaaGreatDoorVmLst
import Derived.Test.YtlhpnpknjggcpaaGreatDoorVmCl
import Derived.Test.YtlhpnpknjggcpaaGreatDoorVmTrim
namespace Go.Proofs.YtlhpnpknjggcpaaGreatDoor.VM
open Go
def extL:List (Nat×Callee):= [(vks,⟨[.ro 0],false,false,cloneGo vag 8⟩),
 (vid,⟨[.mut 0],false,false,cloneGoM vai 32⟩),
 (vt9,⟨[.ro 0,.ro 0],false,true,trimGo⟩)]
def ext (f:Nat):Option Callee:=look extL f
