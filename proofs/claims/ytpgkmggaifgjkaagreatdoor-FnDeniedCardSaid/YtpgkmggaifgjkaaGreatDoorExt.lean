/- Functions of the library whose contracts are shown. -/
import Derived.Test.YtpgkmggaifgjkaaGreatDoorNum
import Derived.Test.YtpgkmggaifgjkaaGreatDoorVmLs
import Derived.Test.YtpgkmggaifgjkaaGreatDoorVmCl
import Derived.Test.YtpgkmggaifgjkaaGreatDoorVmTrim
set_option linter.all false
namespace Go.Proofs.YtpgkmggaifgjkaaGreatDoor.VM
open Go
def extL:List (Nat×Callee):= [(vj6,⟨[.ro 0],false,false,cloneGo vae 8⟩),
 (vhx,⟨[.mut 0],false,false,cloneGoM vaj 32⟩),
 (vru,⟨[.ro 0,.ro 0],false,true,trimGo⟩)]
def ext (f:Nat):Option Callee:=look extL f
