/- Functions of the library whose contracts are shown. -/
import Derived.Test.YtpgkmggaifgjkaaGreatDoorNum
import Derived.Test.YtpgkmggaifgjkaaGreatDoorVmLs
import Derived.Test.YtpgkmggaifgjkaaGreatDoorVmCl
import Derived.Test.YtpgkmggaifgjkaaGreatDoorVmTrim
set_option linter.all false
namespace Go.Proofs.YtpgkmggaifgjkaaGreatDoor.VM
open Go
def extL:List (Nat×Callee):= [(vka,⟨[.ro 0],false,false,cloneGo vae 8⟩),
 (vh3,⟨[.mut 0],false,false,cloneGoM vai 32⟩),
 (vre,⟨[.ro 0,.ro 0],false,true,trimGo⟩)]
def ext (f:Nat):Option Callee:=look extL f
