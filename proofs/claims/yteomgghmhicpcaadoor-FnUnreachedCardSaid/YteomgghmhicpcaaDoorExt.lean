/- Functions of the library whose contracts are shown. Printed by a program of ours. -/
import Derived.Test.YteomgghmhicpcaaDoorNum
import Derived.Test.YteomgghmhicpcaaDoorVmLst
import Derived.Test.YteomgghmhicpcaaDoorVmCl
import Derived.Test.YteomgghmhicpcaaDoorVmTrim
namespace Go.Proofs.YteomgghmhicpcaaDoor.VM
open Go
def extL:List (Nat×Callee):= [(n_slices_Clone_int64_int64,⟨[.ro 0],false,false,cloneGo t_i64 8⟩),
 (n_strings_Trim,⟨[.ro 0,.ro 0],false,true,trimGo⟩)]
def ext (f:Nat):Option Callee:=look extL f
end Go.Proofs.YteomgghmhicpcaaDoor.VM
