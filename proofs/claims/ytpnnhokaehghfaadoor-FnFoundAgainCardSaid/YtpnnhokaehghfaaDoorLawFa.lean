/- FnFoundAgain: a day of a world; what it computes. -/
import Derived.Test.YtpnnhokaehghfaaDoorLawRead
namespace Go.Proofs.YtpnnhokaehghfaaDoor.VM
open Go Sy
variable {Φ:Nat→Option Callee} {N:Nat}
set_option maxRecDepth 100000
set_option maxHeartbeats 8000000
def aPV (k a b c:Int):PV:= .st [.a (.int .i64 k),.a (.int .i64 a),.a (.int .i64 b),.a (.int .i64 c),.a (.int .i64 (-1)),.sl vb6 []]
def dayL (n:Int):List PV:= [aPV 1 0 0 0,aPV 3 0 0 n,aPV 5 0 1 0,aPV 10 0 0 0,aPV 11 3 0 0,aPV 13 0 0 0,aPV 18 0 0 0,aPV 12 3 0 0,aPV 2 0 0 0,aPV 4 0 1 0,aPV 7 0 1 0,aPV 9 0 0 0]
def eAn (p:Int×Int):PV:= .st [.a (.int .i64 p.1),.a (.int .i64 p.2)]
def ansL (n:Int):List (Int×Int):= [(0,0),(0,0),(0,0),(0,0),(0,0),(0,0),(0,0),(0,0),(0,n),(0,1),(0,1),(0,1)]
def objL (n:Int):List PV:= [.st [.a (.int .i64 0),.sl vb6 [.a (.int .i64 n),.a (.int .i64 1)]]]
def rootL:List PV:= [.a (.int .i64 0),.a (.int .i64 0),.a (.int .i64 0),.a (.int .i64 1),.a (.int .i64 0),.a (.int .i64 0),.a (.int .i64 0),.a (.int .i64 0)]
def nowL:List PV:=([1,1,0,0,0,0,0,0,0,0,0,0,0,0,0,1,0,0,0,0]:List Int).map vic
theorem qc5 {d:Nat} (n:Int):vak (T (d+3)) var vhm [.a (.int .i64 n)]=some ([.sl false vqh (dayL n)],[]):=by kernel_rfl
theorem qbj {d:Nat} (n:Int):vak (T (d+3)) var vgj [.a (.int .i64 n)]=some ([.sl false vbn ((ansL n).map eAn)],[]):=by kernel_rfl
theorem vsi {d:Nat} (n:Int):vak (T (d+12)) var vdx [.sl true qau [.a (.string ⟨#[105,114]⟩)],.st [.sl true vb6 (List.replicate 8 (.a (.int .i64 0))),.sl true vc1 []],.sl true vqh (dayL n),.sl true vb6 []]=
  some ([.st [.a (.int .i64 0),.sl false vbn ((ansL n).map eAn),.sl false vb6 nowL,.sl false vc1 (objL n),.sl false vb6 rootL,.sl false vc1 (objL n),.a (.bool false),.a (.bool false),.a (.bool false),.a (.string ⟨#[]⟩),.sl false 142 [],.a (.int .i64 0)]],[]):=by kernel_rfl
