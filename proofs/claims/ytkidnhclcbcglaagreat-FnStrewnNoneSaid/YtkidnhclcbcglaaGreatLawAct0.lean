/- Acts. -/
import Derived.Test.YtkidnhclcbcglaaGreatCode
import Derived.Test.YtkidnhclcbcglaaGreatLawT
namespace Go.Proofs.YtkidnhclcbcglaaGreat.VM
open Go Sy
variable {Φ:Nat→Option Callee} {N:Nat}
set_option maxRecDepth 100000
set_option maxHeartbeats 8000000
structure Act' where
 kind:Int
 a:Int
 b:Int
 c:Int
 power:Int
 keep:List Int
def va3 (x:Act'):PV:= .st [vap x.kind,vap x.a,vap x.b,vap x.c,vap x.power,.sl vam (x.keep.map vap)]
theorem vq3 (x:Act'):va3 x= .st [.a (.int .i64 x.kind),.a (.int .i64 x.a),.a (.int .i64 x.b),.a (.int .i64 x.c),.a (.int .i64 x.power),.sl vam (x.keep.map vap)]:=rfl
attribute [go_sem] vq3
abbrev cAct (z:Bool) (x:Act'):CV:= .st [.a (.int .i64 x.kind),.a (.int .i64 x.a),.a (.int .i64 x.b),.a (.int .i64 x.c),.a (.int .i64 x.power),.sl z vam (x.keep.map vap)]
structure Strew where
 at_:Int
 kind:Int
 a:Int
def vl1 (s:Strew):PV:= .st [vap s.at_,vap s.kind,vap s.a]
theorem qnc (s:Strew):vl1 s= .st [.a (.int .i64 s.at_),.a (.int .i64 s.kind),.a (.int .i64 s.a)]:=rfl
attribute [go_sem] qnc
structure Ans where
 code:Int
 n:Int
def eAns (a:Ans):PV:= .st [vap a.code,vap a.n]
theorem qsy (a:Ans):eAns a= .st [.a (.int .i64 a.code),.a (.int .i64 a.n)]:=rfl
attribute [go_sem] qsy
