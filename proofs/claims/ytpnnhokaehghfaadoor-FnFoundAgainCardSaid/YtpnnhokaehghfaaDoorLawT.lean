/- Numbers, texts and bytes as data of the interpreter. -/
import Derived.Test.YtpnnhokaehghfaaDoorVmSlc
import Derived.Test.YtpnnhokaehghfaaDoorVmLst
import Derived.Test.YtpnnhokaehghfaaDoorVmSt
namespace Go.Proofs.YtpnnhokaehghfaaDoor.VM
open Go Sy
def vic (x:Int):PV:= .a (.int .i64 x)
theorem qb1 (x:Int):vic x= .a (.int .i64 x):=rfl
attribute [go_sem] qb1
def eStr (s:ByteArray):PV:= .a (.string s)
theorem qoh:nfzL []=true:=rfl
theorem vzl {c:PV} {cs:List PV}:nfzL (c::cs)=(nfz c&&nfzL cs):=rfl
theorem qun {v:Value}:nfz (.a v)=true:=rfl
theorem qst {cs:List PV}:nfz (.st cs)=nfzL cs:=rfl
theorem qr3 {e:Nat} {es:List PV}:nfz (.sl e es)=nfzL es:=rfl
theorem qsg:(true&&true)=true:=rfl
theorem qbc:∀{a b:List PV},nfzL (a++b)=(nfzL a&&nfzL b)
 | [],b=>by simp [nfzL]
 |x::a,b=>by simp [nfzL,qbc (a:=a),Bool.and_assoc]
theorem vq8 {α:Type} {f:α→PV} (h:∀x,nfz (f x)=true):∀l:List α,nfzL (l.map f)=true
 | []=>rfl
 |x::l=>by rw [List.map_cons,vzl,h,vq8 h l];rfl
theorem qmd (l:List Int):nfzL (l.map vic)=true:=vq8 (fun _=>rfl) l
theorem qle (l:List ByteArray):nfzL (l.map eStr)=true:=vq8 (fun _=>rfl) l
theorem qcm (s:ByteArray):eStr s= .a (.string s):=rfl
attribute [go_sem] qoh vzl qun qst qr3 qsg qbc qmd qle
attribute [go_sem] qcm
section
variable {α:Type}
end
section
variable {α:Type}
variable {m:Int→α→PV} {w:α→Nat}
end
