/- The interpreter 'VM'. -/
import Derived.Test.YtpgkmggaifgjkaaGreatDoorVmSt
import Derived.Test.YtpgkmggaifgjkaaGreatDoorVmGz
open List renaming all_eq_true->Aa
set_option linter.all false
namespace Go.Proofs.YtpgkmggaifgjkaaGreatDoor.VM
open Go
def OkF (P:Program) (writes:Nat->Bool) (x:Nat×Fn):Prop:=∃fn,P.funcs[x.1]? =some fn/\(fn.name== "runtime.NumGoroutine")=false/\isForm P writes fn x.2
theorem okF {P:Program} {writes:Nat->Bool} {n:Nat} {fn:Func} {v:Fn} (h:P.funcs[n]? =some fn) (c:Code) (hb:fn.body=some c) (h1:(fn.name== "runtime.NumGoroutine")=false:=by kernel_rfl)
  (h2:comp P fn.ntmps writes c (hints v.body)=some (v.body,[]):=by kernel_rfl) (h3:cRes P fn.results.toList=some v.results:=by kernel_rfl) (h4:v.modes.length<=fn.ntmps:=by decide) (h5:fn.ntmps<=10000:=by decide)
  (h6:resLow fn.results.toList=true:=by decide) (h7:(v.keeps&&hasFrz v.body)=false:=by kernel_rfl):OkF P writes (n,v):=⟨fn,h,h1,c,hb,h2,h3,h4,h5,h6,h7⟩
inductive AllOk (P:Program) (writes:Nat->Bool):List (Nat×Fn)->Prop
 |nil:AllOk P writes []
 |cons {x:Nat×Fn} {l:List (Nat×Fn)} (h:OkF P writes x) (hs:AllOk P writes l):AllOk P writes (x::l)
theorem AllOk.look {P:Program} {writes:Nat->Bool} {l:List (Nat×Fn)} (h:AllOk P writes l) {f:Nat} {v:Fn} (hl:VM.look l f=some v):OkF P writes (f,v):=by
 induction h with
 |nil=>cases hl
 | @cons x l h hs ih=>
  obtain ⟨g,u⟩:=x;simp only [VM.look] at hl;split at hl
  ·rename_i hg;cases hl;subst hg;exact h
  ·exact ih hl
def isRo:Md->Bool
 | .ro _=>true
 |_=>false
def stillB (writes:Nat->Bool) (l:List (Nat×Fn)):Bool:=l.all λx=>(writes x.1||(x.2.scalar&&x.2.modes.all isRo))&&(writes (x.1+1000000)||x.2.modes.all isRo)
theorem voq {ms:List Md} (h:ms.all isRo=true):AllRo ms:=by
 intro m hm;have:=Aa.1 h m hm;cases m with
 |ro n=>exact ⟨n,rfl⟩
 |«mut» n=>cases this
theorem qec {α:Type}:∀{l:List (Nat×α)} {k:Nat} {v:α},look l k=some v->(k,v)∈l:=vm2
theorem vwk {P:Program} {writes:Nat->Bool} {tab:List (Nat×Fn)} {ext:Nat->Option Callee} {N:Nat} (hm:P.follows .mixedOrders=true) (ht:AllOk P writes tab) (hst:stillB writes tab=true) (he:∀f c,ext f=some c->Sound P f c/\(writes f=false->Still c)/\(writes (f+1000000)=false->AllRo c.modes)):
  ∀d,Good P writes (tower tab ext N d)
 |0=>⟨λf c h=>(by cases h),λf c h=>(by cases h),λf c h=>(by cases h)⟩
 |d+1=>by
  have ih:=vwk (N:=N) hm ht hst he d;refine ⟨λf c h=> ?_,λf c h hw=> ?_,λf c h hw=> ?_⟩
  ·simp only [tower] at h;split at h
   ·rename_i c' hc;cases h;exact (he f _ hc).1
   ·split at h
    ·rename_i v hv;cases h;obtain ⟨fn,h1,h2,h3⟩:=ht.look hv;exact qmd ih hm h1 h2 h3 (go:=vag (tower tab ext N d) N v) λcs r hr=>⟨N,hr⟩
    ·cases h
  ·simp only [tower] at h;split at h
   ·rename_i c' hc;cases h;exact (he f _ hc).2.1 hw
   ·split at h
    ·rename_i v hv;cases h;unfold stillB at hst;have:=Aa.1 hst _ (qec hv);simp only [hw,Bool.false_or,Bool.and_eq_true] at this;exact ⟨voq this.1.2,this.1.1⟩
    ·cases h
  ·simp only [tower] at h;split at h
   ·rename_i c' hc;cases h;exact (he f _ hc).2.2 hw
   ·split at h
    ·rename_i v hv;cases h;unfold stillB at hst;have:=Aa.1 hst _ (qec hv);simp only [hw,Bool.false_or,Bool.and_eq_true] at this;exact voq this.2
    ·cases h
