/- The interpreter 'VM': the wxd of calls keeps its contracts. -/
import Derived.Test.YtjdcidigbbbckaaDoorVmSt
import Derived.Test.YtjdcidigbbbckaaDoorVmGz
namespace Go.Proofs.YtjdcidigbbbckaaDoor.VM
open Go
def OkF (P:Program) (kz:Nat→Bool) (x:Nat×Fn):Prop:= ∃fn,P.funcs[x.1]? =some fn∧(fn.name== "runtime.NumGoroutine")=false∧zzi P kz fn x.2
inductive AllOk (P:Program) (kz:Nat→Bool):List (Nat×Fn)→Prop
 |nil:AllOk P kz []
 |cons {x:Nat×Fn} {l:List (Nat×Fn)} (h:OkF P kz x) (hs:AllOk P kz l):AllOk P kz (x::l)
theorem AllOk.look {P:Program} {kz:Nat→Bool} {l:List (Nat×Fn)} (h:AllOk P kz l) {f:Nat} {v:Fn} (hl:VM.look l f=some v):OkF P kz (f,v):=by
 induction h with
 |nil=>cases hl
 | @cons x l h hs ih=>
   obtain ⟨g,u⟩:=x
   simp only [VM.look] at hl
   split at hl
   ·rename_i hg
    cases hl
    subst hg
    exact h
   ·exact ih hl
def isRo:Md→Bool
 | .ro _=>true
 |_=>false
def dxh (kz:Nat→Bool) (l:List (Nat×Fn)):Bool:=l.all fun x=>(kz x.1||(x.2.scalar&&x.2.modes.all isRo))&&(kz (x.1+1000000)||x.2.modes.all isRo)
theorem bze {ms:List Md} (h:ms.all isRo=true):hzf ms:=by
 intro m hm
 have:=List.all_eq_true.1 h m hm
 cases m with
 |ro n=>exact ⟨n,rfl⟩
 |«mut» n=>cases this
theorem bzi {α:Type}: ∀{l:List (Nat×α)} {k:Nat} {v:α},look l k=some v→(k,v)∈l:=mqd
theorem bjf {P:Program} {kz:Nat→Bool} {tab:List (Nat×Fn)} {ext:Nat→Option Callee} {N:Nat} (hm:P.follows .mixedOrders=true) (ht:AllOk P kz tab) (hst:dxh kz tab=true) (he: ∀f c,ext f=some c→Sound P f c∧(kz f=false→ixg c)∧hzf c.modes):
 ∀d,Good P kz (wxd tab ext N d)
 |0=>⟨fun f c h=>(by cases h),fun f c h=>(by cases h),fun f c h=>(by cases h)⟩
 |d+1=>by
  have ih:=bjf (N:=N) hm ht hst he d
  refine ⟨fun f c h=> ?_,fun f c h hw=> ?_,fun f c h hw=> ?_⟩
  ·simp only [wxd] at h
   split at h
   ·rename_i c' hc
    cases h
    exact (he f _ hc).1
   ·split at h
    ·rename_i v hv
     cases h
     obtain ⟨fn,h1,h2,h3⟩:=ht.look hv
     exact rki ih hm h1 h2 h3 (go:=fj (wxd tab ext N d) N v) fun cs r hr=>⟨N,hr⟩
    ·cases h
  ·simp only [wxd] at h
   split at h
   ·rename_i c' hc
    cases h
    exact (he f _ hc).2.1 hw
   ·split at h
    ·rename_i v hv
     cases h
     unfold dxh at hst
     have:=List.all_eq_true.1 hst _ (bzi hv)
     simp only [hw,Bool.false_or,Bool.and_eq_true] at this
     exact ⟨bze this.1.2,this.1.1⟩
    ·cases h
  ·simp only [wxd] at h
   split at h
   ·rename_i c' hc
    cases h
    exact (he f _ hc).2.2
   ·split at h
    ·rename_i v hv
     cases h
     unfold dxh at hst
     have:=List.all_eq_true.1 hst _ (bzi hv)
     simp only [hw,Bool.false_or,Bool.and_eq_true] at this
     exact bze this.2
    ·cases h
end Go.Proofs.YtjdcidigbbbckaaDoor.VM
