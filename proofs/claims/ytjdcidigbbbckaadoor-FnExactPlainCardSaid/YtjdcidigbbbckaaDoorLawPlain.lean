/- FnExactPlain: what it computes. -/
import Derived.Test.YtjdcidigbbbckaaDoorLawP
import Derived.Test.YtjdcidigbbbckaaDoorLawT
namespace Go.Proofs.YtjdcidigbbbckaaDoor.VM
open Go Sy
variable {Φ:Nat→Option Callee} {N:Nat}
def plOf (ts:List ByteArray) (g:Gr):Gr:=if xkc ts g=true then rxd ts g else ⟨[],[]⟩
theorem fjh {ts:List ByteArray} {g:Gr} (hg:Small ts g):(plOf ts g).roots.length≤40∧(plOf ts g).nodes.length≤400∧ ∀o∈(plOf ts g).nodes,o.vals.length≤23:=by
 unfold plOf
 split
 ·rename_i c
  exact hzg (Right.of hg c)
 ·exact ⟨by simp,by simp,by simp⟩
theorem jzf {d:Nat} {ts:List ByteArray} {g:Gr} (hg:Small ts g):uz (T (d+7)) fuel qxb [.sl true lz (ts.map eStr),cGr true g]=some ([cGr false (plOf ts g)],[]):=by
 have h1:=oje (d:=d) hg
 rw [bq rfl]
 unfold plOf
 cases c1:xkc ts g
 ·rw [c1] at h1
  simp (maxSteps:=3000000) (implicitDefEqProofs:=false) (disch:=first|assumption|(refine ofR ?_;show norm _ _=_;kernel_rfl)|(refine ofR ?_;show okD _ _ _ _=true;kernel_rfl)|exact ofR (by with_unfolding_all rfl)|exact ofB (by with_unfolding_all rfl)|omega|(simp only [go_sem,bz];omega)) only [go_sem,Nat.reduceAdd,Nat.reduceBEq,qxb,fjd,h1]
  rfl
 ·rw [c1] at h1
  have h3:=oxh (d:=d+4) (Right.of hg c1)
  simp (maxSteps:=3000000) (implicitDefEqProofs:=false) (disch:=first|assumption|(refine ofR ?_;show norm _ _=_;kernel_rfl)|(refine ofR ?_;show okD _ _ _ _=true;kernel_rfl)|exact ofR (by with_unfolding_all rfl)|exact ofB (by with_unfolding_all rfl)|omega|(simp only [go_sem,bz];omega)) only [go_sem,Nat.reduceAdd,Nat.reduceBEq,qxb,fjd,h1,h3]
theorem izf {d:Nat} {ts:List ByteArray} {g:Gr} (hg:Small ts g):uz (T (d+4)) fuel oxb [.sl true lz (ts.map eStr),cGr true g]=some ([cGr false (plOf ts g)],[]):=by
 have h1:=mje (d:=d) hg
 rw [bq rfl]
 unfold plOf
 cases c1:xkc ts g
 ·rw [c1] at h1
  simp (maxSteps:=3000000) (implicitDefEqProofs:=false) (disch:=first|assumption|(refine ofR ?_;show norm _ _=_;kernel_rfl)|(refine ofR ?_;show okD _ _ _ _=true;kernel_rfl)|exact ofR (by with_unfolding_all rfl)|exact ofB (by with_unfolding_all rfl)|omega|(simp only [go_sem,bz];omega)) only [go_sem,Nat.reduceAdd,Nat.reduceBEq,oxb,zzd,h1]
  rfl
 ·rw [c1] at h1
  have h3:=yjg (d:=d+1) (Right.of hg c1)
  simp (maxSteps:=3000000) (implicitDefEqProofs:=false) (disch:=first|assumption|(refine ofR ?_;show norm _ _=_;kernel_rfl)|(refine ofR ?_;show okD _ _ _ _=true;kernel_rfl)|exact ofR (by with_unfolding_all rfl)|exact ofB (by with_unfolding_all rfl)|omega|(simp only [go_sem,bz];omega)) only [go_sem,Nat.reduceAdd,Nat.reduceBEq,oxb,zzd,h1,h3]
end Go.Proofs.YtjdcidigbbbckaaDoor.VM
