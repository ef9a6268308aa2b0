/- Likeness of graphs: the program's and the reference's. -/
import Derived.Test.YtjdcidigbbbckaaDoorEqLaw
namespace Go.Proofs.YtjdcidigbbbckaaDoor.VM
open Go Sy
variable {Φ:Nat→Option Callee} {N:Nat}
def kje (ts:List ByteArray) (g h:Gr):Bool:=axb ts g&&(axb ts h&&lzf (aqc ts g) (aqc ts h))
theorem tkc {d:Nat} {ts:List ByteArray} {g h:Gr} (hg:Small ts g) (hh:Small ts h):fj (T (d+7)) fuel xqb [.sl true mz (ts.map eStr),cGr true g,cGr true h]=some ([.a (.bool (kje ts g h))],[]):=by
 have h1:=tqc (d:=d) hg
 have h2:=tqc (d:=d) hh
 rw [sj rfl]
 unfold kje
 cases c1:axb ts g
 ·rw [c1] at h1
  simp (maxSteps:=3000000) (implicitDefEqProofs:=false) (disch:=first|assumption|(refine ofR ?_;show norm _ _=_;kernel_rfl)|(refine ofR ?_;show okD _ _ _ _=true;kernel_rfl)|exact ofR (by with_unfolding_all rfl)|exact ofB (by with_unfolding_all rfl)|omega|(simp only [go_sem,bz];omega)) only [go_sem,Nat.reduceAdd,Nat.reduceBEq,xqb,nkc,h1]
 ·rw [c1] at h1
  cases c2:axb ts h
  ·rw [c2] at h2
   simp (maxSteps:=3000000) (implicitDefEqProofs:=false) (disch:=first|assumption|(refine ofR ?_;show norm _ _=_;kernel_rfl)|(refine ofR ?_;show okD _ _ _ _=true;kernel_rfl)|exact ofR (by with_unfolding_all rfl)|exact ofB (by with_unfolding_all rfl)|omega|(simp only [go_sem,bz];omega)) only [go_sem,Nat.reduceAdd,Nat.reduceBEq,xqb,nkc,h1,h2]
  ·rw [c2] at h2
   have r1:=Right.of hg c1
   have r2:=Right.of hh c2
   have h3:=qkf (d:=d+4) r1
   have h4:=qkf (d:=d+4) r2
   obtain ⟨s1,s2,s3⟩:=pje r1
   have h5:=jqf (d:=d+3) (aqc ts g) (aqc ts h) (by omega) (by omega) (fun o ho=>by have:=s3 o ho;omega)
   generalize aqc ts g=P1 at*
   generalize aqc ts h=P2 at*
   simp (maxSteps:=3000000) (implicitDefEqProofs:=false) (disch:=first|assumption|(refine ofR ?_;show norm _ _=_;kernel_rfl)|(refine ofR ?_;show okD _ _ _ _=true;kernel_rfl)|exact ofR (by with_unfolding_all rfl)|exact ofB (by with_unfolding_all rfl)|omega|(simp only [go_sem,bz];omega)) only [go_sem,Nat.reduceAdd,Nat.reduceBEq,xqb,nkc,h1,h2,h3,h4,h5]
theorem mzf {d:Nat} {ts:List ByteArray} {g h:Gr} (hg:Small ts g) (hh:Small ts h):fj (T (d+4)) fuel wqb [.sl true mz (ts.map eStr),cGr true g,cGr true h]=some ([.a (.bool (kje ts g h))],[]):=by
 have h1:=sqc (d:=d) hg
 have h2:=sqc (d:=d) hh
 rw [sj rfl]
 unfold kje
 cases c1:axb ts g
 ·rw [c1] at h1
  simp (maxSteps:=3000000) (implicitDefEqProofs:=false) (disch:=first|assumption|(refine ofR ?_;show norm _ _=_;kernel_rfl)|(refine ofR ?_;show okD _ _ _ _=true;kernel_rfl)|exact ofR (by with_unfolding_all rfl)|exact ofB (by with_unfolding_all rfl)|omega|(simp only [go_sem,bz];omega)) only [go_sem,Nat.reduceAdd,Nat.reduceBEq,wqb,lkc,h1]
 ·rw [c1] at h1
  cases c2:axb ts h
  ·rw [c2] at h2
   simp (maxSteps:=3000000) (implicitDefEqProofs:=false) (disch:=first|assumption|(refine ofR ?_;show norm _ _=_;kernel_rfl)|(refine ofR ?_;show okD _ _ _ _=true;kernel_rfl)|exact ofR (by with_unfolding_all rfl)|exact ofB (by with_unfolding_all rfl)|omega|(simp only [go_sem,bz];omega)) only [go_sem,Nat.reduceAdd,Nat.reduceBEq,wqb,lkc,h1,h2]
  ·rw [c2] at h2
   have r1:=Right.of hg c1
   have r2:=Right.of hh c2
   have h3:=gxe (d:=d+1) r1
   have h4:=gxe (d:=d+1) r2
   obtain ⟨s1,s2,s3⟩:=pje r1
   have h5:=qzh (d:=d+2) (aqc ts g) (aqc ts h) (by omega) (by omega) (fun o ho=>by have:=s3 o ho;omega)
   generalize aqc ts g=P1 at*
   generalize aqc ts h=P2 at*
   simp (maxSteps:=3000000) (implicitDefEqProofs:=false) (disch:=first|assumption|(refine ofR ?_;show norm _ _=_;kernel_rfl)|(refine ofR ?_;show okD _ _ _ _=true;kernel_rfl)|exact ofR (by with_unfolding_all rfl)|exact ofB (by with_unfolding_all rfl)|omega|(simp only [go_sem,bz];omega)) only [go_sem,Nat.reduceAdd,Nat.reduceBEq,wqb,lkc,h1,h2,h3,h4,h5]
end Go.Proofs.YtjdcidigbbbckaaDoor.VM
