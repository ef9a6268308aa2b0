/- Likeness of graphs: the program's and the reference's. -/
import Derived.Test.YteomgghmhicpcaaDoorEqLaw
namespace Go.Proofs.YteomgghmhicpcaaDoor.VM
open Go Sy
variable {Φ:Nat→Option Callee} {N:Nat}
def alike (ts:List ByteArray) (g h:Gr):Bool:=graphOk ts g&&(graphOk ts h&&sameG (plainG ts g) (plainG ts h))
theorem vys {d:Nat} {ts:List ByteArray} {g h:Gr} (hg:Small ts g) (hh:Small ts h):runFn (T (d+7)) fuel f_impl_Alike [.sl true t_string (ts.map eStr),cGr true g,cGr true h]=some ([.a (.bool (alike ts g h))],[]):=by
 have h1:=vcj (d:=d) hg
 have h2:=vcj (d:=d) hh
 rw [vae rfl]
 unfold alike
 cases c1:graphOk ts g
 ·rw [c1] at h1
  simp (maxSteps:=3000000) (implicitDefEqProofs:=false) (disch:=first|assumption|(refine ofR ?_;show norm _ _=_;kernel_rfl)|(refine ofR ?_;show okD _ _ _ _=true;kernel_rfl)|exact ofR (by with_unfolding_all rfl)|exact ofB (by with_unfolding_all rfl)|omega|(simp only [go_sem,vab];omega)) only [go_sem,Nat.reduceAdd,Nat.reduceBEq,f_impl_Alike,c_impl_Alike,h1]
 ·rw [c1] at h1
  cases c2:graphOk ts h
  ·rw [c2] at h2
   simp (maxSteps:=3000000) (implicitDefEqProofs:=false) (disch:=first|assumption|(refine ofR ?_;show norm _ _=_;kernel_rfl)|(refine ofR ?_;show okD _ _ _ _=true;kernel_rfl)|exact ofR (by with_unfolding_all rfl)|exact ofB (by with_unfolding_all rfl)|omega|(simp only [go_sem,vab];omega)) only [go_sem,Nat.reduceAdd,Nat.reduceBEq,f_impl_Alike,c_impl_Alike,h1,h2]
  ·rw [c2] at h2
   have r1:=Right.of hg c1
   have r2:=Right.of hh c2
   have h3:=vhe (d:=d+4) r1
   have h4:=vhe (d:=d+4) r2
   obtain ⟨s1,s2,s3⟩:=vez r1
   have h5:=vnq (d:=d+3) (plainG ts g) (plainG ts h) (by omega) (by omega) (fun o ho=>by have:=s3 o ho;omega)
   generalize plainG ts g=P1 at *
   generalize plainG ts h=P2 at *
   simp (maxSteps:=3000000) (implicitDefEqProofs:=false) (disch:=first|assumption|(refine ofR ?_;show norm _ _=_;kernel_rfl)|(refine ofR ?_;show okD _ _ _ _=true;kernel_rfl)|exact ofR (by with_unfolding_all rfl)|exact ofB (by with_unfolding_all rfl)|omega|(simp only [go_sem,vab];omega)) only [go_sem,Nat.reduceAdd,Nat.reduceBEq,f_impl_Alike,c_impl_Alike,h1,h2,h3,h4,h5]
theorem vyy {d:Nat} {ts:List ByteArray} {g h:Gr} (hg:Small ts g) (hh:Small ts h):runFn (T (d+4)) fuel f_spec_Alike [.sl true t_string (ts.map eStr),cGr true g,cGr true h]=some ([.a (.bool (alike ts g h))],[]):=by
 have h1:=vb1 (d:=d) hg
 have h2:=vb1 (d:=d) hh
 rw [vae rfl]
 unfold alike
 cases c1:graphOk ts g
 ·rw [c1] at h1
  simp (maxSteps:=3000000) (implicitDefEqProofs:=false) (disch:=first|assumption|(refine ofR ?_;show norm _ _=_;kernel_rfl)|(refine ofR ?_;show okD _ _ _ _=true;kernel_rfl)|exact ofR (by with_unfolding_all rfl)|exact ofB (by with_unfolding_all rfl)|omega|(simp only [go_sem,vab];omega)) only [go_sem,Nat.reduceAdd,Nat.reduceBEq,f_spec_Alike,c_spec_Alike,h1]
 ·rw [c1] at h1
  cases c2:graphOk ts h
  ·rw [c2] at h2
   simp (maxSteps:=3000000) (implicitDefEqProofs:=false) (disch:=first|assumption|(refine ofR ?_;show norm _ _=_;kernel_rfl)|(refine ofR ?_;show okD _ _ _ _=true;kernel_rfl)|exact ofR (by with_unfolding_all rfl)|exact ofB (by with_unfolding_all rfl)|omega|(simp only [go_sem,vab];omega)) only [go_sem,Nat.reduceAdd,Nat.reduceBEq,f_spec_Alike,c_spec_Alike,h1,h2]
  ·rw [c2] at h2
   have r1:=Right.of hg c1
   have r2:=Right.of hh c2
   have h3:=vfg (d:=d+1) r1
   have h4:=vfg (d:=d+1) r2
   obtain ⟨s1,s2,s3⟩:=vez r1
   have h5:=vr8 (d:=d+2) (plainG ts g) (plainG ts h) (by omega) (by omega) (fun o ho=>by have:=s3 o ho;omega)
   generalize plainG ts g=P1 at *
   generalize plainG ts h=P2 at *
   simp (maxSteps:=3000000) (implicitDefEqProofs:=false) (disch:=first|assumption|(refine ofR ?_;show norm _ _=_;kernel_rfl)|(refine ofR ?_;show okD _ _ _ _=true;kernel_rfl)|exact ofR (by with_unfolding_all rfl)|exact ofB (by with_unfolding_all rfl)|omega|(simp only [go_sem,vab];omega)) only [go_sem,Nat.reduceAdd,Nat.reduceBEq,f_spec_Alike,c_spec_Alike,h1,h2,h3,h4,h5]
end Go.Proofs.YteomgghmhicpcaaDoor.VM
