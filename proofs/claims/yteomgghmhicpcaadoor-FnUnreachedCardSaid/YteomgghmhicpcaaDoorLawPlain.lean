/- FnExactPlain: what it computes. -/
import Derived.Test.YteomgghmhicpcaaDoorLawP
import Derived.Test.YteomgghmhicpcaaDoorLawT
namespace Go.Proofs.YteomgghmhicpcaaDoor.VM
open Go Sy
variable {Φ:Nat→Option Callee} {N:Nat}
def plOf (ts:List ByteArray) (g:Gr):Gr:=if graphOk ts g=true then plainG ts g else ⟨[],[]⟩
theorem vrq {ts:List ByteArray} {g:Gr} (hg:Small ts g):(plOf ts g).roots.length≤40∧(plOf ts g).nodes.length≤400∧∀o∈(plOf ts g).nodes,o.vals.length≤23:=by
 unfold plOf
 split
 ·rename_i c
  exact vez (Right.of hg c)
 ·exact ⟨by simp,by simp,by simp⟩
theorem vfw {d:Nat} {ts:List ByteArray} {g:Gr} (hg:Small ts g):runFn (T (d+7)) fuel f_impl_Plain [.sl true t_string (ts.map eStr),cGr true g]=some ([cGr false (plOf ts g)],[]):=by
 have h1:=vcj (d:=d) hg
 rw [vae rfl]
 unfold plOf
 cases c1:graphOk ts g
 ·rw [c1] at h1
  simp (maxSteps:=3000000) (implicitDefEqProofs:=false) (disch:=first|assumption|(refine ofR ?_;show norm _ _=_;kernel_rfl)|(refine ofR ?_;show okD _ _ _ _=true;kernel_rfl)|exact ofR (by with_unfolding_all rfl)|exact ofB (by with_unfolding_all rfl)|omega|(simp only [go_sem,vab];omega)) only [go_sem,Nat.reduceAdd,Nat.reduceBEq,f_impl_Plain,c_impl_Plain,h1]
  (show some _=some _;kernel_rfl)
 ·rw [c1] at h1
  have h3:=vhe (d:=d+4) (Right.of hg c1)
  simp (maxSteps:=3000000) (implicitDefEqProofs:=false) (disch:=first|assumption|(refine ofR ?_;show norm _ _=_;kernel_rfl)|(refine ofR ?_;show okD _ _ _ _=true;kernel_rfl)|exact ofR (by with_unfolding_all rfl)|exact ofB (by with_unfolding_all rfl)|omega|(simp only [go_sem,vab];omega)) only [go_sem,Nat.reduceAdd,Nat.reduceBEq,f_impl_Plain,c_impl_Plain,h1,h3]
theorem vlj {d:Nat} {ts:List ByteArray} {g:Gr} (hg:Small ts g):runFn (T (d+4)) fuel f_spec_Plain [.sl true t_string (ts.map eStr),cGr true g]=some ([cGr false (plOf ts g)],[]):=by
 have h1:=vb1 (d:=d) hg
 rw [vae rfl]
 unfold plOf
 cases c1:graphOk ts g
 ·rw [c1] at h1
  simp (maxSteps:=3000000) (implicitDefEqProofs:=false) (disch:=first|assumption|(refine ofR ?_;show norm _ _=_;kernel_rfl)|(refine ofR ?_;show okD _ _ _ _=true;kernel_rfl)|exact ofR (by with_unfolding_all rfl)|exact ofB (by with_unfolding_all rfl)|omega|(simp only [go_sem,vab];omega)) only [go_sem,Nat.reduceAdd,Nat.reduceBEq,f_spec_Plain,c_spec_Plain,h1]
  (show some _=some _;kernel_rfl)
 ·rw [c1] at h1
  have h3:=vfg (d:=d+1) (Right.of hg c1)
  simp (maxSteps:=3000000) (implicitDefEqProofs:=false) (disch:=first|assumption|(refine ofR ?_;show norm _ _=_;kernel_rfl)|(refine ofR ?_;show okD _ _ _ _=true;kernel_rfl)|exact ofR (by with_unfolding_all rfl)|exact ofB (by with_unfolding_all rfl)|omega|(simp only [go_sem,vab];omega)) only [go_sem,Nat.reduceAdd,Nat.reduceBEq,f_spec_Plain,c_spec_Plain,h1,h3]
end Go.Proofs.YteomgghmhicpcaaDoor.VM
