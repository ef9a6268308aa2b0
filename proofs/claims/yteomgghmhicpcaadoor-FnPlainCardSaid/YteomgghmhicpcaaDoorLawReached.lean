/- How many nodes are reached: the program's. -/
import Derived.Test.YteomgghmhicpcaaDoorLawAlk
import Derived.Test.YteomgghmhicpcaaDoorLawD
namespace Go.Proofs.YteomgghmhicpcaaDoor.VM
open Go Sy
theorem vpm (F:List Nat):unInts (F.map eNat)=some (F.map fun n:Nat=>(n:Int)):=by
 rw [show F.map eNat=(F.map fun n:Nat=>(n:Int)).map (fun n=>PV.a (.int .i64 n)) by rw [List.map_map];rfl]
 exact vr8 _
theorem vpu (F:List Nat) (h:F.length<4611686018427387904):sortGo t_i64 [.sl false t_i64 (F.map eNat)]=some ([],[.sl false t_i64 (((F.map fun n:Nat=>(n:Int)).mergeSort fun x y=>decide (x≤y)).map fun n=> .a (.int .i64 n))]):=by
 simp only [sortGo,vpm,List.length_map,h,and_self,if_true]
theorem vip {d:Nat} {ts:List ByteArray} {g:Gr} (hg:Small ts g):∃es:List PV,es.length=(if graphOk ts g=true then (found ts g).length else 0)∧runFn (T (d+7)) fuel f_impl_Reached [.sl true t_string (ts.map eStr),cGr true g]=some ([.sl false t_i64 es],[]):=by
 have h1:=vbv (d:=d) hg
 cases c1:graphOk ts g
 ·rw [c1] at h1
  refine ⟨[],rfl,?_⟩
  rw [vae rfl]
  simp (maxSteps:=3000000) (implicitDefEqProofs:=false) (disch:=first|assumption|(refine ofR ?_;show norm _ _=_;kernel_rfl)|(refine ofR ?_;show okD _ _ _ _=true;kernel_rfl)|exact ofR (by with_unfolding_all rfl)|exact ofB (by with_unfolding_all rfl)|omega|(simp only [go_sem,vab];omega)) only [go_sem,Nat.reduceAdd,Nat.reduceBEq,f_impl_Reached,c_impl_Reached,h1]
 ·rw [c1] at h1
  have r:=Right.of hg c1
  have hd:=vdl (d:=d+5) r
  have hI:=va0 ts g g.nodes.length
  have hle:(found ts g).length≤g.nodes.length:=hI.le
  have hn:=r.n
  have hs:=vpu (found ts g) (by omega)
  refine ⟨((found ts g).map fun n:Nat=>(n:Int)).mergeSort (fun x y=>decide (x≤y))|>.map fun n=> .a (.int .i64 n),by simp,?_⟩
  generalize found ts g=F at *
  rw [vae rfl]
  simp (maxSteps:=3000000) (implicitDefEqProofs:=false) (disch:=first|assumption|(refine ofR ?_;show norm _ _=_;kernel_rfl)|(refine ofR ?_;show okD _ _ _ _=true;kernel_rfl)|exact ofR (by with_unfolding_all rfl)|exact ofB (by with_unfolding_all rfl)|omega|(simp only [go_sem,vab];omega)) only [go_sem,Nat.reduceAdd,Nat.reduceBEq,f_impl_Reached,c_impl_Reached,h1,hd,hs]
end Go.Proofs.YteomgghmhicpcaaDoor.VM
